/- Walk of TypeOf; for every text. -/
import Derived.Test.YtnllofjjffflkaaGreatDoorE6
set_option linter.unusedSimpArgs false
set_option linter.unusedVariables false
namespace Go.Proofs.YtnllofjjffflkaaGreatDoor
open Go.RowKit Gp
theorem str_eq {a b : ByteArray} (h : a = b) : (a.toList == b.toList) = true := by rw [h]; exact beq_iff_eq.2 rfl
theorem str_ne {a b : ByteArray} (h : a ≠ b) : (a.toList == b.toList) = false := by
  rw [ByteArray.toList_eq, ByteArray.toList_eq]
  refine beq_eq_false_iff_ne.2 (fun e => h ?_)
  cases a; cases b
  simp only [ByteArray.mk.injEq]
  exact Array.toList_inj.1 e
theorem tab_find (p : Int × ByteArray → Bool) (k : Nat) (hk : k < 15) (hn : ∀ j, j < k → p (typeP j) = false) (h : p (typeP k) = true) : typeTab.find? p = some (typeP k) := by
  have hk' : k < typeTab.length := by rw [tab_len]; exact hk
  rw [find_drop _ typeTab k (fun j hj hjk => by
    have := hn j hjk
    unfold typeP at this
    rw [List.getD_eq_getElem?_getD, List.getElem?_eq_getElem hj] at this
    simpa using this), List.drop_eq_getElem_cons hk']
  have e : typeTab[k] = typeP k := by unfold typeP; rw [List.getD_eq_getElem?_getD, List.getElem?_eq_getElem hk']; rfl
  rw [e, List.find?_cons_of_pos h]
theorem tab_none (p : Int × ByteArray → Bool) (hn : ∀ j, j < 15 → p (typeP j) = false) : typeTab.find? p = none := by
  rw [find_drop _ typeTab 15 (fun j hj hjk => by
    have := hn j hjk
    unfold typeP at this
    rw [List.getD_eq_getElem?_getD, List.getElem?_eq_getElem hj] at this
    simpa using this)]
  rfl
def cutS (s : ByteArray) : ByteArray := ofL (Lib.trimPrefix s.data.toList typeW.data.toList)
def typeM (s : ByteArray) : Lib.NumEnd Int → Int × Int
  | .ok v => if typeT v = (s, 0) then (v, 0) else (0, 7)
  | _ => (0, 7)
/-- A type that is told by its number. -/
def typeN (s : ByteArray) : Int × Int :=
  if Lib.hasPrefix s.data.toList typeW.data.toList = true ∧ (cutS s).size < 6 then typeM s (Lib.atoiAll (cutS s).data.toList) else (0, 7)
/-- The type that a text tells. -/
def typeOfS (s : ByteArray) : Int × Int := match typeTab.find? (fun p => decide (p.2 = s)) with
  | some p => (p.1, 0)
  | none => typeN s
set_option maxRecDepth 100000 in
set_option maxHeartbeats 4000000 in
theorem typeOf_any (s : ByteArray) (w : World) (hE : Env w) : Calls Tryz.prog 50 #[.string s] w fun e w' => e = .returned (.tuple #[.int .i64 (typeOfS s).1, .int .i64 (typeOfS s).2]) ∧ Below w.heap.size w w' := by
  go_enter Tryz.func50, Tryz.ntmps50
  go_wp2_with fail
  refine (typeNames_any w).mono ?_
  rintro e w2 ⟨rfl, rfl⟩
  go_wp2_with fail
  go_loopw [14] (fun iv wr => ∃ k : Nat, k ≤ 15 ∧ iv = .int .i64 (k : Int) ∧ (∀ j, j < k → (typeP j).2 ≠ s) ∧ Tab w.heap.size wr ∧ Below w.heap.size w wr) (fun iv _ => 15 - (intOf iv).toNat)
  case atStart => exact ⟨0, by omega, rfl, fun j h => absurd h (by omega), World.alloc_heap_new _ _, (Below.refl _ _).alloc (Nat.le_refl _) _⟩
  case round =>
    obtain ⟨k, hk, rfl, hno, hTab, hB⟩ := hrel
    have HN := Lib.hid hno; clear hno
    have HB := Lib.hid hB; clear hB
    have hszr := HB.out.size
    by_cases hlt : k < 15
    · obtain ⟨c0, c1⟩ := hTab.cells k hlt
      have HT := Lib.hid hTab; clear hTab
      by_cases heq : (typeP k).2 = s
      · have b1 := str_eq heq
        go_wp2_with fail
        go_ret2
        have h : typeOfS s = ((typeP k).1, 0) := by
          unfold typeOfS
          rw [tab_find (fun p => decide (p.2 = s)) k hlt (fun j hj => by simpa using HN.out j hj) (by simpa using heq)]
        rw [h]
        exact ⟨rfl, HB.out.alloc (by omega) _⟩
      · have b1 := str_ne heq
        go_wp2_with fail
        exact ⟨⟨k + 1, by omega, by go_num, fun j hj => (Nat.lt_succ_iff_lt_or_eq.1 hj).elim (HN.out j) (fun e => e ▸ heq), Blk.alloc HT.out _, HB.out.alloc (by omega) _⟩, by simp [intOf]; omega⟩
    · obtain rfl : k = 15 := by omega
      have hof : typeOfS s = typeN s := by
        unfold typeOfS
        rw [tab_none (fun p => decide (p.2 = s)) (fun j hj => by simpa using HN.out j hj)]
      have HF := Lib.hid hof
      clear hof HN hTab
      have key := Tryz.strings_CutPrefix s ⟨#[84, 89, 80, 69]⟩ wr
      have hx : (⟨(Lib.trimPrefix s.data.toList [84, 89, 80, 69]).toArray⟩ : ByteArray) = cutS s := rfl
      have hN : typeN s = if Lib.hasPrefix s.data.toList [84, 89, 80, 69] = true ∧ (cutS s).size < 6 then typeM s (Lib.atoiAll (cutS s).data.toList) else (0, 7) := rfl
      rw [hx] at key
      simp only at key
      clear hx
      revert key hN
      generalize cutS s = x
      generalize Lib.hasPrefix s.data.toList [84, 89, 80, 69] = p
      intro key hN
      have HN := Lib.hid hN; clear hN
      have HK := Lib.hid key; clear key
      go_wp2_with fail
      refine HK.out.mono ?_
      rintro e w4 ⟨rfl, rfl⟩
      cases p with
      | true =>
        by_cases h6 : x.size < 6
        · cases hat : Lib.atoiAll x.data.toList with
          | ok v =>
            have HA := Lib.hid hat; clear hat
            go_wp2_with fail
            refine (Tryz.strconv_Atoi_ok x (by omega) v HA.out w4).mono ?_
            rintro e w5 ⟨rfl, hw5⟩
            have hB5 : Below w4.heap.size w4 w5 := by
              rcases hw5 with rfl | ⟨q, rfl⟩
              · exact Below.refl _ _
              · exact bytesW_below _ _ _
            clear hw5
            have hE5 := hE.below (HB.out.trans (hB5.mono hszr)) hE.size
            have HB5 := Lib.hid (HB.out.trans (hB5.mono hszr)); clear hB5
            go_wp2_with fail
            refine (typeText_any v w5 hE5).mono ?_
            rintro e w6 ⟨rfl, hB6⟩
            have HB6 := Lib.hid (HB5.out.trans (hB6.mono HB5.out.size)); clear hB6
            obtain ⟨r, hr⟩ : ∃ r, r = typeT v := ⟨_, rfl⟩
            rw [← hr]
            obtain ⟨a, b⟩ := r
            by_cases hb : b = 0
            · subst hb
              by_cases ha : a = s
              · have b1 := str_eq ha
                have HR := Lib.hid hr; clear hr
                have HS := Lib.hid ha; clear ha
                go_wp2
                go_ret2
                rw [HF.out, HN.out, if_pos ⟨by trivial, h6⟩, HA.out, typeM, ← HR.out, if_pos (by rw [HS.out])]
                exact ⟨rfl, HB6.out⟩
              · have b1 := str_ne ha
                have HR := Lib.hid hr; clear hr
                have HS := Lib.hid ha; clear ha
                go_wp2
                go_ret2
                rw [HF.out, HN.out, if_pos ⟨by trivial, h6⟩, HA.out, typeM, ← HR.out, if_neg (fun e => HS.out (Prod.mk.inj e).1)]
                exact ⟨rfl, HB6.out⟩
            · have HR := Lib.hid hr; clear hr
              go_wp2
              go_ret2
              rw [HF.out, HN.out, if_pos ⟨by trivial, h6⟩, HA.out, typeM, ← HR.out, if_neg (fun e => hb (Prod.mk.inj e).2)]
              exact ⟨rfl, HB6.out⟩
          | range =>
            have HA := Lib.hid hat; clear hat
            obtain ⟨tp, q, hv⟩ := (hE.below HB.out hE.size).rng
            go_wp2_with fail
            refine (Tryz.strconv_Atoi_range_var x (by omega) HA.out tp q w4 hv).mono ?_
            rintro e w5 ⟨M, rfl, _, _, hB5⟩
            have HB5 := Lib.hid (HB.out.trans (hB5.mono hszr)); clear hB5
            go_wp2
            go_ret2
            rw [HF.out, HN.out, if_pos ⟨by trivial, h6⟩, HA.out]
            exact ⟨rfl, HB5.out⟩
          | _ =>
            have HA := Lib.hid hat; clear hat
            obtain ⟨tp, q, hv⟩ := (hE.below HB.out hE.size).syn
            go_wp2_with fail
            refine (Tryz.strconv_Atoi_syntax_var x (by omega) HA.out tp q w4 hv).mono ?_
            rintro e w5 ⟨M, rfl, _, _, hB5⟩
            have HB5 := Lib.hid (HB.out.trans (hB5.mono hszr)); clear hB5
            go_wp2
            go_ret2
            rw [HF.out, HN.out, if_pos ⟨by trivial, h6⟩, HA.out]
            exact ⟨rfl, HB5.out⟩
        · go_wp2
          go_ret2
          rw [HF.out, HN.out, if_neg (fun h => h6 h.2)]
          exact ⟨rfl, HB.out⟩
      | false =>
        go_wp2
        go_ret2
        rw [HF.out, HN.out, if_neg (fun h => by cases h.1)]
        exact ⟨rfl, HB.out⟩
end Go.Proofs.YtnllofjjffflkaaGreatDoor
