/- Walk of the taking of texts off a source; for sources of at most 2^30 bytes. -/
import Derived.Test.YtnllofjjffflkaaGreatDoorE9
import Derived.Test.YtnllofjjffflkaaGreatDoorP1
set_option linter.unusedSimpArgs false
set_option linter.unusedVariables false
namespace Go.Proofs.YtnllofjjffflkaaGreatDoor
open Go.RowKit Gp
/-- A list that the call made out of the text in block B, or the stop. -/
def ListPost (l? : Option (List ByteArray)) (B : Nat) (w : World) (e : Ending) (w' : World) : Prop :=
  match l? with
  | some l => (∃ v, e = .returned v ∧ w'.ownsRow w.heap.size 9 1 v l.length (strs l)) ∧ w'.heap[B]? = some (.cells #[.string ⟨#[]⟩] 189 (0, 0)) ∧ w.grownBy w' (some B)
  | none => e = .panicked stopChain ∧ w.grownBy w' (some B)
theorem empty_eq {s : ByteArray} (h : s.size = 0) : s = ⟨#[]⟩ := by
  cases s with | mk d => simp only [ByteArray.mk.injEq]; exact Array.eq_empty_of_size_eq_zero h
theorem own_grown {w w1 : World} {base B : Nat} {e : TypeId} {size n : Nat} {v : Value} {xs : List Value} (h : w.ownsRow base e size v n xs) (hg : w.grownBy w1 (some B)) (hne : v.ownBlock ≠ some B) : w1.ownsRow base e size v n xs :=
  h.kept hg (.inr hne)
theorem takeNum_lt {s r : ByteArray} {n : Nat} (h : takeNum 1 s = some (n, r)) : n < 256 := by
  unfold takeNum at h
  split at h
  · rw [← (Prod.mk.inj (Option.some.inj h)).1]
    have := numB_lt s 1
    omega
  · cases h
set_option maxRecDepth 100000 in
set_option maxHeartbeats 4000000 in
theorem texts1_src (B : Nat) (s : ByteArray) (w : World) (hb : w.heap[B]? = some (.cells #[.string s] 189 (0, 0))) (hs : s.size ≤ 1073741824) :
    Calls Tryz.prog 201 #[.pointer (some ⟨B, 0, none⟩)] w (ListPost (textsP s) B w) := by
  obtain ⟨i0, hi0, hz0, hz1, hz2⟩ := info_parts info9
  have hc := cell_of_one hb
  have hBw : B < w.heap.size := (Array.getElem?_eq_some_iff.1 hb).1
  by_cases h0 : s.size = 0
  · have he := empty_of s h0
    have hp : textsP s = none := by rw [textsP, if_pos h0]
    go_enter Tryz.func201, Tryz.ntmps201
    go_wp2_with (go_at_call 77; refine (must_false _ _).mono ?_; rintro e w' ⟨rfl, rfl⟩)
    exact ⟨rfl, rfl, World.grownBy.refl _ _⟩
  · have he := empty_not s h0
    have hp : textsP s = takeTexts s.size s := by rw [textsP, if_neg h0]
    have HP := Lib.hid hp; clear hp
    go_enter Tryz.func201, Tryz.ntmps201
    go_wp2_with (go_at_call 77; refine (must_true _ _).mono ?_; rintro e w' ⟨rfl, rfl⟩)
    clear he hc
    go_loopw [2] (fun lv wr => ∃ (l : List ByteArray) (r : ByteArray), takeTexts s.size s = (takeTexts r.size r).map (l ++ ·) ∧ l.length + r.size ≤ s.size ∧ wr.heap[B]? = some (.cells #[.string r] 189 (0, 0)) ∧ wr.ownsRow w.heap.size 9 1 lv l.length (strs l) ∧ w.grownBy wr (some B)) (fun _ wr => match wr.cell? ⟨B, 0, none⟩ with | some (.string r) => r.size | _ => 0)
    case atStart => exact ⟨[], s, by simp, by simp, hb, ⟨rfl, .inl ⟨rfl, rfl⟩⟩, World.grownBy.refl _ _⟩
    case round =>
      obtain ⟨l, r, ht, hlr, hbr, hown, hg⟩ := hrel
      have hcr := cell_of_one hbr
      have HT := Lib.hid ht; clear ht
      have hne := own_ne hown hbr (by decide)
      by_cases hr : r.size = 0
      · have he := empty_of r hr
        have HG := Lib.hid (And.intro hbr (And.intro hown hg)); clear hbr hown hg
        go_wp2_with fail
        go_ret
        rw [HP.out, HT.out, hr, takeTexts, if_pos hr]
        simp only [Option.map_some, List.append_nil]
        refine ⟨⟨_, rfl, HG.out.2.1⟩, ?_, HG.out.2.2⟩
        rw [HG.out.1, empty_eq hr]
      · have he := empty_not r hr
        have hst := takeTexts_step hr
        cases hn : takeNum 1 r with
        | none =>
          exfalso
          unfold takeNum at hn
          split at hn
          · cases hn
          · omega
        | some x =>
          obtain ⟨n, r1⟩ := x
          have hs1 := takeNum_size hn
          have hn8 := takeNum_lt hn
          rw [hn] at hst
          simp only at hst
          have hnum := number_src B 1 r wr hbr (by decide) (by omega)
          rw [hn] at hnum
          have HN := Lib.hid hnum; clear hnum
          have hszr := hg.size
          cases hbs : takeBytes n r1 with
          | none =>
            rw [hbs] at hst
            have HS := Lib.hid hst; clear hst
            have HO := Lib.hid hown; clear hown
            have HG := Lib.hid hg; clear hg
            go_wp2_with fail
            refine HN.out.mono ?_
            rintro e w1 ⟨rfl, hb1, hg1⟩
            have hby := bytes_src B n r1 w1 hb1 (by omega)
            rw [hbs] at hby
            have HY := Lib.hid hby; clear hby
            have HB1 := Lib.hid (And.intro hb1 hg1); clear hb1 hg1
            go_wp2_with fail
            refine HY.out.mono ?_
            rintro e w2 ⟨rfl, hg2⟩
            have hpost : ListPost (textsP s) B w (.panicked stopChain) w2 := by
              rw [HP.out, HT.out, HS.out]
              exact ⟨rfl, HG.out.trans (HB1.out.2.trans hg2)⟩
            exact ⟨rfl, hpost⟩
          | some y =>
            obtain ⟨bs, t⟩ := y
            have hs2 := takeBytes_size hbs
            rw [hbs] at hst
            have HS := Lib.hid hst; clear hst
            have HG := Lib.hid hg; clear hg
            go_wp2_with fail
            refine HN.out.mono ?_
            rintro e w1 ⟨rfl, hb1, hg1⟩
            have hby := bytes_src B n r1 w1 hb1 (by omega)
            rw [hbs] at hby
            have HY := Lib.hid hby; clear hby
            have hown1 := own_grown hown hg1 hne
            have HB1 := Lib.hid (And.intro hb1 hg1); clear hb1 hg1 hown
            go_wp2_with fail
            refine HY.out.mono ?_
            rintro e w2 ⟨rfl, hb2, hg2⟩
            have hown2 := own_grown hown1 hg2 hne
            have hgw := HG.out.trans (HB1.out.2.trans hg2)
            have hsz2 := hgw.size
            have q1 : l.length + 1 ≤ maxLen := by unfold maxLen; omega
            have q2 : (l.length + 1) * 16 ≤ 140737488355328 := by omega
            have q3 : w.heap.size ≤ (w2.alloc (.cells #[.string bs] 9)).heap.size := by simp; omega
            have HG2 := Lib.hid (And.intro hb2 hgw); clear hb2 hg2 hgw hown1
            go_wp2_with (at_builtin; refine wpList_append_own _ rfl _ _ 89 rfl (w.heap.size) 9 i0 (.string ⟨#[]⟩) 1 16 Tryz.underlying89 hi0 hz0 hz1 hz2 rfl (by decide) _ _ _ rfl (hown2.alloc _) ⟨w2.heap.size, 0, none⟩ 1 1 [.string bs] rfl rfl (cell_one_new _ _ _) (by simp [Value.oneCell']) q1 q2 q3 ?_)
            intro v' w3 hown' hgrow _
            obtain ⟨g', cap', rfl⟩ := ownsRow_succ hown'
            have hB3 : w3.heap[B]? = some (.cells #[.string t] 189 (0, 0)) := by
              rw [hgrow.block B (by simp; omega) (fun e => own_ne hown2 HG2.out.1 (by decide) e.symm), Below.heap_alloc _ _ _ (by omega)]; exact HG2.out.1
            have hg3 : w.grownBy w3 (some B) := by
              refine ⟨hgrow.os.trans HG2.out.2.os, hgrow.tape.trans HG2.out.2.tape, hgrow.output.trans HG2.out.2.output, ?_, fun k hk hr => ?_⟩
              · have := hgrow.size; simp at this; omega
              · rw [hgrow.block k (by simp; omega) (fun e => by have := own_from hown2 k e.symm; omega), Below.heap_alloc _ _ _ (by omega)]
                exact HG2.out.2.block k hk hr
            have HB3 := Lib.hid (And.intro hB3 hg3); clear hB3 hg3 hgrow hown2
            have HO3 := Lib.hid hown'; clear hown'
            have hm1 : (match wr.cell? ⟨B, 0, none⟩ with | some (.string r) => r.size | _ => 0) = r.size := by rw [hcr]
            have hm2 : (match w3.cell? ⟨B, 0, none⟩ with | some (.string r) => r.size | _ => 0) = t.size := by rw [cell_of_one HB3.out.1]
            go_wp2
            go_roundw
            case rel =>
              refine ⟨l ++ [bs], t, ?_, by simp; omega, HB3.out.1, ?_, HB3.out.2⟩
              · rw [HT.out, HS.out]
                cases takeTexts t.size t <;> simp
              · rw [strs_append]; simpa [strs] using HO3.out
            case measure => rw [hm1, hm2]; omega
end Go.Proofs.YtnllofjjffflkaaGreatDoor
