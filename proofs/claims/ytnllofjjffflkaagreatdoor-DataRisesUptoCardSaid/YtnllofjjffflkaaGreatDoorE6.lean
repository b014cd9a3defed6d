/- Walk of TypeText; for every type. -/
import Derived.Test.YtnllofjjffflkaaGreatDoorE5
set_option linter.unusedSimpArgs false
set_option linter.unusedVariables false
namespace Go.Proofs.YtnllofjjffflkaaGreatDoor
open Go.RowKit Gp
def typeP (k : Nat) : Int × ByteArray := typeTab.getD k (0, ⟨#[]⟩)
theorem flat2 : ∀ (l : List (Int × ByteArray)) (k : Nat) (h : k < l.length), (l.flatMap fun p => [Value.int .i64 p.1, .string p.2])[2 * k]? = some (.int .i64 (l.getD k (0, ⟨#[]⟩)).1) ∧ (l.flatMap fun p => [Value.int .i64 p.1, .string p.2])[2 * k + 1]? = some (.string (l.getD k (0, ⟨#[]⟩)).2)
  | [], k, h => by simp at h
  | x :: r, 0, h => by simp
  | x :: r, k + 1, h => by
    have := flat2 r k (by simpa using h)
    rw [show 2 * (k + 1) = 2 * k + 2 from by omega]
    simpa using this
theorem tab_len : typeTab.length = 15 := rfl
/-- The table lies in block T. -/
def Tab (T : Nat) (w : World) : Prop := w.heap[T]? = some (.cells tabCells.toArray 149 (0, 0))
theorem Tab.cells {T : Nat} {w : World} (h : Tab T w) (k : Nat) (hk : k < 15) : w.cell? ⟨T, k * 2, none⟩ = some (.int .i64 (typeP k).1) ∧ w.cell? ⟨T, k * 2 + 1, none⟩ = some (.string (typeP k).2) := by
  have hc := flat2 typeTab k (by rw [tab_len]; exact hk)
  rw [Nat.mul_comm 2 k] at hc
  have h' : w.heap[T]? = some (.cells tabCells.toArray 149 (0, 0)) := h
  constructor
  · simp only [World.cell?, h', List.getElem?_toArray]; exact hc.1
  · simp only [World.cell?, h', List.getElem?_toArray]; exact hc.2
def typeW : ByteArray := ⟨#[84, 89, 80, 69]⟩
/-- A type's text. -/
def typeS (t : Int) : ByteArray := match typeTab.find? (fun p => p.1 == t) with
  | some p => p.2
  | none => typeW ++ itoaS t
def typeT (t : Int) : ByteArray × Int := if isTypeB t then (typeS t, 0) else (⟨#[]⟩, 1)
theorem find_drop {α : Type} (p : α → Bool) : ∀ (l : List α) (k : Nat) (_ : ∀ j (h : j < l.length), j < k → p l[j] = false), l.find? p = (l.drop k).find? p
  | [], k, _ => by simp
  | x :: r, 0, _ => rfl
  | x :: r, k + 1, h => by
    have h0 := h 0 (by simp) (by omega)
    simp only [List.getElem_cons_zero] at h0
    rw [List.find?_cons_of_neg (by simp [h0]), List.drop_succ_cons]
    exact find_drop p r k (fun j hj hk => by have := h (j + 1) (by simpa using hj) (by omega); simpa using this)
theorem typeS_at (t : Int) (k : Nat) (hk : k < 15) (hn : ∀ j, j < k → (typeP j).1 ≠ t) (h : (typeP k).1 = t) : typeS t = (typeP k).2 := by
  unfold typeS
  rw [find_drop _ typeTab k (fun j hj hjk => by
    have := hn j hjk
    unfold typeP at this
    rw [List.getD_eq_getElem?_getD, List.getElem?_eq_getElem hj] at this
    simpa using this)]
  have hk' : k < typeTab.length := by rw [tab_len]; exact hk
  rw [List.drop_eq_getElem_cons hk']
  have e : typeTab[k] = typeP k := by unfold typeP; rw [List.getD_eq_getElem?_getD, List.getElem?_eq_getElem hk']; rfl
  rw [e, List.find?_cons_of_pos (by simp [h])]
theorem typeS_none (t : Int) (hn : ∀ j, j < 15 → (typeP j).1 ≠ t) : typeS t = typeW ++ itoaS t := by
  unfold typeS
  rw [find_drop _ typeTab 15 (fun j hj hjk => by
    have := hn j hjk
    unfold typeP at this
    rw [List.getD_eq_getElem?_getD, List.getElem?_eq_getElem hj] at this
    simpa using this)]
  rfl
set_option maxRecDepth 100000 in
set_option maxHeartbeats 2000000 in
theorem typeText_any (t : Int) (w : World) (hE : Env w) : Calls Tryz.prog 102 #[.int .i64 t] w fun e w' => e = .returned (.tuple #[.string (typeT t).1, .int .i64 (typeT t).2]) ∧ Below w.heap.size w w' := by
  by_cases ht : isTypeB t = true
  · have hT : 0 ≤ t ∧ t < 65536 := by simpa [isTypeB] using ht
    have hr : typeT t = (typeS t, 0) := by rw [typeT, if_pos ht]
    have HR := Lib.hid hr; clear hr
    go_enter Tryz.func102, Tryz.ntmps102
    go_wp2_with fail
    refine (isType_any t w).mono ?_
    rintro e w1 ⟨rfl, rfl⟩
    go_wp2_with fail
    refine (typeNames_any w1).mono ?_
    rintro e w2 ⟨rfl, rfl⟩
    go_wp2_with fail
    go_loopw [11] (fun iv wr => ∃ k : Nat, k ≤ 15 ∧ iv = .int .i64 (k : Int) ∧ (∀ j, j < k → (typeP j).1 ≠ t) ∧ Tab w1.heap.size wr ∧ Below w1.heap.size w1 wr) (fun iv _ => 15 - (intOf iv).toNat)
    case atStart => exact ⟨0, by omega, rfl, fun j h => absurd h (by omega), World.alloc_heap_new _ _, (Below.refl _ _).alloc (Nat.le_refl _) _⟩
    case round =>
      obtain ⟨k, hk, rfl, hno, hTab, hB⟩ := hrel
      have HN := Lib.hid hno; clear hno
      have HB := Lib.hid hB; clear hB
      have hszr := HB.out.size
      by_cases hlt : k < 15
      · obtain ⟨c0, c1⟩ := hTab.cells k hlt
        have HT := Lib.hid hTab; clear hTab
        by_cases heq : (typeP k).1 = t
        · have b1 : ((typeP k).1 == t) = true := beq_iff_eq.2 heq
          go_wp2_with fail
          go_ret2
          refine ⟨?_, HB.out.alloc (by omega) _⟩
          rw [HR.out, typeS_at t k hlt HN.out heq]; rfl
        · have b1 : ((typeP k).1 == t) = false := beq_eq_false_iff_ne.2 heq
          go_wp2_with fail
          go_roundw
          case rel => exact ⟨k + 1, by omega, by go_num, fun j hj => (Nat.lt_succ_iff_lt_or_eq.1 hj).elim (HN.out j) (fun e => e ▸ heq), Blk.alloc HT.out _, HB.out.alloc (by omega) _⟩
          case measure => simp [intOf]; omega
      · obtain rfl : k = 15 := by omega
        go_wp2_with fail
        refine (Tryz.strconv_Itoa t (by omega) (by omega) wr (hE.below HB.out hE.size).tab).mono ?_
        rintro e w4 ⟨rfl, hw4⟩
        have hil := Lib.itoa_length_le t (by omega) (by omega)
        go_wp2_with fail
        go_ret2
        obtain ⟨k, os, rfl⟩ := hw4
        refine ⟨?_, Lib.below_grow _ _ hszr _ _ |> fun h => HB.out.trans h⟩
        rw [HR.out, typeS_none t HN.out]; rfl
  · have hr : typeT t = (⟨#[]⟩, 1) := by rw [typeT, if_neg ht]
    have hf : isTypeB t = false := by simpa using ht
    go_enter Tryz.func102, Tryz.ntmps102
    go_wp2_with fail
    refine (isType_any t w).mono ?_
    rintro e w1 ⟨rfl, rfl⟩
    rw [hf]
    go_wp2
    go_ret2
    rw [hr]; exact ⟨rfl, Below.refl _ _⟩
end Go.Proofs.YtnllofjjffflkaaGreatDoor
