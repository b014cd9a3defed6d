/- Walks of labels and of the test of a name; for texts of at most 2^30 bytes. -/
import Derived.Test.YtnllofjjffflkaaGreatDoorW1
set_option linter.unusedSimpArgs false
set_option linter.unusedVariables false
namespace Go.Proofs.YtnllofjjffflkaaGreatDoor
open Go.RowKit Go.Shelf Gp
attribute [local go_sem] Oper.semAt_some

theorem labels_any (s : ByteArray) (w : World) : Calls Tryz.prog 179 #[.string s] w fun e w' =>
    e = .returned (.func (.func 227) #[] #[.pointer (some ⟨w.heap.size, 0, none⟩)]) ∧ w' = w.alloc (.cells #[.string s] 9) := by
  have hmf : ∀ (fn : Fn) (first cap : Array Value) (w : World), (Instr.makeFunc fn first cap).run Tryz.prog w = .ok (.func fn first cap) w := fun _ _ _ _ => rfl
  go_enter Tryz.func179, Tryz.ntmps179
  go_wp2
  go_ret
  exact ⟨rfl, rfl⟩
theorem lab_size {s : ByteArray} {i : Nat} (h : okAt s i) : (lab s i).size = bN s i := by
  have := h.2.2.2
  unfold lab; rw [ByteArray.size_extract]; omega
def endv (s : ByteArray) (pre : List (Pos s)) : Nat := match pre.getLast? with | some x => x.1 + 1 + bN s x.1 | none => 0
theorem endv_nil (s : ByteArray) : endv s [] = 0 := rfl
theorem endv_snoc (s : ByteArray) (pre : List (Pos s)) (x : Pos s) : endv s (pre ++ [x]) = x.1 + 1 + bN s x.1 := by simp [endv]
theorem endv_all (s : ByteArray) (pre : List (Pos s)) (h : pre.map (·.1) = labs s) : endv s pre = endOf s s.size 0 := by
  rw [endOf_eq, ← labs, ← h]
  unfold endv
  rw [List.getLast?_map]
  cases pre.getLast? <;> rfl

theorem right_short (s : ByteArray) (w : World) (h : s.size = 0 ∨ 255 < s.size) : Calls Tryz.prog 103 #[.string s] w fun e w' => e = .returned (.bool false) ∧ w' = w := by
  rcases h with h | h
  · have b1 : ((s.size : Int) == 0) = true := by simp [h]
    clear h
    go_enter Tryz.func103, Tryz.ntmps103
    go_wp2
    go_ret
    simp
  · have b1 : ((s.size : Int) == 0) = false := beq_eq_false_iff_ne.2 (by omega)
    have b2 : decide ((255 : Int) < s.size) = true := by simp; omega
    go_enter Tryz.func103, Tryz.ntmps103
    go_wp2
    go_ret
    simp
set_option maxRecDepth 100000 in
set_option maxHeartbeats 1000000 in
theorem right_long (s : ByteArray) (w : World) (h0 : s.size ≠ 0) (h1 : s.size ≤ 255) : Calls Tryz.prog 103 #[.string s] w fun e w' =>
    e = .returned (.bool (decide (endOf s s.size 0 = s.size - 1) && decide (bN s (s.size - 1) = 0))) ∧ Below w.heap.size w w' := by
  have b1 : ((s.size : Int) == 0) = false := beq_eq_false_iff_ne.2 (by omega)
  have b2 : decide ((255 : Int) < (s.size : Int)) = false := by simp; omega
  refine (callsIn_wide (n := 10)).1 ?_
  refine callsIn_of_wp_marks Tryz.func103 rfl trivial ?_ rfl
  simp only [Tryz.ntmps103, List.size_toArray, List.length_cons, List.length_nil, Nat.reduceAdd, Nat.reduceSub, Array.replicate_succ, Array.replicate_zero, List.push_toArray, List.append_toArray, List.nil_append, List.cons_append]
  gi_wp2_with (refine ⟨trivial, ?_⟩; gi_at_call 179; refine (callsIn_wide.2 (labels_any _ _)).mono ?_; rintro e w' ⟨rfl, rfl⟩)
  have hb := World.alloc_heap_new (w.alloc (.cells #[.int .i64 0] 3)) (.cells #[.string s] 9)
  rw [World.size_alloc] at hb
  have hc0 : ((w.alloc (.cells #[.int .i64 0] 3)).alloc (.cells #[.string s] 9)).heap[w.heap.size]? = some (.cells #[.int .i64 0] 3 (0, 0)) := (Below.heap_alloc _ _ _ (by simp)).trans (World.alloc_heap_new w _)
  refine wpIn_rangeFunc_ownG (n := 10) rfl (by decide) (gf := 227) (lb := #[.pointer (some ⟨w.heap.size + 1, 0, none⟩)]) rfl trivial (enters_of Tryz.func227 (by kernel_rfl) rfl)
    (labels_stops (w.heap.size + 1) s ((w.alloc (.cells #[.int .i64 0] 3)).alloc (.cells #[.string s] 9)) (by omega) hb) (fun h k => h.trans k) (fun W l o o' hl h a b => Keeps.putObj (w := ((w.alloc (.cells #[.int .i64 0] 3)).alloc (.cells #[.string s] 9))) (by simp only [World.size_alloc]; omega) W l o o' hl h a b) (Below.refl _ _) (fun _ => rfl)
    (fun pre W => (W.cell? ⟨w.heap.size, 0, none⟩ = some (.int .i64 (endv s pre : Int)) ∧ W.frozen? ⟨w.heap.size, 0, none⟩ = false) ∧ Below w.heap.size w W)
    (fun _ _ _ => False)
    (OwnFrom.and (Own.from (fun s A B row hs hg hr => ⟨cell_kept hs.1 hg hr, (frozen_kept hs.1 hg hr).trans hs.2⟩) _) (ownFrom_below (Nat.le_refl _) (by simp; omega)))
    (fun _ _ _ _ _ hs _ _ => hs)
    ⟨⟨cell_of_one hc0, free_of_one hc0⟩, ((Below.refl _ w).alloc (Nat.le_refl _) _).alloc (by simp) _⟩
    (fun x => { tmps := #[.string s, undef, .bool false, .pointer (some ⟨w.heap.size, 0, none⟩), .int .i64 (x.1 : Int), .string (lab s x.1), .string s, .int .i64 (s.size : Int), .bool false, .bool false, .string s, .int .i64 (s.size : Int), .bool false, .bool false, .string s, .func (.func 227) #[] #[.pointer (some ⟨w.heap.size + 1, 0, none⟩)], .int .i64 (x.1 : Int), .string (lab s x.1), undef, undef, undef, undef, undef, undef, undef, undef, undef, undef, undef, undef, undef, undef, undef, undef], defers := [] }) ?assign ?body ?done ?stop
  case assign =>
    intro l x W K hK
    gi_wp2
    exact hK
  case body =>
    rintro l pre x W ⟨⟨hc, hf⟩, hB⟩ _
    have hx := x.2.2.2.2
    have hl := lab_size x.2
    have hle : (x.1 : Int) + 1 + ((lab s x.1).size : Int) ≤ 1000 := by omega
    have HL := Lib.hid hl; clear hl
    gi_wp2
    refine ⟨(KeepsOthers.setCell _ _ _).from _, fun o ho => (Below.heap_setCell _ _ _ _ (by simp)).trans ho, ⟨?_, ?_⟩, hB.setCell (p := ⟨w.heap.size, 0, none⟩) (Nat.le_refl _) _⟩
    · rw [endv_snoc, World.cell?_setCell_same' _ _ _ (by rw [hc]; rfl), HL.out]; simp
    · rw [World.frozen?_setCell]; exact hf
  case done =>
    rintro D xs W hD hS ⟨⟨hc, hf⟩, hB⟩ hK
    rw [endv_all s xs hS] at hc
    have hle := endOf_le s s.size 0 (Nat.zero_le _)
    by_cases he : endOf s s.size 0 = s.size - 1
    · have hlt : endOf s s.size 0 < s.size := by omega
      have hx := run_idx s _ hlt
      have h255 := bN_lt s (endOf s s.size 0)
      have b3 : ((endOf s s.size 0 : Int) == (s.size : Int) - 1) = true := beq_iff_eq.2 (by omega)
      have HE := Lib.hid he; clear he
      gi_wp2
      refine ⟨by simp, .inl ⟨_, _, rfl, run_takeDeferred hK, ?_⟩⟩
      refine ⟨_, results_tmp rfl _ _ _, ?_, hB.trans (belowK_b (w := w) (Nat.le_refl _) W D _ _ (by simp at hD; omega) hK rfl rfl)⟩
      refine ret_bool ?_
      rw [HE.out, Bool.eq_iff_iff]; simp
    · have b3 : ((endOf s s.size 0 : Int) == (s.size : Int) - 1) = false := beq_eq_false_iff_ne.2 (by omega)
      have HE := Lib.hid he; clear he
      gi_wp2
      refine ⟨by simp, .inl ⟨_, _, rfl, run_takeDeferred hK, ?_⟩⟩
      refine ⟨_, results_tmp rfl _ _ _, ?_, hB.trans (belowK_b (w := w) (Nat.le_refl _) W D _ _ (by simp at hD; omega) hK rfl rfl)⟩
      exact ret_bool (by rw [decide_eq_false HE.out]; rfl)
  case stop =>
    rintro D c pre W _ _ h _
    exact h.elim
theorem right_any (s : ByteArray) (w : World) : Calls Tryz.prog 103 #[.string s] w fun e w' => e = .returned (.bool (rightB s)) ∧ Below w.heap.size w w' := by
  by_cases h0 : s.size = 0
  · refine (right_short s w (.inl h0)).mono ?_
    rintro e w' ⟨rfl, rfl⟩
    exact ⟨by simp [rightB, h0], Below.refl _ _⟩
  by_cases h1 : s.size ≤ 255
  · refine (right_long s w h0 h1).mono ?_
    rintro e w' ⟨rfl, hB⟩
    exact ⟨by simp [rightB, h0, h1], hB⟩
  · refine (right_short s w (.inr (by omega))).mono ?_
    rintro e w' ⟨rfl, rfl⟩
    exact ⟨by simp [rightB, h1], Below.refl _ _⟩
end Go.Proofs.YtnllofjjffflkaaGreatDoor
