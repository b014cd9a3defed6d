/- Walks of formOf at the types 1, 16 and those that are not known; for every world. -/
import Derived.Test.YtnllofjjffflkaaGreatDoorF4
import Derived.Laws.EntriesVeiled
import Derived.Laws.ResultCell
set_option linter.unusedSimpArgs false
set_option linter.unusedVariables false
namespace Go.Proofs.YtnllofjjffflkaaGreatDoor
open Go.RowKit Gp
abbrev fnV (f : Nat) : Value := .func (.func f) #[] #[]
set_option maxRecDepth 100000 in
set_option maxHeartbeats 2000000 in
theorem formOf_1 (w : World) : Calls Tryz.prog 52 #[.int .i64 1] w fun e w' => e = .returned (.agg #[fnV 110, fnV 111, fnV 112, .nilFunc]) ∧ Below w.heap.size w w' := by
  go_enter Tryz.func52, Tryz.ntmps52
  go_wp2_with fail
  refine bodyPost_ret (v := .agg #[fnV 110, fnV 111, fnV 112, .nilFunc]) ?_ rfl ⟨rfl, ?_⟩
  · simp [results, Tryz.results52, go_sem]
  · exact ((Below.refl _ _).alloc (Nat.le_refl _) _).alloc (by simp) _
theorem is126_any (v : Value) (w : World) (hv : v = fnV 127) : Calls Tryz.prog 126 #[v] w fun e w' => e = .returned (.func (.func 199) #[] #[.pointer (some ⟨w.heap.size, 0, none⟩)]) ∧ w' = w.alloc (.cells #[v] 167) := by
  subst hv
  have hmf : ∀ (fn : Fn) (first cap : Array Value) (w : World), (Instr.makeFunc fn first cap).run Tryz.prog w = .ok (.func fn first cap) w := fun _ _ _ _ => rfl
  go_enter Tryz.func126, Tryz.ntmps126
  go_wp2_with fail
  go_ret
  exact ⟨rfl, rfl⟩
set_option maxRecDepth 100000 in
set_option maxHeartbeats 2000000 in
theorem formOf_16 (w : World) : Calls Tryz.prog 52 #[.int .i64 16] w fun e w' => (∃ N, e = .returned (.agg #[.func (.func 199) #[] #[.pointer (some ⟨N, 0, none⟩)], fnV 128, .nilFunc, .nilFunc]) ∧ w.heap.size ≤ N ∧ w'.heap[N]? = some (.cells #[fnV 127] 167 (0, 0))) ∧ Below w.heap.size w w' := by
  go_enter Tryz.func52, Tryz.ntmps52
  go_wp2_with fail
  refine (is126_any _ _ rfl).mono ?_
  rintro e w1 ⟨rfl, rfl⟩
  go_wp2_with fail
  refine bodyPost_ret (v := .agg #[.func (.func 199) #[] #[.pointer (some ⟨w.heap.size + 1 + 1, 0, none⟩)], fnV 128, .nilFunc, .nilFunc]) ?_ rfl ⟨⟨w.heap.size + 1 + 1, rfl, by omega, ?_⟩, ?_⟩
  · simp [results, Tryz.results52, go_sem]
  · have := World.alloc_heap_new ((w.alloc (.cells #[.func (.func 199) #[] #[.pointer (some ⟨w.heap.size + 1 + 1, 0, none⟩)], fnV 128, .nilFunc, .nilFunc] 98)).alloc (.cells #[fnV 103, fnV 104, fnV 106, fnV 109] 98)) (.cells #[fnV 127] 167)
    rwa [World.size_alloc, World.size_alloc] at this
  · exact (((Below.refl _ _).alloc (Nat.le_refl _) _).alloc (by simp) _).alloc (by simp; omega) _
set_option maxRecDepth 100000 in
set_option maxHeartbeats 4000000 in
theorem formOf_plain (t : Int) (w : World) (h1 : t ≠ 1) (h28 : t ≠ 28) (h2 : t ≠ 2) (h5 : t ≠ 5) (h39 : t ≠ 39) (h6 : t ≠ 6) (h15 : t ≠ 15) (h16 : t ≠ 16) (h43 : t ≠ 43) (h46 : t ≠ 46) (h47 : t ≠ 47) (h48 : t ≠ 48) (h50 : t ≠ 50) : Calls Tryz.prog 52 #[.int .i64 t] w fun e w' => e = .returned (.agg #[fnV 147, fnV 148, fnV 149, .nilFunc]) ∧ Below w.heap.size w w' := by
  have b1 : (t == 1) = false := beq_eq_false_iff_ne.2 h1
  have b28 : (t == 28) = false := beq_eq_false_iff_ne.2 h28
  have b2 : (t == 2) = false := beq_eq_false_iff_ne.2 h2
  have b5 : (t == 5) = false := beq_eq_false_iff_ne.2 h5
  have b39 : (t == 39) = false := beq_eq_false_iff_ne.2 h39
  have b6 : (t == 6) = false := beq_eq_false_iff_ne.2 h6
  have b15 : (t == 15) = false := beq_eq_false_iff_ne.2 h15
  have b16 : (t == 16) = false := beq_eq_false_iff_ne.2 h16
  have b43 : (t == 43) = false := beq_eq_false_iff_ne.2 h43
  have b46 : (t == 46) = false := beq_eq_false_iff_ne.2 h46
  have b47 : (t == 47) = false := beq_eq_false_iff_ne.2 h47
  have b48 : (t == 48) = false := beq_eq_false_iff_ne.2 h48
  have b50 : (t == 50) = false := beq_eq_false_iff_ne.2 h50
  go_enter Tryz.func52, Tryz.ntmps52
  go_wp2_with fail
  refine bodyPost_ret (v := .agg #[fnV 147, fnV 148, fnV 149, .nilFunc]) ?_ rfl ⟨rfl, ?_⟩
  · simp [results, Tryz.results52, go_sem]
  · exact ((Below.refl _ _).alloc (Nat.le_refl _) _).alloc (by simp) _
end Go.Proofs.YtnllofjjffflkaaGreatDoor
