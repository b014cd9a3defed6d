/- Walk of the copy check of a Builder that the call made; for every world. -/
import Derived.Test.YtnllofjjffflkaaGreatDoorE7
import Derived.Lib.Builder
set_option linter.unusedSimpArgs false
set_option linter.unusedVariables false
namespace Go.Proofs.YtnllofjjffflkaaGreatDoor
open Go.RowKit Gp
/-- Of what lies below B only block b may have turned. -/
structure Ex (b B : Nat) (w w' : World) : Prop where
  os : w'.os = w.os
  tape : w'.tape = w.tape
  output : w'.output = w.output
  size : w.heap.size ≤ w'.heap.size
  block : ∀ k, k < B → k ≠ b → w'.heap[k]? = w.heap[k]?
theorem Ex.refl (b B : Nat) (w : World) : Ex b B w w := ⟨rfl, rfl, rfl, Nat.le_refl _, fun _ _ _ => rfl⟩
theorem Ex.trans {b B : Nat} {x y z : World} (h : Ex b B x y) (k : Ex b B y z) : Ex b B x z :=
  ⟨k.os.trans h.os, k.tape.trans h.tape, k.output.trans h.output, Nat.le_trans h.size k.size, fun i hi hn => (k.block i hi hn).trans (h.block i hi hn)⟩
theorem Ex.below {b B : Nat} {w w' : World} (h : Below B w w') : Ex b B w w' := ⟨h.os, h.tape, h.output, h.size, fun k hk _ => h.block k hk⟩
theorem Ex.to_below {b B : Nat} {w w' : World} (h : Ex b B w w') (hb : b ≤ B) : Below b w w' := ⟨h.os, h.tape, h.output, h.size, fun k hk => h.block k (Nat.lt_of_lt_of_le hk hb) (Nat.ne_of_lt hk)⟩
theorem Ex.setCell {b B : Nat} {x w : World} (h : Ex b B x w) (o : Nat) (sp : Option Nat) (v : Value) : Ex b B x (w.setCell ⟨b, o, sp⟩ v) :=
  ⟨h.os, h.tape, h.output, by rw [World.size_setCell]; exact h.size, fun k hk hn => (Below.heap_setCell _ _ _ _ hn).trans (h.block k hk hn)⟩
theorem Ex.alloc {b B : Nat} {x w : World} (h : Ex b B x w) (hB : B ≤ w.heap.size) (o : Obj) : Ex b B x (w.alloc o) :=
  ⟨h.os, h.tape, h.output, by rw [World.size_alloc]; exact Nat.le_succ_of_le h.size, fun k hk hn => (Below.heap_alloc _ _ _ (Nat.lt_of_lt_of_le hk hB)).trans (h.block k hk hn)⟩
theorem Ex.grown {b B : Nat} {x w w' : World} {row : Option Nat} (h : Ex b B x w) (hg : w.grownBy w' row) (hB : B ≤ w.heap.size) (hr : ∀ k, row = some k → B ≤ k) : Ex b B x w' :=
  ⟨hg.os.trans h.os, hg.tape.trans h.tape, hg.output.trans h.output, Nat.le_trans h.size hg.size, fun k hk hn => (hg.block k (Nat.lt_of_lt_of_le hk hB) (fun e => absurd (hr k e.symm) (by omega))).trans (h.block k hk hn)⟩
/-- A builder in block b that holds l, in a row from B on. -/
structure Bd (b B : Nat) (w : World) (l : List UInt8) : Prop where
  lt : b < B
  le : B ≤ w.heap.size
  at_ : ∃ p v, w.heap[b]? = some (.cells #[p, v] 194 (0, 0)) ∧ (p = .pointer none ∨ p = .pointer (some ⟨b, 0, none⟩)) ∧ w.ownsRow B 5 1 v l.length (bc l)
theorem Bd.is {b B : Nat} {w : World} {l : List UInt8} (h : Bd b B w l) : Lib.IsBuilder 194 5 b b (Lib.byteCells l) w := by
  obtain ⟨p, v, hb, hp, ho⟩ := h.at_
  have hl : (Lib.byteCells l).length = l.length := by simp [Lib.byteCells]
  have hne : v.ownBlock ≠ some b := own_ne ho hb (by decide)
  have ho' := own_mono ho (Nat.le_of_lt h.lt)
  rcases hp with rfl | rfl
  · exact .inl ⟨Nat.le_refl _, v, hb, by rw [hl]; exact ho', hne⟩
  · exact .inr ⟨Nat.le_refl _, v, hb, by rw [hl]; exact ho', hne⟩
theorem info194 : (Tryz.prog.info? 194).map (fun i => decide (i.size ≠ 0)) = some true := by kernel_rfl
theorem lies194 : liesAt Tryz.prog Tryz.prog.depth 194 (2 / Tryz.prog.cellsOf 194) 0 194 1 = true := by kernel_rfl
set_option maxRecDepth 100000 in
set_option maxHeartbeats 2000000 in
theorem copyCheck_new (b : Nat) (ov : Value) (w : World) (h : w.heap[b]? = some (.cells #[.pointer none, ov] 194 (0, 0))) :
    Calls Tryz.prog 224 #[.pointer (some ⟨b, 0, none⟩)] w fun e w' => e = .returned (.tuple #[]) ∧ w' = w.setCell ⟨b, 0, none⟩ (.pointer (some ⟨b, 0, none⟩)) := by
  have hc0 : w.cell? ⟨b, 0, none⟩ = some (.pointer none) := by simp [World.cell?, h]
  have hf0 : w.frozen? ⟨b, 0, none⟩ = false := by simp [World.frozen?, h]
  have hsh : w.shape? b = some (194, 2) := by simp [World.shape?, h]
  obtain ⟨j, hj, hjs⟩ := Option.map_eq_some_iff.1 info194
  go_enter Tryz.func224, Tryz.ntmps224
  go_wp2_with fail
  rw [Lib.run_to_unsafe w ⟨b, 0, none⟩ Tryz.underlying192 Tryz.underlying239 hj (of_decide_eq_true hjs) hsh (Nat.zero_lt_succ 1)]
  simp only [Result.andThen]
  rw [Oper.upon_value]
  go_wp2
  rw [run_callFunc_extern Tryz.func250 (by kernel_rfl) (by kernel_rfl) (by kernel_rfl) (e := Extern.AbiNoEscape.same) (by kernel_rfl)]
  rw [Lib.run_noEscape]
  simp only [Result.andThen]
  rw [Oper.upon_value]
  go_wp2
  rw [Lib.run_from_unsafe w ⟨b, 0, none⟩ Tryz.underlying239 Tryz.underlying192 hj hsh lies194]
  simp only [Result.andThen]
  rw [Oper.upon_value]
  go_wp2
  go_end0
  exact ⟨rfl, rfl⟩
set_option maxRecDepth 100000 in
set_option maxHeartbeats 2000000 in
theorem copyCheck_old (b : Nat) (ov : Value) (w : World) (h : w.heap[b]? = some (.cells #[.pointer (some ⟨b, 0, none⟩), ov] 194 (0, 0))) :
    Calls Tryz.prog 224 #[.pointer (some ⟨b, 0, none⟩)] w fun e w' => e = .returned (.tuple #[]) ∧ w' = w := by
  have hc0 : w.cell? ⟨b, 0, none⟩ = some (.pointer (some ⟨b, 0, none⟩)) := by simp [World.cell?, h]
  obtain ⟨j, hj, hjs⟩ := Option.map_eq_some_iff.1 info194
  go_enter Tryz.func224, Tryz.ntmps224
  go_wp2_with fail
  rw [Lib.run_neq_ptr_same w _ Tryz.underlying192 hj]
  go_wp2
  go_end0
  exact ⟨rfl, rfl⟩
end Go.Proofs.YtnllofjjffflkaaGreatDoor
