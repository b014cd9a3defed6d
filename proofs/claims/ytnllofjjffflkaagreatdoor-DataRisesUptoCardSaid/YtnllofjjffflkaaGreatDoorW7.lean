/- Walks of what a sink hands back and of OfKey; for texts of at most 2^40 bytes. -/
import Derived.Test.YtnllofjjffflkaaGreatDoorW6
import Derived.Test.YtnllofjjffflkaaGreatDoorP1
set_option linter.unusedSimpArgs false
set_option linter.unusedVariables false
namespace Go.Proofs.YtnllofjjffflkaaGreatDoor
open Go.RowKit Gp

theorem sink_done (B : Nat) (l : List UInt8) (bad : Bool) (w : World) (hS : Sink B w l bad) (hl : l.length ≤ 1099511628000) :
    Calls Tryz.prog 81 #[.pointer (some ⟨B, 0, none⟩)] w fun e w' => e = .returned (.tuple #[.string (doneV l bad).1, .int .i64 (doneV l bad).2]) ∧ w' = w := by
  by_cases h : bad = true ∨ 2000 < l.length
  · refine (sink_done_bad B l bad w hS h hl).mono ?_
    rintro e w' ⟨rfl, rfl⟩
    simp [doneV, h]
  · obtain rfl : bad = false := by simpa using fun e => h (.inl e)
    refine (sink_done_ok B l w hS (by simp at h; exact h)).mono ?_
    rintro e w' ⟨rfl, rfl⟩
    have h' : ¬ 2000 < l.length := by simpa using h
    simp [doneV, h']
/-- A block of cells, kept. -/
def Blk (H : Nat) (cs : Array Value) (t : TypeId) (w : World) : Prop := w.heap[H]? = some (.cells cs t (0, 0))
theorem Blk.cells {H : Nat} {cs : Array Value} {t : TypeId} {w : World} (h : Blk H cs t w) : ∀ i, w.cell? ⟨H, i, none⟩ = cs[i]? := by
  intro i; unfold Blk at h; simp [World.cell?, h]
theorem Blk.below {H B : Nat} {cs : Array Value} {t : TypeId} {w w' : World} (h : Blk H cs t w) (hb : Below B w w') (hlt : H < B) : Blk H cs t w' := (hb.block H hlt).trans h
theorem Blk.new (w : World) (cs : Array Value) (t : TypeId) : Blk w.heap.size cs t (w.alloc (.cells cs t)) := World.alloc_heap_new w _
theorem Blk.alloc {H : Nat} {cs : Array Value} {t : TypeId} {w : World} (h : Blk H cs t w) (o : Obj) : Blk H cs t (w.alloc o) :=
  (Below.heap_alloc w o H (Array.getElem?_eq_some_iff.1 h).1).trans h
theorem sink_new (w : World) : Sink w.heap.size (w.alloc (.cells #[.slice none 0 0, .bool false] 128)) [] false :=
  ⟨.slice none 0 0, World.alloc_heap_new w _, ⟨by simp [bc], .inl ⟨rfl, rfl⟩⟩⟩

abbrev keyV (x : Key) : Value := .agg #[.int .i64 x.flags, .int .i64 x.protocol, .int .i64 x.alg, .string x.pub]
abbrev dsV (x : Ds) : Value := .agg #[.int .i64 x.tag, .int .i64 x.alg, .int .i64 x.kind, .string x.digest]
/-- An int of 64 bits. -/
def I64 (n : Int) : Prop := -9223372036854775808 ≤ n ∧ n ≤ 9223372036854775807

set_option maxRecDepth 100000 in
set_option maxHeartbeats 1000000 in
theorem ofKey_any (x : Key) (w : World) (h1 : I64 x.flags) (h2 : I64 x.protocol) (h3 : I64 x.alg) (h4 : x.pub.size ≤ 1099511620000) :
    Calls Tryz.prog 32 #[keyV x] w fun e w' => e = .returned (.tuple #[.string (doneV (keyL x) (keyBad x)).1, .int .i64 (doneV (keyL x) (keyBad x)).2]) ∧ Below w.heap.size w w' := by
  obtain ⟨flags, protocol, alg, pub⟩ := x
  obtain ⟨h1a, h1b⟩ := h1
  obtain ⟨h2a, h2b⟩ := h2
  obtain ⟨h3a, h3b⟩ := h3
  dsimp only at h1a h1b h2a h2b h3a h3b h4
  have hS0 := sink_new (w.alloc (.cells #[.int .i64 flags, .int .i64 protocol, .int .i64 alg, .string pub] 42))
  rw [World.size_alloc] at hS0
  have hK0 := (Blk.new w #[.int .i64 flags, .int .i64 protocol, .int .i64 alg, .string pub] 42).alloc (.cells #[.slice none 0 0, .bool false] 128)
  have hB0 : Below w.heap.size w ((w.alloc (.cells #[.int .i64 flags, .int .i64 protocol, .int .i64 alg, .string pub] 42)).alloc (.cells #[.slice none 0 0, .bool false] 128)) := ((Below.refl _ _).alloc (Nat.le_refl _) _).alloc (by simp) _
  go_enter Tryz.func32, Tryz.ntmps32
  go_wp2_with fail
  refine (sink_number _ _ 2 _ _ _ hS0 (by omega) (by omega) (by simp) h1a h1b).mono ?_
  rintro e w1 ⟨rfl, hS1, hB1⟩
  have hK1 := hK0.below hB1.below (by omega)
  have hb1 := hB0.trans (hB1.below.mono (by omega))
  have c1 := hK1.cells
  clear hS0 hK0 hB0 hB1
  go_wp2_with fail
  refine (sink_number _ _ 1 _ _ _ hS1 (by omega) (by omega) (by simp [be_length]) h2a h2b).mono ?_
  rintro e w2 ⟨rfl, hS2, hB2⟩
  have hK2 := hK1.below hB2.below (by omega)
  have hb2 := hb1.trans (hB2.below.mono (by omega))
  have c2 := hK2.cells
  clear hS1 hK1 hB2 hb1 c1
  go_wp2_with fail
  refine (sink_number _ _ 1 _ _ _ hS2 (by omega) (by omega) (by simp [be_length]) h3a h3b).mono ?_
  rintro e w3 ⟨rfl, hS3, hB3⟩
  have hK3 := hK2.below hB3.below (by omega)
  have hb3 := hb2.trans (hB3.below.mono (by omega))
  have c3 := hK3.cells
  clear hS2 hK2 hB3 hb2 c2
  go_wp2_with fail
  refine (sink_bytes _ _ 1 _ _ _ hS3 (by simp [be_length]; omega)).mono ?_
  rintro e w4 ⟨rfl, hS4, hB4⟩
  have hb4 := hb3.trans (hB4.below.mono (by omega))
  clear hS3 hB4 hb3 c3 hK3
  go_wp2_with fail
  refine (sink_done _ _ _ _ hS4 (by simp [be_length, data_length]; omega)).mono ?_
  rintro e w5 ⟨rfl, rfl⟩
  clear hS4
  go_wp2_with fail
  go_ret2
  exact ⟨by simp [keyL, keyBad], hb4⟩
end Go.Proofs.YtnllofjjffflkaaGreatDoor
