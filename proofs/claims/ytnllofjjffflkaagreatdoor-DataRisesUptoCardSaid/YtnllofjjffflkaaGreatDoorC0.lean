/- Lists of ints in memory, and the meeting of two of them; for lists of at most 2^30. -/
import Derived.Test.YtnllofjjffflkaaGreatDoorR2
import Derived.Test.YtnllofjjffflkaaGreatDoorP1
import Derived.StillTailTactics
import Derived.Deep.QuietTactic
import Derived.BigQuiet
set_option linter.unusedSimpArgs false
set_option linter.unusedVariables false
namespace Go.Proofs.YtnllofjjffflkaaGreatDoor
open Go.RowKit Gp
theorem add_block (a : Addr) (n : Nat) : (a.add n).block = a.block := by unfold Addr.add; split <;> rfl
/-- A slice of ints that reads as a list, below block B. -/
def Ints (w : World) (B : Nat) (A : Option Addr) (l : List Int) : Prop := ∀ k, k < l.length → ∃ ad, A = some ad ∧ ad.block < B ∧ w.cell? (ad.add k) = some (.int .i64 (iAt l k))
theorem Ints.keep {w w' : World} {B : Nat} {A : Option Addr} {l : List Int} (h : Ints w B A l) (hk : ∀ p : Addr, p.block < B → w'.cell? p = w.cell? p) : Ints w' B A l := fun k hlt => by
  obtain ⟨ad, e, hb, hc⟩ := h k hlt
  exact ⟨ad, e, hb, (hk _ (by rw [add_block]; exact hb)).trans hc⟩
theorem Ints.below {w w' : World} {B : Nat} {A : Option Addr} {l : List Int} (h : Ints w B A l) (hb : Below B w w') : Ints w' B A l := h.keep fun _ hp => hb.cell hp
theorem Ints.more {w : World} {B B' : Nat} {A : Option Addr} {l : List Int} (h : Ints w B A l) (hB : B ≤ B') : Ints w B' A l := fun k hlt => by
  obtain ⟨ad, e, hb, hc⟩ := h k hlt
  exact ⟨ad, e, by omega, hc⟩
theorem below_drewN {B : Nat} {a w : World} (h : Below B a w) (n : Nat) : Below B a (w.drewN n) := ⟨h.os, h.tape, h.output, h.size, h.block⟩
theorem info3 : (Tryz.prog.info? 3).map (fun i => (i.zero, i.size, i.bytes)) = some (some (.int .i64 0), 1, 8) := by kernel_rfl
def ints (l : List Int) : List Value := l.map (Value.int .i64)
theorem ints_get {l : List Int} {j : Nat} {u : Value} (h : (ints l)[j]? = some u) : j < l.length ∧ u = .int .i64 (iAt l j) := by
  unfold ints at h
  rw [List.getElem?_map] at h
  cases hx : l[j]? with
  | none => rw [hx] at h; cases h
  | some x =>
    rw [hx] at h
    obtain ⟨hj, hv⟩ := List.getElem?_eq_some_iff.1 hx
    refine ⟨hj, ?_⟩
    rw [iAt, List.getD_eq_getElem?_getD, hx]
    exact (Option.some.inj h).symm
theorem ints_at {l : List Int} {j : Nat} (h : j < l.length) : (ints l)[j]? = some (.int .i64 (iAt l j)) := by
  unfold ints iAt
  rw [List.getElem?_map, List.getElem?_eq_getElem h, List.getD_eq_getElem?_getD, List.getElem?_eq_getElem h]; rfl
theorem Ints.of_own {w : World} {base c : Nat} {A : Option Addr} {l : List Int} (h : w.ownsRow base 3 1 (.slice A l.length c) l.length (ints l)) : Ints w w.heap.size A l := fun k hk => by
  obtain ⟨g, cap, hv, _, hlt⟩ := h.form (by omega)
  have hA : A = some ⟨g, 0, none⟩ := by injection hv
  subst hA
  exact ⟨_, rfl, hlt, h.cells (g := g) rfl k _ (ints_at hk)⟩
theorem run_append_nil2 (w : World) (c : Nat) (ty : TypeId) : (Builtin.append_ #[53, 53] ty #[.slice none 0 0, .slice none 0 c]).run Tryz.prog w = .ok (.slice none 0 0) w := by
  obtain ⟨i0, hi0, hz0, hz1, hz2⟩ := info_parts info3
  simp [Builtin.append_, run_underlying Tryz.underlying53, sizeOf, typeInfo, hi0, Builtin.lenOf, Builtin.firstCells]
set_option maxRecDepth 100000 in
set_option maxHeartbeats 1000000 in
theorem numbers_same (A A' : Option Addr) (c c' : Nat) (ts : List Int) (B : Nat) (w : World) (hI : Ints w B A ts) (hI' : Ints w B A' ts) (hts : ts.length ≤ 1073741824) :
    Calls Tryz.prog 27 #[.slice A ts.length c, .slice A' ts.length c'] w fun e w' => e = .returned (.bool true) ∧ ∃ n, w' = w.drewN n := by
  have HI := Lib.hid hI; clear hI
  have HI' := Lib.hid hI'; clear hI'
  go_enter Tryz.func27, Tryz.ntmps27
  go_wp2_with fail
  go_loopw [5] (fun v wr => ∃ k : Nat, k ≤ ts.length ∧ v = .int .i64 (k : Int) ∧ ∃ n, wr = w.drewN n) (fun v _ => ts.length - (intOf v).toNat)
  case atStart => exact ⟨0, by omega, rfl, 0, rfl⟩
  case round =>
    obtain ⟨k, hk, rfl, n, rfl⟩ := hrel
    by_cases hlt : k < ts.length
    · obtain ⟨ad, rfl, hab, hcell⟩ := HI.out k hlt
      obtain ⟨ad', rfl, hab', hcell'⟩ := HI'.out k hlt
      go_wp2_with fail
      go_quiet (fail)
      go_wp2_with fail
      go_roundw
      case rel => exact ⟨k + 1, by omega, by go_num, _, rfl⟩
      case measure => simp [intOf]; omega
    · obtain rfl : k = ts.length := by omega
      go_wp2_with fail
      go_ret
      exact ⟨rfl, _, rfl⟩
end Go.Proofs.YtnllofjjffflkaaGreatDoor
