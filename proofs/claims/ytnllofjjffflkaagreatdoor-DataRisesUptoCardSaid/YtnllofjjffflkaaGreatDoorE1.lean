/- What the calls lean on: the variables of the library; walks of num, and Split and Join in plain words; for texts below 2^32 bytes. -/
import Derived.Test.YtnllofjjffflkaaGreatDoorShelf
import Derived.Test.YtnllofjjffflkaaGreatDoorR5
import Derived.WalkSmall
import Derived.Lib.AppendIntMem
import Derived.Lib.SplitLaws
set_option linter.unusedSimpArgs false
set_option linter.unusedVariables false
namespace Go.Proofs.YtnllofjjffflkaaGreatDoor
open Go.RowKit Gp

theorem g0 : Tryz.prog.globalNamed "strconv.ErrSyntax" = some 0 := by kernel_rfl
theorem g1 : Tryz.prog.globalNamed "strconv.ErrRange" = some 1 := by kernel_rfl
theorem g3 : Tryz.prog.globalNamed "internal/strconv.uint64pow10" = some 3 := by kernel_rfl
/-- What the calls lean on: the library's variables, as they are laid. -/
structure Env (w : World) : Prop where
  size : 8 ≤ w.heap.size
  most : ∃ m, w.cell? ⟨2, 0, none⟩ = some (.int .i64 m)
  tab : Lib.TabIs Tryz.prog w "internal/strconv.uint64pow10" .u64 Lib.pow10Tab
  syn : ∃ tp p, w.var? Tryz.prog "strconv.ErrSyntax" = some #[.iface tp p]
  rng : ∃ tp p, w.var? Tryz.prog "strconv.ErrRange" = some #[.iface tp p]
theorem Env.below {B : Nat} {w w' : World} (h : Env w) (hb : Below B w w') (hB : 8 ≤ B) : Env w' where
  size := Nat.le_trans h.size hb.size
  most := by
    obtain ⟨m, hm⟩ := h.most
    exact ⟨m, (hb.cell (p := ⟨2, 0, none⟩) (Nat.lt_of_lt_of_le (by decide) hB)).trans hm⟩
  tab := var?_below hb g3 (by omega) h.tab
  syn := by
    obtain ⟨tp, p, hv⟩ := h.syn
    exact ⟨tp, p, var?_below hb g0 (by omega) hv⟩
  rng := by
    obtain ⟨tp, p, hv⟩ := h.rng
    exact ⟨tp, p, var?_below hb g1 (by omega) hv⟩
theorem Env.next {w w' : World} (h : Env w) (hb : Below w.heap.size w w') : Env w' := h.below hb h.size

def itoaS (n : Int) : ByteArray := ofL (Lib.itoa n)
theorem num_any (n : Int) (w : World) (hE : Env w) (h0 : -9223372036854775808 ≤ n) (h1 : n ≤ 9223372036854775807) : Calls Tryz.prog 123 #[.int .i64 n] w fun e w' => e = .returned (.string (itoaS n)) ∧ Below w.heap.size w w' := by
  go_enter Tryz.func123, Tryz.ntmps123
  go_wp2_with fail
  refine (Tryz.strconv_Itoa n h0 h1 w hE.tab).mono ?_
  rintro e w1 ⟨rfl, k, os, rfl⟩
  go_wp2_with fail
  go_ret
  exact ⟨rfl, Lib.below_grow _ _ (Nat.le_refl _) _ _⟩
/-- The pieces of a text. -/
def splitS (s sep : ByteArray) : List ByteArray := Lib.splitB sep 0 (Lib.countB s sep) s
theorem split_any (s sep : ByteArray) (w : World) (hE : Env w) (hs : s.size < 4294967281) (hsep : 1 ≤ sep.size) : Calls Tryz.prog 54 #[.string s, .string sep] w fun e w' =>
    e = .returned (.slice (some ⟨w.heap.size, 0, none⟩) (splitS s sep).length (splitS s sep).length) ∧ w' = w.alloc (.cells (strs (splitS s sep)).toArray 9) := by
  obtain ⟨m, hm⟩ := hE.most
  refine (Tryz.strings_Split s sep m w hs hm hsep).mono ?_
  rintro e w' ⟨rfl, rfl⟩
  have hl : (splitS s sep).length = Lib.countB s sep + 1 := Lib.splitB_all sep hsep 0 _ s rfl
  rw [hl]
  exact ⟨rfl, rfl⟩
theorem own_lit (w : World) (base : Nat) (l : List ByteArray) (hb : base ≤ w.heap.size) (hl : l.length ≤ 1099511627776) : (w.alloc (.cells (strs l).toArray 9)).ownsRow base 9 1 (.slice (some ⟨w.heap.size, 0, none⟩) l.length l.length) l.length (strs l) := by
  refine ⟨by simp [strs], .inr ⟨w.heap.size, l.length, (strs l).toArray, rfl, hb, World.alloc_heap_new w _, Nat.le_refl _, by unfold maxLen; omega, by simp [strs], by simp [strs, List.take_of_length_le]⟩⟩
/-- Parts, with something between. -/
def joinS (l : List ByteArray) (sep : ByteArray) : ByteArray := ofL (Lib.join (l.map fun x => x.data.toList) sep.data.toList)
theorem join_any (base : Nat) (v : Value) (l : List ByteArray) (sep : ByteArray) (w : World) (ho : w.ownsRow base 9 1 v l.length (strs l)) (hl : l.length ≤ 1073741824) (hj : (joinS l sep).size ≤ 140737488355328) :
    Calls Tryz.prog 90 #[v, .string sep] w fun e w' => e = .returned (.string (joinS l sep)) ∧ Below w.heap.size w w' := by
  cases l with
  | nil =>
    obtain ⟨A, c, rfl⟩ := own_slice ho
    refine (Tryz.strings_Join_none A c sep w).mono ?_
    rintro e w' ⟨rfl, rfl⟩
    exact ⟨rfl, Below.refl _ _⟩
  | cons x r =>
    obtain ⟨g, cap, rfl, hg, hlt⟩ := ho.form (by simp)
    rw [joinS, ofL_size] at hj
    have hcap : (x :: r).length ≤ cap := by
      rcases ho.2 with ⟨h, _⟩ | ⟨g', cap', cur, h, _, _, hc, _⟩
      · cases h
      · injection h with _ _ h3
        rw [h3]; exact hc
    refine (Tryz.strings_Join g 0 cap (x :: r) sep w (fun j y hy => ?_) hlt (by omega) hcap hj).mono ?_
    · have := ho.cells (g := g) rfl j (.string y) (by rw [strs, List.getElem?_map, hy]; rfl)
      have ha : (⟨g, 0, none⟩ : Addr).add j = ⟨g, 0 + j, none⟩ := by unfold Addr.add; split <;> simp_all
      rwa [ha] at this
    · rintro e w' ⟨rfl, hB⟩
      exact ⟨rfl, hB⟩
end Go.Proofs.YtnllofjjffflkaaGreatDoor
