/- Walk of the putting down of a number in a sink; for sinks of at most 2^40 bytes. -/
import Derived.Test.YtnllofjjffflkaaGreatDoorW3
import Derived.Test.YtnllofjjffflkaaGreatDoorP1
import Derived.Deep.RegionHeld3
import Derived.Deep.RegionLaw
import Derived.Deep.AppendLies
set_option linter.unusedSimpArgs false
set_option linter.unusedVariables false
namespace Go.Proofs.YtnllofjjffflkaaGreatDoor
open Go.RowKit Gp

theorem info5 : (Tryz.prog.info? 5).map (fun i => (i.zero, i.size, i.bytes)) = some (some (.int .u8 0), 1, 1) := by kernel_rfl
def bc (l : List UInt8) : List Value := l.map fun b => Value.int .u8 (b.toNat : Int)
theorem bc_append (a b : List UInt8) : bc (a ++ b) = bc a ++ bc b := by simp [bc]
/-- A sink in block B: what was put together, and whether something may not be. -/
def Sink (B : Nat) (w : World) (l : List UInt8) (bad : Bool) : Prop :=
  ∃ ov, w.heap[B]? = some (.cells #[ov, .bool bad] 128 (0, 0)) ∧ w.ownsRow B 5 1 ov l.length (bc l)

theorem own_ne {w : World} {base : Nat} {e t : TypeId} {size n B : Nat} {v : Value} {xs : List Value} {c : Array Value} {f : Nat × Nat} (h : w.ownsRow base e size v n xs) (hb : w.heap[B]? = some (.cells c t f)) (hne : e ≠ t) : v.ownBlock ≠ some B := by
  rcases h.2 with ⟨rfl, _⟩ | ⟨g, cap, cur, rfl, _, hh, _⟩
  · simp [Value.ownBlock]
  · simp only [Value.ownBlock]
    intro e1
    have e2 : g = B := by simpa using e1
    subst e2
    rw [hb] at hh
    injection hh with hh
    injection hh with _ ht
    exact hne ht.symm
theorem cells2_set (w : World) (B : Nat) (x y z : Value) (t : TypeId) (h : w.heap[B]? = some (.cells #[x, y] t (0, 0))) :
    (w.setCell ⟨B, 0, none⟩ z).heap[B]? = some (.cells #[z, y] t (0, 0)) ∧ (w.setCell ⟨B, 1, none⟩ z).heap[B]? = some (.cells #[x, z] t (0, 0)) := by
  constructor <;> simp [World.setCell, Array.getElem?_modify, h]
/-- What a sink in block B leaves: below B all lies as it lay; and every block but B that is no row of bytes. -/
structure Fr (B : Nat) (w w' : World) : Prop where
  below : Below B w w'
  keep : ∀ (k : Nat) (o : Obj), w.heap[k]? = some o → k ≠ B → (∀ c f, o ≠ .cells c 5 f) → w'.heap[k]? = some o
theorem Fr.refl (B : Nat) (w : World) : Fr B w w := ⟨Below.refl _ _, fun _ _ h _ _ => h⟩
theorem Fr.trans {B : Nat} {x y z : World} (h : Fr B x y) (k : Fr B y z) : Fr B x z := ⟨h.below.trans k.below, fun i o ho hn ht => k.keep i o (h.keep i o ho hn ht) hn ht⟩
theorem Fr.setCell {B : Nat} {x w : World} (h : Fr B x w) (o : Nat) (sp : Option Nat) (v : Value) : Fr B x (w.setCell ⟨B, o, sp⟩ v) :=
  ⟨h.below.setCell (p := ⟨B, o, sp⟩) (Nat.le_refl _) _, fun k ob hk hn ht => (Below.heap_setCell _ _ _ _ hn).trans (h.keep k ob hk hn ht)⟩
theorem Fr.alloc {B : Nat} {x w : World} (h : Fr B x w) (hB : B ≤ w.heap.size) (o : Obj) : Fr B x (w.alloc o) :=
  ⟨h.below.alloc hB o, fun k ob hk hn ht => (Below.heap_alloc _ _ _ (Array.getElem?_eq_some_iff.1 (h.keep k ob hk hn ht)).1).trans (h.keep k ob hk hn ht)⟩
theorem Fr.drew {B : Nat} {x w : World} (h : Fr B x w) : Fr B x w.drew := ⟨h.below.drew, h.keep⟩
theorem Fr.next {B : Nat} {x w w' : World} (h : Fr B x w) (hb : Below w.heap.size w w') (hB : B ≤ w.heap.size) : Fr B x w' :=
  ⟨h.below.trans (hb.mono hB), fun k ob hk hn ht => (hb.block k (Array.getElem?_eq_some_iff.1 (h.keep k ob hk hn ht)).1).trans (h.keep k ob hk hn ht)⟩
theorem own_from {w : World} {base : Nat} {e : TypeId} {size n : Nat} {v : Value} {xs : List Value} (h : w.ownsRow base e size v n xs) : ∀ k, v.ownBlock = some k → base ≤ k := by
  intro k hk
  rcases h.2 with ⟨rfl, _⟩ | ⟨g, cap, cur, rfl, hg, _⟩
  · simp [Value.ownBlock] at hk
  · have : g = k := by simpa [Value.ownBlock] using hk
    omega
theorem Fr.grown {B base : Nat} {x w wx w' : World} {v : Value} {n : Nat} {xs : List Value} (h : Fr B x w) (hx : Fr B w wx) (ho : w.ownsRow base 5 1 v n xs) (hg : wx.grownBy w' v.ownBlock) (hB : B ≤ w.heap.size) (hb : B ≤ base) : Fr B x w' :=
  ⟨(h.below.trans hx.below).grown hg (Nat.le_trans hB hx.below.size) (fun k e => Nat.le_trans hb (own_from ho k e)), fun k ob hk hn ht => by
    have h1 := h.keep k ob hk hn ht
    have h2 := hx.keep k ob h1 hn ht
    refine (hg.block k (Array.getElem?_eq_some_iff.1 h2).1 ?_).trans h2
    intro e
    rcases ho.2 with ⟨rfl, _⟩ | ⟨g, cap, cur, rfl, _, hh, _⟩
    · simp [Value.ownBlock] at e
    · have : k = g := by simpa [Value.ownBlock] using e
      subst this
      rw [h1] at hh
      exact ht _ _ (Option.some.inj hh)⟩
theorem sink_put {B : Nat} {w wr wx w1 : World} {rv : Value} {l : List UInt8} {b : UInt8} {bad : Bool} {gg cap n : Nat} {xs : List Value} (hb : wr.heap[B]? = some (.cells #[rv, .bool bad] 128 (0, 0))) (hor : wr.ownsRow B 5 1 rv n xs)
    (hx : Fr B wr wx) (hB : Fr B w wr) (hxb : wx.heap[B]? = wr.heap[B]?) (hown : w1.ownsRow B 5 1 (.slice (some ⟨gg, 0, none⟩) (l.length + 1) cap) (l.length + 1) (bc l ++ [.int .u8 (b.toNat : Int)])) (hg : wx.grownBy w1 rv.ownBlock) :
    Sink B (w1.setCell ⟨B, 0, none⟩ (.slice (some ⟨gg, 0, none⟩) (l.length + 1) cap)) (l ++ [b]) bad ∧ Fr B w (w1.setCell ⟨B, 0, none⟩ (.slice (some ⟨gg, 0, none⟩) (l.length + 1) cap)) := by
  have hne := own_ne hor hb (by decide)
  have hBw : B < wr.heap.size := (Array.getElem?_eq_some_iff.1 hb).1
  have h1 : w1.heap[B]? = some (.cells #[rv, .bool bad] 128 (0, 0)) := by
    rw [hg.block B (Nat.lt_of_lt_of_le hBw hx.below.size) (fun e => hne e.symm), hxb]; exact hb
  refine ⟨⟨_, (cells2_set w1 B _ _ _ _ h1).1, ?_⟩, ?_⟩
  · have h2 := ownsRow_setCell_other hown (a := ⟨B, 0, none⟩) (own_ne hown h1 (by decide)) (.slice (some ⟨gg, 0, none⟩) (l.length + 1) cap)
    simpa [bc_append, bc] using h2
  · exact (Fr.grown hB hx hor hg (Nat.le_of_lt hBw) (Nat.le_refl _)).setCell _ _ _
set_option maxRecDepth 100000 in
set_option maxHeartbeats 2000000 in
theorem sink_number (B : Nat) (v : Int) (n : Nat) (l : List UInt8) (bad : Bool) (w : World) (hS : Sink B w l bad) (hn : 1 ≤ n) (h4 : n ≤ 4) (hl : l.length ≤ 1099511627776) (hv0 : -9223372036854775808 ≤ v) (hv1 : v ≤ 9223372036854775807) :
    Calls Tryz.prog 80 #[.pointer (some ⟨B, 0, none⟩), .int .i64 v, .int .i64 (n : Int)] w fun e w' => e = .returned (.tuple #[]) ∧ Sink B w' (l ++ be v n) (bad || badNum v n) ∧ Fr B w w' := by
  obtain ⟨ov, hb, ho⟩ := hS
  have hc0 : w.cell? ⟨B, 0, none⟩ = some ov := by simp [World.cell?, hb]
  have hc1 : w.cell? ⟨B, 1, none⟩ = some (.bool bad) := by simp [World.cell?, hb]
  have hf0 : w.frozen? ⟨B, 0, none⟩ = false := by simp [World.frozen?, hb]
  have hf1 : w.frozen? ⟨B, 1, none⟩ = false := by simp [World.frozen?, hb]
  cases bad with
  | true =>
    go_enter Tryz.func80, Tryz.ntmps80
    go_wp2_with fail
    obtain ⟨W0, hW0⟩ : ∃ W0, W0 = w.setCell ⟨B, 1, none⟩ (.bool true) := ⟨_, rfl⟩
    rw [← hW0]
    have hb0 : W0.heap[B]? = some (.cells #[ov, .bool true] 128 (0, 0)) := by rw [hW0]; exact (cells2_set w B _ _ _ _ hb).2
    have ho0 : W0.ownsRow B 5 1 ov l.length (bc l) := by rw [hW0]; exact ownsRow_setCell_other ho (a := ⟨B, 1, none⟩) (own_ne ho hb (by decide)) _
    have hB0 : Fr B w W0 := by rw [hW0]; exact (Fr.refl _ _).setCell _ _ _
    clear hW0 hb ho hc0 hc1 hf0 hf1
    go_loopw [6] (fun i wr => ∃ (j : Nat) (part : List UInt8), j ≤ n ∧ i = .int .i64 ((j : Int) - 1) ∧ be v n = part ++ be v j ∧ Sink B wr (l ++ part) true ∧ Fr B w wr) (fun i _ => ((intOf i) + 1).toNat)
    case atStart => exact ⟨n, [], Nat.le_refl _, rfl, rfl, by rw [List.append_nil]; exact ⟨ov, hb0, ho0⟩, hB0⟩
    case round =>
      obtain ⟨j, part, hj, rfl, hpart, ⟨rv, hbr, hor⟩, hBr⟩ := hrel
      have hc0 : wr.cell? ⟨B, 0, none⟩ = some rv := by simp [World.cell?, hbr]
      have hf0 : wr.frozen? ⟨B, 0, none⟩ = false := by simp [World.frozen?, hbr]
      have HP := Lib.hid hpart; clear hpart
      cases j with
      | zero =>
        go_wp2
        go_end0
        have h := HP.out
        rw [be, List.append_nil] at h
        rw [h]
        rw [Bool.true_or]; exact ⟨rfl, ⟨rv, hbr, hor⟩, hBr⟩
      | succ j =>
        rw [show (((j + 1 : Nat) : Int) - 1) = (j : Int) from by omega]
        have hBw : B < wr.heap.size := (Array.getElem?_eq_some_iff.1 hbr).1
        have hne := own_ne hor hbr (by decide)
        obtain ⟨i0, hi0, hz0, hz1, hz2⟩ := info_parts info5
        have hlen : (l ++ part).length ≤ 1099511627776 + 8 := by
          have h1 := congrArg List.length HP.out
          rw [List.length_append, be_length, be_length] at h1
          rw [List.length_append]; omega
        have hfz : ∀ o, (wr.alloc o).drew.frozen? ⟨B, 0, none⟩ = false := fun o => (World.frozen?_alloc_past _ _ _ hBw).trans hf0
        have hcc : ∀ o, (wr.alloc o).drew.cell? ⟨B, 0, none⟩ = some rv := fun o => (World.cell?_alloc_past _ _ _ hBw).trans hc0
        have q1 : (l ++ part).length + 1 ≤ maxLen := by unfold maxLen; omega
        have q2 : ((l ++ part).length + 1) * 1 ≤ 140737488355328 := by omega
        have q3 : B ≤ (wr.drew.alloc (.cells #[.int .u8 ((byteAt v j).toNat : Int)] 5)).heap.size := by simp; omega
        have s1 : (0 : Int) ≤ 8 * (j : Int) := by omega
        have s2 : (8 * (j : Int)).toNat = 8 * j := by omega
        have s3 : min (8 * j) 64 = 8 * j := by omega
        have s4 : IntKind.u8.wrap (v / 2 ^ (8 * j)) = ((byteAt v j).toNat : Int) := by rw [byteAt_val]; rfl
        have s5 : IntKind.i64.wrap (8 * (j : Int)) = 8 * (j : Int) := IntWalk.i64_in _ (by omega)
        go_wp2_with fail
        go_region_law ((refine step_append_lies _ (by rfl) _ _ _ (by rfl) B 5 i0 _ 1 1 Tryz.underlying126 hi0 hz0 hz1 hz2 rfl (by decide) rv _ (bc (l ++ part)) (by rfl) ((hor.alloc _).drew) ⟨wr.heap.size, 0, none⟩ 1 1 [.int .u8 ((byteAt v j).toNat : Int)] (by rfl) (by rfl) (World.news_of_block (cs := #[.int .u8 ((byteAt v j).toNat : Int)]) (t := 5) (fr := (0, 0)) (heap_alloc_new wr _)) (by simp [Value.oneCell']) (by decide) q1 q2 q3 (wr.heap.size + 1) (by simp) ?_; intro gg cap w1 hown1 hgrow hat hlt; have hcz := (hgrow.cell_far ⟨B, 0, none⟩ (by simp; omega) (Ne.symm hne)).trans (hcc _); have hfz1 := (hgrow.frozen_far ⟨B, 0, none⟩ (by simp; omega) (Ne.symm hne)).trans (hfz _)))
        all_goals
          clear s1 s2 s3 s4 s5 hcc hfz hcz hfz1
          go_wp2
          obtain ⟨hS2, hB2⟩ := sink_put (w := w) hbr hor (((Fr.refl B wr).alloc (Nat.le_of_lt hBw) _).drew) hBr (Below.heap_alloc _ _ _ hBw) hown1 hgrow
          have HS2 := Lib.hid hS2; clear hS2
          have HB2 := Lib.hid hB2; clear hB2
          go_roundw
          case rel =>
            refine ⟨j, part ++ [byteAt v j], by omega, by go_num, by rw [HP.out]; simp [be], ?_, ?_⟩
            · rw [← List.append_assoc]; simpa using HS2.out
            · simpa using HB2.out
          case measure => simp [intOf]
  | false =>
    by_cases hneg : v < 0
    · have b1 : decide (v < 0) = true := by simpa using hneg
      go_enter Tryz.func80, Tryz.ntmps80
      go_wp2_with fail
      obtain ⟨W0, hW0⟩ : ∃ W0, W0 = w.setCell ⟨B, 1, none⟩ (.bool true) := ⟨_, rfl⟩
      rw [← hW0]
      have hb0 : W0.heap[B]? = some (.cells #[ov, .bool true] 128 (0, 0)) := by rw [hW0]; exact (cells2_set w B _ _ _ _ hb).2
      have ho0 : W0.ownsRow B 5 1 ov l.length (bc l) := by rw [hW0]; exact ownsRow_setCell_other ho (a := ⟨B, 1, none⟩) (own_ne ho hb (by decide)) _
      have hB0 : Fr B w W0 := by rw [hW0]; exact (Fr.refl _ _).setCell _ _ _
      clear hW0 hb ho hc0 hc1 hf0 hf1
      go_loopw [6] (fun i wr => ∃ (j : Nat) (part : List UInt8), j ≤ n ∧ i = .int .i64 ((j : Int) - 1) ∧ be v n = part ++ be v j ∧ Sink B wr (l ++ part) true ∧ Fr B w wr) (fun i _ => ((intOf i) + 1).toNat)
      case atStart => exact ⟨n, [], Nat.le_refl _, rfl, rfl, by rw [List.append_nil]; exact ⟨ov, hb0, ho0⟩, hB0⟩
      case round =>
        obtain ⟨j, part, hj, rfl, hpart, ⟨rv, hbr, hor⟩, hBr⟩ := hrel
        have hc0 : wr.cell? ⟨B, 0, none⟩ = some rv := by simp [World.cell?, hbr]
        have hf0 : wr.frozen? ⟨B, 0, none⟩ = false := by simp [World.frozen?, hbr]
        have HP := Lib.hid hpart; clear hpart
        cases j with
        | zero =>
          go_wp2
          go_end0
          have h := HP.out
          rw [be, List.append_nil] at h
          rw [h]
          rw [Bool.false_or, badNum, b1, Bool.true_or]; exact ⟨rfl, ⟨rv, hbr, hor⟩, hBr⟩
        | succ j =>
          rw [show (((j + 1 : Nat) : Int) - 1) = (j : Int) from by omega]
          have hBw : B < wr.heap.size := (Array.getElem?_eq_some_iff.1 hbr).1
          have hne := own_ne hor hbr (by decide)
          obtain ⟨i0, hi0, hz0, hz1, hz2⟩ := info_parts info5
          have hlen : (l ++ part).length ≤ 1099511627776 + 8 := by
            have h1 := congrArg List.length HP.out
            rw [List.length_append, be_length, be_length] at h1
            rw [List.length_append]; omega
          have hfz : ∀ o, (wr.alloc o).drew.frozen? ⟨B, 0, none⟩ = false := fun o => (World.frozen?_alloc_past _ _ _ hBw).trans hf0
          have hcc : ∀ o, (wr.alloc o).drew.cell? ⟨B, 0, none⟩ = some rv := fun o => (World.cell?_alloc_past _ _ _ hBw).trans hc0
          have q1 : (l ++ part).length + 1 ≤ maxLen := by unfold maxLen; omega
          have q2 : ((l ++ part).length + 1) * 1 ≤ 140737488355328 := by omega
          have q3 : B ≤ (wr.drew.alloc (.cells #[.int .u8 ((byteAt v j).toNat : Int)] 5)).heap.size := by simp; omega
          have s1 : (0 : Int) ≤ 8 * (j : Int) := by omega
          have s2 : (8 * (j : Int)).toNat = 8 * j := by omega
          have s3 : min (8 * j) 64 = 8 * j := by omega
          have s4 : IntKind.u8.wrap (v / 2 ^ (8 * j)) = ((byteAt v j).toNat : Int) := by rw [byteAt_val]; rfl
          have s5 : IntKind.i64.wrap (8 * (j : Int)) = 8 * (j : Int) := IntWalk.i64_in _ (by omega)
          go_wp2_with fail
          go_region_law ((refine step_append_lies _ (by rfl) _ _ _ (by rfl) B 5 i0 _ 1 1 Tryz.underlying126 hi0 hz0 hz1 hz2 rfl (by decide) rv _ (bc (l ++ part)) (by rfl) ((hor.alloc _).drew) ⟨wr.heap.size, 0, none⟩ 1 1 [.int .u8 ((byteAt v j).toNat : Int)] (by rfl) (by rfl) (World.news_of_block (cs := #[.int .u8 ((byteAt v j).toNat : Int)]) (t := 5) (fr := (0, 0)) (heap_alloc_new wr _)) (by simp [Value.oneCell']) (by decide) q1 q2 q3 (wr.heap.size + 1) (by simp) ?_; intro gg cap w1 hown1 hgrow hat hlt; have hcz := (hgrow.cell_far ⟨B, 0, none⟩ (by simp; omega) (Ne.symm hne)).trans (hcc _); have hfz1 := (hgrow.frozen_far ⟨B, 0, none⟩ (by simp; omega) (Ne.symm hne)).trans (hfz _)))
          all_goals
            clear s1 s2 s3 s4 s5 hcc hfz hcz hfz1
            go_wp2
            obtain ⟨hS2, hB2⟩ := sink_put (w := w) hbr hor (((Fr.refl B wr).alloc (Nat.le_of_lt hBw) _).drew) hBr (Below.heap_alloc _ _ _ hBw) hown1 hgrow
            have HS2 := Lib.hid hS2; clear hS2
            have HB2 := Lib.hid hB2; clear hB2
            go_roundw
            case rel =>
              refine ⟨j, part ++ [byteAt v j], by omega, by go_num, by rw [HP.out]; simp [be], ?_, ?_⟩
              · rw [← List.append_assoc]; simpa using HS2.out
              · simpa using HB2.out
            case measure => simp [intOf]
    · have b1 : decide (v < 0) = false := by simpa using hneg
      go_enter Tryz.func80, Tryz.ntmps80
      go_wp2_with fail
      obtain ⟨W0, hW0⟩ : ∃ W0, W0 = w.setCell ⟨B, 1, none⟩ (.bool (v / 2 ^ (8 * n) != 0)) := ⟨_, rfl⟩
      rw [← hW0]
      have hb0 : W0.heap[B]? = some (.cells #[ov, .bool (v / 2 ^ (8 * n) != 0)] 128 (0, 0)) := by rw [hW0]; exact (cells2_set w B _ _ _ _ hb).2
      have ho0 : W0.ownsRow B 5 1 ov l.length (bc l) := by rw [hW0]; exact ownsRow_setCell_other ho (a := ⟨B, 1, none⟩) (own_ne ho hb (by decide)) _
      have hB0 : Fr B w W0 := by rw [hW0]; exact (Fr.refl _ _).setCell _ _ _
      clear hW0 hb ho hc0 hc1 hf0 hf1
      go_loopw [6] (fun i wr => ∃ (j : Nat) (part : List UInt8), j ≤ n ∧ i = .int .i64 ((j : Int) - 1) ∧ be v n = part ++ be v j ∧ Sink B wr (l ++ part) (v / 2 ^ (8 * n) != 0) ∧ Fr B w wr) (fun i _ => ((intOf i) + 1).toNat)
      case atStart => exact ⟨n, [], Nat.le_refl _, rfl, rfl, by rw [List.append_nil]; exact ⟨ov, hb0, ho0⟩, hB0⟩
      case round =>
        obtain ⟨j, part, hj, rfl, hpart, ⟨rv, hbr, hor⟩, hBr⟩ := hrel
        have hc0 : wr.cell? ⟨B, 0, none⟩ = some rv := by simp [World.cell?, hbr]
        have hf0 : wr.frozen? ⟨B, 0, none⟩ = false := by simp [World.frozen?, hbr]
        have HP := Lib.hid hpart; clear hpart
        cases j with
        | zero =>
          go_wp2
          go_end0
          have h := HP.out
          rw [be, List.append_nil] at h
          rw [h]
          rw [Bool.false_or, badNum, b1, Bool.false_or]; exact ⟨rfl, ⟨rv, hbr, hor⟩, hBr⟩
        | succ j =>
          rw [show (((j + 1 : Nat) : Int) - 1) = (j : Int) from by omega]
          have hBw : B < wr.heap.size := (Array.getElem?_eq_some_iff.1 hbr).1
          have hne := own_ne hor hbr (by decide)
          obtain ⟨i0, hi0, hz0, hz1, hz2⟩ := info_parts info5
          have hlen : (l ++ part).length ≤ 1099511627776 + 8 := by
            have h1 := congrArg List.length HP.out
            rw [List.length_append, be_length, be_length] at h1
            rw [List.length_append]; omega
          have hfz : ∀ o, (wr.alloc o).drew.frozen? ⟨B, 0, none⟩ = false := fun o => (World.frozen?_alloc_past _ _ _ hBw).trans hf0
          have hcc : ∀ o, (wr.alloc o).drew.cell? ⟨B, 0, none⟩ = some rv := fun o => (World.cell?_alloc_past _ _ _ hBw).trans hc0
          have q1 : (l ++ part).length + 1 ≤ maxLen := by unfold maxLen; omega
          have q2 : ((l ++ part).length + 1) * 1 ≤ 140737488355328 := by omega
          have q3 : B ≤ (wr.drew.alloc (.cells #[.int .u8 ((byteAt v j).toNat : Int)] 5)).heap.size := by simp; omega
          have s1 : (0 : Int) ≤ 8 * (j : Int) := by omega
          have s2 : (8 * (j : Int)).toNat = 8 * j := by omega
          have s3 : min (8 * j) 64 = 8 * j := by omega
          have s4 : IntKind.u8.wrap (v / 2 ^ (8 * j)) = ((byteAt v j).toNat : Int) := by rw [byteAt_val]; rfl
          have s5 : IntKind.i64.wrap (8 * (j : Int)) = 8 * (j : Int) := IntWalk.i64_in _ (by omega)
          go_wp2_with fail
          go_region_law ((refine step_append_lies _ (by rfl) _ _ _ (by rfl) B 5 i0 _ 1 1 Tryz.underlying126 hi0 hz0 hz1 hz2 rfl (by decide) rv _ (bc (l ++ part)) (by rfl) ((hor.alloc _).drew) ⟨wr.heap.size, 0, none⟩ 1 1 [.int .u8 ((byteAt v j).toNat : Int)] (by rfl) (by rfl) (World.news_of_block (cs := #[.int .u8 ((byteAt v j).toNat : Int)]) (t := 5) (fr := (0, 0)) (heap_alloc_new wr _)) (by simp [Value.oneCell']) (by decide) q1 q2 q3 (wr.heap.size + 1) (by simp) ?_; intro gg cap w1 hown1 hgrow hat hlt; have hcz := (hgrow.cell_far ⟨B, 0, none⟩ (by simp; omega) (Ne.symm hne)).trans (hcc _); have hfz1 := (hgrow.frozen_far ⟨B, 0, none⟩ (by simp; omega) (Ne.symm hne)).trans (hfz _)))
          all_goals
            clear s1 s2 s3 s4 s5 hcc hfz hcz hfz1
            go_wp2
            obtain ⟨hS2, hB2⟩ := sink_put (w := w) hbr hor (((Fr.refl B wr).alloc (Nat.le_of_lt hBw) _).drew) hBr (Below.heap_alloc _ _ _ hBw) hown1 hgrow
            have HS2 := Lib.hid hS2; clear hS2
            have HB2 := Lib.hid hB2; clear hB2
            go_roundw
            case rel =>
              refine ⟨j, part ++ [byteAt v j], by omega, by go_num, by rw [HP.out]; simp [be], ?_, ?_⟩
              · rw [← List.append_assoc]; simpa using HS2.out
              · simpa using HB2.out
            case measure => simp [intOf]
end Go.Proofs.YtnllofjjffflkaaGreatDoor
