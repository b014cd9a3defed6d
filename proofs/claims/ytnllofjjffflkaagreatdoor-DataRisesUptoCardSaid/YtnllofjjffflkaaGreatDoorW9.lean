/- Walk of OfSig; for texts of at most 2^30 bytes. -/
import Derived.Test.YtnllofjjffflkaaGreatDoorW8
set_option linter.unusedSimpArgs false
set_option linter.unusedVariables false
namespace Go.Proofs.YtnllofjjffflkaaGreatDoor
open Go.RowKit Gp
/-- Numbers, each with its bytes' count. -/
def prsL (xs : List (Int × Nat)) : List UInt8 := xs.flatMap (fun x => be x.1 x.2)
def prsBad (xs : List (Int × Nat)) : Bool := xs.any (fun x => badNum x.1 x.2)
theorem prsL_take (xs : List (Int × Nat)) (k : Nat) (x : Int × Nat) (h : xs[k]? = some x) : prsL (xs.take (k + 1)) = prsL (xs.take k) ++ be x.1 x.2 := by
  obtain ⟨hlt, rfl⟩ := List.getElem?_eq_some_iff.1 h
  unfold prsL; rw [List.take_succ_eq_append_getElem hlt, List.flatMap_append, List.flatMap_singleton]
theorem prsBad_take (xs : List (Int × Nat)) (k : Nat) (x : Int × Nat) (h : xs[k]? = some x) : prsBad (xs.take (k + 1)) = (prsBad (xs.take k) || badNum x.1 x.2) := by
  obtain ⟨hlt, rfl⟩ := List.getElem?_eq_some_iff.1 h
  unfold prsBad; rw [List.take_succ_eq_append_getElem hlt, List.any_append, List.any_cons, List.any_nil, Bool.or_false]
theorem prsL_length (xs : List (Int × Nat)) (h : ∀ x ∈ xs, x.2 ≤ 4) : (prsL xs).length ≤ 4 * xs.length := by
  induction xs with
  | nil => simp [prsL]
  | cons x r ih =>
    have h1 := ih (fun y hy => h y (by simp [hy]))
    have h2 := h x (by simp)
    simp only [prsL, List.flatMap_cons, List.length_append, be_length, List.length_cons] at h1 ⊢; omega
abbrev sigV (x : Sig) : Value := .agg #[.int .i64 x.covered, .int .i64 x.alg, .int .i64 x.labels, .int .i64 x.ttl, .int .i64 x.fin, .int .i64 x.start, .int .i64 x.tag, .string x.signer, .string x.sign]
def sigPs (x : Sig) : List (Int × Nat) := [(x.covered, 2), (x.alg, 1), (x.labels, 1), (x.ttl, 4), (x.fin, 4), (x.start, 4), (x.tag, 2)]
set_option maxRecDepth 100000 in
set_option maxHeartbeats 1000000 in
theorem ofSig_any (x : Sig) (w : World) (h1 : x.signer.size ≤ 1073741824) (h2 : x.sign.size ≤ 1073741824) (hn : ∀ n ∈ sigPs x, I64 n.1) :
    Calls Tryz.prog 30 #[sigV x] w fun e w' => e = .returned (.tuple #[.string (doneV (sigL x) (sigBad x)).1, .int .i64 (doneV (sigL x) (sigBad x)).2]) ∧ Below w.heap.size w w' := by
  obtain ⟨n1, n2, n3, n4, n5, n6, n7, sg, si⟩ := x
  dsimp only [sigPs] at h1 h2 hn
  have HN := Lib.hid hn; clear hn
  have hS0 := sink_new (w.alloc (.cells #[.int .i64 n1, .int .i64 n2, .int .i64 n3, .int .i64 n4, .int .i64 n5, .int .i64 n6, .int .i64 n7, .string sg, .string si] 36))
  rw [World.size_alloc] at hS0
  have hK0 := (Blk.new w #[.int .i64 n1, .int .i64 n2, .int .i64 n3, .int .i64 n4, .int .i64 n5, .int .i64 n6, .int .i64 n7, .string sg, .string si] 36).alloc (.cells #[.slice none 0 0, .bool false] 128)
  have hB0 : Below w.heap.size w ((w.alloc (.cells #[.int .i64 n1, .int .i64 n2, .int .i64 n3, .int .i64 n4, .int .i64 n5, .int .i64 n6, .int .i64 n7, .string sg, .string si] 36)).alloc (.cells #[.slice none 0 0, .bool false] 128)) := ((Below.refl _ _).alloc (Nat.le_refl _) _).alloc (by simp) _
  go_enter Tryz.func30, Tryz.ntmps30
  go_wp2_with fail
  have hS1 : Sink (w.heap.size + 1) (((w.alloc (.cells #[.int .i64 n1, .int .i64 n2, .int .i64 n3, .int .i64 n4, .int .i64 n5, .int .i64 n6, .int .i64 n7, .string sg, .string si] 36)).alloc (.cells #[.slice none 0 0, .bool false] 128)).alloc (.cells #[.int .i64 n1, .int .i64 2, .int .i64 n2, .int .i64 1, .int .i64 n3, .int .i64 1, .int .i64 n4, .int .i64 4, .int .i64 n5, .int .i64 4, .int .i64 n6, .int .i64 4, .int .i64 n7, .int .i64 2] 134)) [] false := by
    obtain ⟨ov, hb, ho⟩ := hS0
    exact ⟨ov, (Below.heap_alloc _ _ _ (Array.getElem?_eq_some_iff.1 hb).1).trans hb, ho.alloc _⟩
  have hK1 := hK0.alloc (.cells #[.int .i64 n1, .int .i64 2, .int .i64 n2, .int .i64 1, .int .i64 n3, .int .i64 1, .int .i64 n4, .int .i64 4, .int .i64 n5, .int .i64 4, .int .i64 n6, .int .i64 4, .int .i64 n7, .int .i64 2] 134)
  have hb1 := hB0.alloc (by simp; omega) (.cells #[.int .i64 n1, .int .i64 2, .int .i64 n2, .int .i64 1, .int .i64 n3, .int .i64 1, .int .i64 n4, .int .i64 4, .int .i64 n5, .int .i64 4, .int .i64 n6, .int .i64 4, .int .i64 n7, .int .i64 2] 134)
  have hL1 := Blk.new ((w.alloc (.cells #[.int .i64 n1, .int .i64 n2, .int .i64 n3, .int .i64 n4, .int .i64 n5, .int .i64 n6, .int .i64 n7, .string sg, .string si] 36)).alloc (.cells #[.slice none 0 0, .bool false] 128)) #[.int .i64 n1, .int .i64 2, .int .i64 n2, .int .i64 1, .int .i64 n3, .int .i64 1, .int .i64 n4, .int .i64 4, .int .i64 n5, .int .i64 4, .int .i64 n6, .int .i64 4, .int .i64 n7, .int .i64 2] 134
  have esz : ((w.alloc (.cells #[.int .i64 n1, .int .i64 n2, .int .i64 n3, .int .i64 n4, .int .i64 n5, .int .i64 n6, .int .i64 n7, .string sg, .string si] 36)).alloc (.cells #[.slice none 0 0, .bool false] 128)).heap.size = w.heap.size + 1 + 1 := by simp
  rw [esz] at hL1
  clear hS0 hK0 hB0 esz
  go_loopw [32] (fun i wr => ∃ k : Nat, k ≤ 7 ∧ i = .int .i64 (k : Int) ∧ Sink (w.heap.size + 1) wr ([] ++ prsL ([(n1, 2), (n2, 1), (n3, 1), (n4, 4), (n5, 4), (n6, 4), (n7, 2)].take k)) (false || prsBad ([(n1, 2), (n2, 1), (n3, 1), (n4, 4), (n5, 4), (n6, 4), (n7, 2)].take k)) ∧ (Below w.heap.size w wr ∧ Blk (w.heap.size + 1 + 1) #[.int .i64 n1, .int .i64 2, .int .i64 n2, .int .i64 1, .int .i64 n3, .int .i64 1, .int .i64 n4, .int .i64 4, .int .i64 n5, .int .i64 4, .int .i64 n6, .int .i64 4, .int .i64 n7, .int .i64 2] 134 wr ∧ Blk w.heap.size #[.int .i64 n1, .int .i64 n2, .int .i64 n3, .int .i64 n4, .int .i64 n5, .int .i64 n6, .int .i64 n7, .string sg, .string si] 36 wr)) (fun i _ => 7 - (intOf i).toNat)
  case atStart => exact ⟨0, by omega, rfl, by simpa [prsL, prsBad] using hS1, hb1, hL1, hK1⟩
  case round =>
    obtain ⟨k, hk, rfl, hSk, hbk, hLk, hKk⟩ := hrel
    clear hS1 hb1 hL1 hK1
    have hll : ([] ++ prsL ([(n1, 2), (n2, 1), (n3, 1), (n4, 4), (n5, 4), (n6, 4), (n7, 2)].take k)).length ≤ 100 := by
      have := prsL_length ([(n1, 2), (n2, 1), (n3, 1), (n4, 4), (n5, 4), (n6, 4), (n7, 2)].take k) (fun x hx => by
        have := List.mem_of_mem_take hx
        simp at this; rcases this with rfl | rfl | rfl | rfl | rfl | rfl | rfl <;> simp)
      rw [List.length_take] at this; rw [List.nil_append]; simp at this; omega
    by_cases hlt : k < 7
    · obtain ⟨x, hx⟩ : ∃ x, ([(n1, 2), (n2, 1), (n3, 1), (n4, 4), (n5, 4), (n6, 4), (n7, 2)] : List (Int × Nat))[k]? = some x := ⟨_, List.getElem?_eq_getElem (by simpa using hlt)⟩
      have hmem := List.mem_of_getElem? hx
      have hI := HN.out x hmem
      have hx1 : 1 ≤ x.2 ∧ x.2 ≤ 4 := by simp at hmem; rcases hmem with rfl | rfl | rfl | rfl | rfl | rfl | rfl <;> simp
      have hc : wr.cell? ⟨w.heap.size + 1 + 1, k * 2, none⟩ = some (.int .i64 x.1) ∧ wr.cell? ⟨w.heap.size + 1 + 1, k * 2 + 1, none⟩ = some (.int .i64 (x.2 : Int)) := by
        rw [hLk.cells, hLk.cells]
        clear hSk hLk hKk hbk hll hI hx1 hmem
        match k, hx with
        | 0, hx | 1, hx | 2, hx | 3, hx | 4, hx | 5, hx | 6, hx => simp at hx; subst hx; exact ⟨rfl, rfl⟩
        | k + 7, hx => omega
      obtain ⟨hc1, hc2⟩ := hc
      have HX := Lib.hid hx; clear hx hmem
      have HLK := Lib.hid (And.intro hbk (And.intro hLk hKk)); clear hbk hLk hKk
      have HSK := Lib.hid hSk; clear hSk
      go_wp2_with fail
      have hSx : Sink (w.heap.size + 1) (wr.alloc (.cells #[.int .i64 x.1, .int .i64 (x.2 : Int)] 134)) ([] ++ prsL ([(n1, 2), (n2, 1), (n3, 1), (n4, 4), (n5, 4), (n6, 4), (n7, 2)].take k)) (false || prsBad ([(n1, 2), (n2, 1), (n3, 1), (n4, 4), (n5, 4), (n6, 4), (n7, 2)].take k)) := by
        obtain ⟨ov, hb, ho⟩ := HSK.out
        exact ⟨ov, (Below.heap_alloc _ _ _ (Array.getElem?_eq_some_iff.1 hb).1).trans hb, ho.alloc _⟩
      refine (sink_number _ _ x.2 _ _ _ hSx hx1.1 hx1.2 (by omega) hI.1 hI.2).mono ?_
      rintro e w4 ⟨rfl, hS4, hB4⟩
      clear hSx
      rw [List.append_assoc, ← prsL_take _ k x HX.out, Bool.or_assoc, ← prsBad_take _ k x HX.out] at hS4
      have HS4 := Lib.hid hS4; clear hS4
      have HF := Lib.hid (And.intro ((HLK.out.1.alloc HLK.out.1.size _).trans (hB4.below.mono (by omega))) (And.intro (hB4.keep _ _ (HLK.out.2.1.alloc _) (by omega) (by intro c f h; cases h)) (hB4.keep _ _ (HLK.out.2.2.alloc _) (by omega) (by intro c f h; cases h)))); clear hB4
      go_wp2_with fail
      go_roundw
      case rel => exact ⟨k + 1, by omega, by go_num, HS4.out, HF.out.1, HF.out.2.1, HF.out.2.2⟩
      case measure => simp [intOf]; omega
    · obtain rfl : k = 7 := by omega
      have hcK := hKk.cells
      have HB := Lib.hid (And.intro hbk hKk); clear hbk hLk hKk
      go_wp2_with fail
      refine (sink_name _ _ _ _ _ hSk (by omega)).mono ?_
      rintro e w5 ⟨rfl, hS5, hB5⟩
      have hK5 : Blk w.heap.size #[.int .i64 n1, .int .i64 n2, .int .i64 n3, .int .i64 n4, .int .i64 n5, .int .i64 n6, .int .i64 n7, .string sg, .string si] 36 w5 := hB5.keep _ _ HB.out.2 (by omega) (by intro c f h; cases h)
      have hc5 := hK5.cells
      have HB5 := Lib.hid (HB.out.1.trans (hB5.below.mono (by omega))); clear hB5 hSk hcK hK5
      go_wp2_with fail
      refine (sink_bytes _ _ 1 _ _ _ hS5 (by rw [List.length_append, data_length]; omega)).mono ?_
      rintro e w6 ⟨rfl, hS6, hB6⟩
      have HB6 := Lib.hid (HB5.out.trans (hB6.below.mono (by omega))); clear hB6 hS5 hc5
      go_wp2_with fail
      refine (sink_done _ _ _ _ hS6 (by rw [List.length_append, List.length_append, data_length, data_length]; omega)).mono ?_
      rintro e w7 ⟨rfl, rfl⟩
      clear hS6
      go_wp2_with fail
      go_ret2
      refine ⟨?_, HB6.out⟩
      simp [sigL, sigBad, prsL, prsBad, Bool.or_assoc]
end Go.Proofs.YtnllofjjffflkaaGreatDoor
