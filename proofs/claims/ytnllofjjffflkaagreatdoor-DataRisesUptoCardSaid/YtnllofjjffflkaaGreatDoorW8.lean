/- Walks of OfDs and OfSoa; for texts of at most 2^30 bytes. -/
import Derived.Test.YtnllofjjffflkaaGreatDoorW7
set_option linter.unusedSimpArgs false
set_option linter.unusedVariables false
namespace Go.Proofs.YtnllofjjffflkaaGreatDoor
open Go.RowKit Gp
set_option maxRecDepth 100000 in
set_option maxHeartbeats 1000000 in
theorem ofDs_any (x : Ds) (w : World) (h1 : I64 x.tag) (h2 : I64 x.alg) (h3 : I64 x.kind) (h4 : x.digest.size ≤ 1099511620000) :
    Calls Tryz.prog 34 #[dsV x] w fun e w' => e = .returned (.tuple #[.string (doneV (dsL x) (dsBad x)).1, .int .i64 (doneV (dsL x) (dsBad x)).2]) ∧ Below w.heap.size w w' := by
  obtain ⟨flags, protocol, alg, pub⟩ := x
  obtain ⟨h1a, h1b⟩ := h1
  obtain ⟨h2a, h2b⟩ := h2
  obtain ⟨h3a, h3b⟩ := h3
  dsimp only at h1a h1b h2a h2b h3a h3b h4
  have hS0 := sink_new (w.alloc (.cells #[.int .i64 flags, .int .i64 protocol, .int .i64 alg, .string pub] 48))
  rw [World.size_alloc] at hS0
  have hK0 := (Blk.new w #[.int .i64 flags, .int .i64 protocol, .int .i64 alg, .string pub] 48).alloc (.cells #[.slice none 0 0, .bool false] 128)
  have hB0 : Below w.heap.size w ((w.alloc (.cells #[.int .i64 flags, .int .i64 protocol, .int .i64 alg, .string pub] 48)).alloc (.cells #[.slice none 0 0, .bool false] 128)) := ((Below.refl _ _).alloc (Nat.le_refl _) _).alloc (by simp) _
  go_enter Tryz.func34, Tryz.ntmps34
  go_wp2_with fail
  refine (sink_number _ _ 2 _ _ _ hS0 (by omega) (by omega) (by simp) h1a h1b).mono ?_
  rintro e w1 ⟨rfl, hS1, hB1⟩
  have hK1 := hK0.below hB1.below (by omega)
  have hb1 := hB0.trans (hB1.below.mono (by omega))
  have c1 := hK1.cells
  clear hS0 hK0 hB0 hB1
  go_wp2_with fail
  refine (sink_number _ _ 1 _ _ _ hS1 (by omega) (by omega) (by simp [be_length]) h2a h2b).mono ?_
  rintro e w2 ⟨rfl, hS2, hB2⟩
  have hK2 := hK1.below hB2.below (by omega)
  have hb2 := hb1.trans (hB2.below.mono (by omega))
  have c2 := hK2.cells
  clear hS1 hK1 hB2 hb1 c1
  go_wp2_with fail
  refine (sink_number _ _ 1 _ _ _ hS2 (by omega) (by omega) (by simp [be_length]) h3a h3b).mono ?_
  rintro e w3 ⟨rfl, hS3, hB3⟩
  have hK3 := hK2.below hB3.below (by omega)
  have hb3 := hb2.trans (hB3.below.mono (by omega))
  have c3 := hK3.cells
  clear hS2 hK2 hB3 hb2 c2
  go_wp2_with fail
  refine (sink_bytes _ _ 1 _ _ _ hS3 (by simp [be_length]; omega)).mono ?_
  rintro e w4 ⟨rfl, hS4, hB4⟩
  have hb4 := hb3.trans (hB4.below.mono (by omega))
  clear hS3 hB4 hb3 c3 hK3
  go_wp2_with fail
  refine (sink_done _ _ _ _ hS4 (by simp [be_length, data_length]; omega)).mono ?_
  rintro e w5 ⟨rfl, rfl⟩
  clear hS4
  go_wp2_with fail
  go_ret2
  exact ⟨by simp [dsL, dsBad], hb4⟩

/-- Numbers, each of n bytes. -/
def numsL (n : Nat) (xs : List Int) : List UInt8 := xs.flatMap (be · n)
def numsBad (n : Nat) (xs : List Int) : Bool := xs.any (badNum · n)
theorem numsL_take (n : Nat) (xs : List Int) (k : Nat) (x : Int) (h : xs[k]? = some x) : numsL n (xs.take (k + 1)) = numsL n (xs.take k) ++ be x n := by
  have hk := (List.getElem?_eq_some_iff.1 h)
  obtain ⟨hlt, rfl⟩ := hk
  unfold numsL; rw [List.take_succ_eq_append_getElem hlt, List.flatMap_append, List.flatMap_singleton]
theorem numsBad_take (n : Nat) (xs : List Int) (k : Nat) (x : Int) (h : xs[k]? = some x) : numsBad n (xs.take (k + 1)) = (numsBad n (xs.take k) || badNum x n) := by
  have hk := (List.getElem?_eq_some_iff.1 h)
  obtain ⟨hlt, rfl⟩ := hk
  unfold numsBad; rw [List.take_succ_eq_append_getElem hlt, List.any_append, List.any_cons, List.any_nil, Bool.or_false]
theorem numsL_length (n : Nat) (xs : List Int) : (numsL n xs).length = n * xs.length := by
  induction xs with
  | nil => simp [numsL]
  | cons x r ih => simp only [numsL, List.flatMap_cons, List.length_append, be_length] at ih ⊢; rw [ih, List.length_cons, Nat.mul_succ]; omega

abbrev soaV (x : Soa) : Value := .agg #[.string x.primary, .string x.mail, .int .i64 x.serial, .int .i64 x.refresh, .int .i64 x.retry, .int .i64 x.expire, .int .i64 x.minimum]
set_option maxRecDepth 100000 in
set_option maxHeartbeats 1000000 in
theorem ofSoa_any (x : Soa) (w : World) (h1 : x.primary.size ≤ 1073741824) (h2 : x.mail.size ≤ 1073741824) (hn : ∀ n ∈ [x.serial, x.refresh, x.retry, x.expire, x.minimum], I64 n) :
    Calls Tryz.prog 28 #[soaV x] w fun e w' => e = .returned (.tuple #[.string (doneV (soaL x) (soaBad x)).1, .int .i64 (doneV (soaL x) (soaBad x)).2]) ∧ Below w.heap.size w w' := by
  obtain ⟨p, m, n1, n2, n3, n4, n5⟩ := x
  dsimp only at h1 h2 hn
  have HN := Lib.hid hn; clear hn
  have hS0 := sink_new (w.alloc (.cells #[.string p, .string m, .int .i64 n1, .int .i64 n2, .int .i64 n3, .int .i64 n4, .int .i64 n5] 30))
  rw [World.size_alloc] at hS0
  have hK0 := (Blk.new w #[.string p, .string m, .int .i64 n1, .int .i64 n2, .int .i64 n3, .int .i64 n4, .int .i64 n5] 30).alloc (.cells #[.slice none 0 0, .bool false] 128)
  have hB0 : Below w.heap.size w ((w.alloc (.cells #[.string p, .string m, .int .i64 n1, .int .i64 n2, .int .i64 n3, .int .i64 n4, .int .i64 n5] 30)).alloc (.cells #[.slice none 0 0, .bool false] 128)) := ((Below.refl _ _).alloc (Nat.le_refl _) _).alloc (by simp) _
  go_enter Tryz.func28, Tryz.ntmps28
  go_wp2_with fail
  refine (sink_name _ _ _ _ _ hS0 (by simp; omega)).mono ?_
  rintro e w1 ⟨rfl, hS1, hB1⟩
  have hK1 := hK0.below hB1.below (by omega)
  have hb1 := hB0.trans (hB1.below.mono (by omega))
  have c1 := hK1.cells
  clear hS0 hK0 hB0 hB1
  go_wp2_with fail
  refine (sink_name _ _ _ _ _ hS1 (by simp [data_length]; omega)).mono ?_
  rintro e w2 ⟨rfl, hS2, hB2⟩
  have hK2 := hK1.below hB2.below (by omega)
  have hb2 := hb1.trans (hB2.below.mono (by omega))
  have c2 := hK2.cells
  clear hS1 hK1 hB2 hb1 c1
  go_wp2_with fail
  have hS3 : Sink (w.heap.size + 1) (w2.alloc (.cells #[.int .i64 n1, .int .i64 n2, .int .i64 n3, .int .i64 n4, .int .i64 n5] 3)) (([] ++ p.data.toList) ++ m.data.toList) ((false || !rightB p) || !rightB m) := by
    obtain ⟨ov, hb, ho⟩ := hS2
    exact ⟨ov, (Below.heap_alloc _ _ _ (Array.getElem?_eq_some_iff.1 hb).1).trans hb, ho.alloc _⟩
  have hsz := hb2.size
  have hne : w2.heap.size ≠ w.heap.size + 1 := by
    intro e
    obtain ⟨ov, hb, ho⟩ := hS2
    have := (Array.getElem?_eq_some_iff.1 hb).1; omega
  have hsz2 : w.heap.size + 1 ≤ w2.heap.size := by
    obtain ⟨ov, hb, ho⟩ := hS2
    have := (Array.getElem?_eq_some_iff.1 hb).1; omega
  have hb3 : Below w.heap.size w (w2.alloc (.cells #[.int .i64 n1, .int .i64 n2, .int .i64 n3, .int .i64 n4, .int .i64 n5] 3)) := hb2.alloc hsz _
  have hL3 := Blk.new w2 #[.int .i64 n1, .int .i64 n2, .int .i64 n3, .int .i64 n4, .int .i64 n5] 3
  clear hS2 hK2 c2 hb2
  go_loopw [29] (fun i wr => ∃ k : Nat, k ≤ 5 ∧ i = .int .i64 (k : Int) ∧ Sink (w.heap.size + 1) wr ((([] ++ p.data.toList) ++ m.data.toList) ++ numsL 4 ([n1, n2, n3, n4, n5].take k)) (((false || !rightB p) || !rightB m) || numsBad 4 ([n1, n2, n3, n4, n5].take k)) ∧ Below w.heap.size w wr ∧ Blk w2.heap.size #[.int .i64 n1, .int .i64 n2, .int .i64 n3, .int .i64 n4, .int .i64 n5] 3 wr) (fun i _ => 5 - (intOf i).toNat)
  case atStart => exact ⟨0, by omega, rfl, by simpa [numsL, numsBad] using hS3, hb3, hL3⟩
  case round =>
    obtain ⟨k, hk, rfl, hSk, hbk, hLk⟩ := hrel
    clear hS3 hb3 hL3
    have hl4 := numsL_length 4 ([n1, n2, n3, n4, n5].take k)
    have hl5 : ([n1, n2, n3, n4, n5].take k).length ≤ 5 := by rw [List.length_take]; exact Nat.min_le_right _ _
    have hll : ((([] ++ p.data.toList) ++ m.data.toList) ++ numsL 4 ([n1, n2, n3, n4, n5].take k)).length ≤ 4294967296 := by
      simp only [List.length_append, List.length_nil, data_length, hl4]; omega
    have HL4 := Lib.hid hl4; clear hl4 hl5
    by_cases hlt : k < 5
    · obtain ⟨x, hx⟩ : ∃ x, [n1, n2, n3, n4, n5][k]? = some x := ⟨_, List.getElem?_eq_getElem (by simpa using hlt)⟩
      have hI := HN.out x (List.mem_of_getElem? hx)
      have hc : wr.cell? ⟨w2.heap.size, k, none⟩ = some (.int .i64 x) := by
        rw [hLk.cells k]
        have : (#[Value.int .i64 n1, .int .i64 n2, .int .i64 n3, .int .i64 n4, .int .i64 n5] : Array Value)[k]? = ([n1, n2, n3, n4, n5][k]?).map (Value.int .i64) := by
          rw [← List.getElem?_map]; simp
        rw [this, hx]; rfl
      have HX := Lib.hid hx; clear hx
      go_wp2_with fail
      refine (sink_number _ _ 4 _ _ _ hSk (by omega) (by omega) (by omega) hI.1 hI.2).mono ?_
      rintro e w4 ⟨rfl, hS4, hB4⟩
      rw [List.append_assoc, ← numsL_take 4 _ k x HX.out, Bool.or_assoc, ← numsBad_take 4 _ k x HX.out] at hS4
      have hL4 : Blk w2.heap.size #[.int .i64 n1, .int .i64 n2, .int .i64 n3, .int .i64 n4, .int .i64 n5] 3 w4 := hB4.keep _ _ hLk hne (by intro c f h; cases h)
      have HS4 := Lib.hid hS4; clear hS4
      have HF := Lib.hid (And.intro (hbk.trans (hB4.below.mono (by omega))) hL4); clear hL4 hB4 hSk hbk hLk
      go_wp2_with fail
      go_roundw
      case rel => exact ⟨k + 1, by omega, by go_num, HS4.out, HF.out.1, HF.out.2⟩
      case measure => simp [intOf]; omega
    · obtain rfl : k = 5 := by omega
      have HB := Lib.hid hbk; clear hbk hLk
      go_wp2_with fail
      refine (sink_done _ _ _ _ hSk (by omega)).mono ?_
      rintro e w5 ⟨rfl, rfl⟩
      clear hSk
      go_wp2_with fail
      go_ret2
      refine ⟨?_, HB.out⟩
      simp [soaL, soaBad, numsL, numsBad, Bool.or_assoc]
end Go.Proofs.YtnllofjjffflkaaGreatDoor
