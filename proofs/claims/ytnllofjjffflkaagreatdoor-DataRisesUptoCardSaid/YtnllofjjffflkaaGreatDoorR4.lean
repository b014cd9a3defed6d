/- Walk of the document's own OfSig; for texts of at most 2^30 bytes. -/
import Derived.Test.YtnllofjjffflkaaGreatDoorR3
set_option linter.unusedSimpArgs false
set_option linter.unusedVariables false
namespace Go.Proofs.YtnllofjjffflkaaGreatDoor
open Go.RowKit Gp
set_option maxRecDepth 100000 in
set_option maxHeartbeats 8000000 in
theorem refOfSig_any (x : Sig) (w : World) (hz0 : x.signer.size ≤ 1073741824) (hz1 : x.sign.size ≤ 1073741824) :
    Calls Tryz.prog 31 #[sigV x] w fun e w' => e = .returned (.tuple #[.string (refDone (sigL x) (sigBad x)).1, .bool (refDone (sigL x) (sigBad x)).2]) ∧ Below w.heap.size w w' := by
  obtain ⟨v1, v2, v3, v4, v5, v6, v7, sg, si⟩ := x
  dsimp only at hz0 hz1
  have hK := Blk.new w #[.int .i64 v1, .int .i64 v2, .int .i64 v3, .int .i64 v4, .int .i64 v5, .int .i64 v6, .int .i64 v7, .string sg, .string si] 36
  have hB0 : Below w.heap.size w (w.alloc (.cells #[.int .i64 v1, .int .i64 v2, .int .i64 v3, .int .i64 v4, .int .i64 v5, .int .i64 v6, .int .i64 v7, .string sg, .string si] 36)) := (Below.refl _ _).alloc (Nat.le_refl _) _
  have f1 := refFits_any v1 2
  have f2 := refFits_any v2 1
  have f3 := refFits_any v3 1
  have f4 := refFits_any v4 4
  have f5 := refFits_any v5 4
  have f6 := refFits_any v6 4
  have f7 := refFits_any v7 2
  go_enter Tryz.func31, Tryz.ntmps31
  go_wp2_with fail
  refine (refRight_any sg _).mono ?_
  rintro e w1 ⟨rfl, hB1⟩
  replace hK := hK.below hB1 (by simp)
  replace hB0 := hB0.trans (hB1.mono (by simp))
  have hs1 : w.heap.size < w1.heap.size := by have := hB1.size; simp at this; omega
  clear hB1
  have hc := hK.cells
  have c0 := hc 0
  have c1 := hc 1
  have c2 := hc 2
  have c3 := hc 3
  have c4 := hc 4
  have c5 := hc 5
  have c6 := hc 6
  have c7 := hc 7
  have c8 := hc 8
  simp only [List.getElem?_toArray, List.getElem?_cons_zero, List.getElem?_cons_succ] at c0 c1 c2 c3 c4 c5 c6 c7 c8
  clear hc
  go_upto_region 2 with fail
  go_cut [4] (fun s4 wx => s4 = .bool (!sigBad ⟨v1, v2, v3, v4, v5, v6, v7, sg, si⟩) ∧ wx = w1)
  case first =>
    go_wp2_with (first | (go_at_call_of 83 (Value.int IntKind.i64 v1); refine (f1 _ (by omega)).mono ?_; rintro e w' ⟨rfl, rfl⟩) | (go_at_call_of 83 (Value.int IntKind.i64 v2); refine (f2 _ (by omega)).mono ?_; rintro e w' ⟨rfl, rfl⟩) | (go_at_call_of 83 (Value.int IntKind.i64 v3); refine (f3 _ (by omega)).mono ?_; rintro e w' ⟨rfl, rfl⟩) | (go_at_call_of 83 (Value.int IntKind.i64 v4); refine (f4 _ (by omega)).mono ?_; rintro e w' ⟨rfl, rfl⟩) | (go_at_call_of 83 (Value.int IntKind.i64 v5); refine (f5 _ (by omega)).mono ?_; rintro e w' ⟨rfl, rfl⟩) | (go_at_call_of 83 (Value.int IntKind.i64 v6); refine (f6 _ (by omega)).mono ?_; rintro e w' ⟨rfl, rfl⟩) | (go_at_call_of 83 (Value.int IntKind.i64 v7); refine (f7 _ (by omega)).mono ?_; rintro e w' ⟨rfl, rfl⟩))
    all_goals
      go_meet
      refine ⟨?_, rfl⟩
      clear f1 f2 f3 f4 f5 f6 f7 hB0 hK
      simp_all [sigBad]
      try (rw [Bool.eq_iff_iff]; simp; omega)
  case rest =>
    obtain ⟨rfl, rfl⟩ := hcut
    obtain ⟨bad, hbad⟩ : ∃ bad, bad = sigBad ⟨v1, v2, v3, v4, v5, v6, v7, sg, si⟩ := ⟨_, rfl⟩
    rw [← hbad]
    clear f1 f2 f3 f4 f5 f6 f7
    have HBAD := Lib.hid hbad; clear hbad
    have n1 := fun W => refNum_s v1 2 W (by omega)
    have n2 := fun W => refNum_s v2 1 W (by omega)
    have n3 := fun W => refNum_s v3 1 W (by omega)
    have n4 := fun W => refNum_s v4 4 W (by omega)
    have n5 := fun W => refNum_s v5 4 W (by omega)
    have n6 := fun W => refNum_s v6 4 W (by omega)
    have n7 := fun W => refNum_s v7 2 W (by omega)
    have z1 := numS_size v1 2
    have z2 := numS_size v2 1
    have z3 := numS_size v3 1
    have z4 := numS_size v4 4
    have z5 := numS_size v5 4
    have z6 := numS_size v6 4
    have z7 := numS_size v7 2
    have a1 := add_run (numS v1 2) (numS v2 1) (by omega)
    have a2 := add_run ((numS v1 2) ++ (numS v2 1)) (numS v3 1) (by simp only [ByteArray.size_append]; omega)
    have a3 := add_run ((numS v1 2) ++ (numS v2 1) ++ (numS v3 1)) (numS v4 4) (by simp only [ByteArray.size_append]; omega)
    have a4 := add_run ((numS v1 2) ++ (numS v2 1) ++ (numS v3 1) ++ (numS v4 4)) (numS v5 4) (by simp only [ByteArray.size_append]; omega)
    have a5 := add_run ((numS v1 2) ++ (numS v2 1) ++ (numS v3 1) ++ (numS v4 4) ++ (numS v5 4)) (numS v6 4) (by simp only [ByteArray.size_append]; omega)
    have a6 := add_run ((numS v1 2) ++ (numS v2 1) ++ (numS v3 1) ++ (numS v4 4) ++ (numS v5 4) ++ (numS v6 4)) (numS v7 2) (by simp only [ByteArray.size_append]; omega)
    have a7 := add_run ((numS v1 2) ++ (numS v2 1) ++ (numS v3 1) ++ (numS v4 4) ++ (numS v5 4) ++ (numS v6 4) ++ (numS v7 2)) sg (by simp only [ByteArray.size_append]; omega)
    have a8 := add_run ((numS v1 2) ++ (numS v2 1) ++ (numS v3 1) ++ (numS v4 4) ++ (numS v5 4) ++ (numS v6 4) ++ (numS v7 2) ++ sg) si (by simp only [ByteArray.size_append]; omega)
    have hfull : (numS v1 2) ++ (numS v2 1) ++ (numS v3 1) ++ (numS v4 4) ++ (numS v5 4) ++ (numS v6 4) ++ (numS v7 2) ++ sg ++ si = ofL (sigL ⟨v1, v2, v3, v4, v5, v6, v7, sg, si⟩) := by simp only [sigL, numS_ofL, ← ofL_append, ofL_data]
    clear z1 z2 z3 z4 z5 z6 z7
    have hBd := hB0.drew
    have HFULL := Lib.hid hfull; clear hfull
    have HK := Lib.hid hK; clear hK
    go_wp2_with fail
    go_region_held3 (fun w' => w'.cell? ⟨w.heap.size, 0, none⟩ = some (.int .i64 v1) ∧ w'.cell? ⟨w.heap.size, 1, none⟩ = some (.int .i64 v2) ∧ w'.cell? ⟨w.heap.size, 2, none⟩ = some (.int .i64 v3) ∧ w'.cell? ⟨w.heap.size, 3, none⟩ = some (.int .i64 v4) ∧ w'.cell? ⟨w.heap.size, 4, none⟩ = some (.int .i64 v5) ∧ w'.cell? ⟨w.heap.size, 5, none⟩ = some (.int .i64 v6) ∧ w'.cell? ⟨w.heap.size, 6, none⟩ = some (.int .i64 v7) ∧ w'.cell? ⟨w.heap.size, 7, none⟩ = some (.string sg) ∧ w'.cell? ⟨w.heap.size, 8, none⟩ = some (.string si) ∧ w.heap.size < w'.heap.size ∧ Below w.heap.size w w')
      (first
        | go_keep
        | (go_split_ands
           refine ⟨?_, ?_, ?_, ?_, ?_, ?_, ?_, ?_, ?_, Nat.lt_of_lt_of_le (by assumption) hB.size, Below.trans (by assumption) (hB.mono (Nat.le_of_lt (by assumption)))⟩ <;> (rw [hB.cell (by assumption)]; assumption)))
      (first
        | (go_at_call_of 84 (Value.int IntKind.i64 v1); refine (n1 _).mono ?_; rintro e w1 ⟨rfl, hB⟩)
        | (go_at_call_of 84 (Value.int IntKind.i64 v2); refine (n2 _).mono ?_; rintro e w1 ⟨rfl, hB⟩)
        | (go_at_call_of 84 (Value.int IntKind.i64 v3); refine (n3 _).mono ?_; rintro e w1 ⟨rfl, hB⟩)
        | (go_at_call_of 84 (Value.int IntKind.i64 v4); refine (n4 _).mono ?_; rintro e w1 ⟨rfl, hB⟩)
        | (go_at_call_of 84 (Value.int IntKind.i64 v5); refine (n5 _).mono ?_; rintro e w1 ⟨rfl, hB⟩)
        | (go_at_call_of 84 (Value.int IntKind.i64 v6); refine (n6 _).mono ?_; rintro e w1 ⟨rfl, hB⟩)
        | (go_at_call_of 84 (Value.int IntKind.i64 v7); refine (n7 _).mono ?_; rintro e w1 ⟨rfl, hB⟩)
        | (go_at_call 86; refine (refShort_any _ _ _).mono ?_; rintro e w' ⟨rfl, rfl⟩))
    go_wp2_with fail
    go_ret2
    rename_i hHeld
    refine ⟨?_, hHeld.2.2.2.2.2.2.2.2.2.2⟩
    rw [← HBAD.out]
    unfold refDone
    rw [← HFULL.out]
    rfl
end Go.Proofs.YtnllofjjffflkaaGreatDoor
