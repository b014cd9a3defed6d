/- Walk of the document's own OfSoa; for texts of at most 2^30 bytes. -/
import Derived.Test.YtnllofjjffflkaaGreatDoorR4
set_option linter.unusedSimpArgs false
set_option linter.unusedVariables false
namespace Go.Proofs.YtnllofjjffflkaaGreatDoor
open Go.RowKit Gp
def soaDone (l : List UInt8) (bad : Bool) : ByteArray × Bool := if bad = true then (⟨#[]⟩, false) else (ofL l, true)
set_option maxRecDepth 100000 in
set_option maxHeartbeats 8000000 in
theorem refOfSoa_any (x : Soa) (w : World) (hz0 : x.primary.size ≤ 1073741824) (hz1 : x.mail.size ≤ 1073741824) :
    Calls Tryz.prog 29 #[soaV x] w fun e w' => e = .returned (.tuple #[.string (soaDone (soaL x) (soaBad x)).1, .bool (soaDone (soaL x) (soaBad x)).2]) ∧ Below w.heap.size w w' := by
  obtain ⟨p, m, v1, v2, v3, v4, v5⟩ := x
  dsimp only at hz0 hz1
  have hK := Blk.new w #[.string p, .string m, .int .i64 v1, .int .i64 v2, .int .i64 v3, .int .i64 v4, .int .i64 v5] 30
  have hB0 : Below w.heap.size w (w.alloc (.cells #[.string p, .string m, .int .i64 v1, .int .i64 v2, .int .i64 v3, .int .i64 v4, .int .i64 v5] 30)) := (Below.refl _ _).alloc (Nat.le_refl _) _
  have f1 := refFits_any v1 4
  have f2 := refFits_any v2 4
  have f3 := refFits_any v3 4
  have f4 := refFits_any v4 4
  have f5 := refFits_any v5 4
  go_enter Tryz.func29, Tryz.ntmps29
  go_wp2_with fail
  refine (refRight_any p _).mono ?_
  rintro e w1 ⟨rfl, hB1⟩
  replace hK := hK.below hB1 (by simp)
  replace hB0 := hB0.trans (hB1.mono (by simp))
  have hs1 : w.heap.size < w1.heap.size := by have := hB1.size; simp at this; omega
  clear hB1
  have hc := hK.cells
  have c0 := hc 0
  have c1 := hc 1
  have c2 := hc 2
  have c3 := hc 3
  have c4 := hc 4
  have c5 := hc 5
  have c6 := hc 6
  simp only [List.getElem?_toArray, List.getElem?_cons_zero, List.getElem?_cons_succ] at c0 c1 c2 c3 c4 c5 c6
  clear hc
  go_wp2_with fail
  refine (refRight_any m _).mono ?_
  rintro e w2 ⟨rfl, hB1⟩
  clear c0 c1 c2 c3 c4 c5 c6
  replace hK := hK.below hB1 (by omega)
  replace hB0 := hB0.trans (hB1.mono (by omega))
  replace hs1 : w.heap.size < w2.heap.size := by have := hB1.size; omega
  clear hB1
  have hc := hK.cells
  have c0 := hc 0
  have c1 := hc 1
  have c2 := hc 2
  have c3 := hc 3
  have c4 := hc 4
  have c5 := hc 5
  have c6 := hc 6
  simp only [List.getElem?_toArray, List.getElem?_cons_zero, List.getElem?_cons_succ] at c0 c1 c2 c3 c4 c5 c6
  clear hc
  cases hp : rightB p with
  | false =>
    have hbad : soaBad ⟨p, m, v1, v2, v3, v4, v5⟩ = true := by simp [soaBad, hp]
    have HBAD := Lib.hid hbad; clear hbad f1 f2 f3 f4 f5
    go_wp2_with fail
    go_ret2
    refine ⟨?_, hB0⟩
    rw [HBAD.out]; rfl
  | true =>
    cases hm : rightB m with
    | false =>
      have hbad : soaBad ⟨p, m, v1, v2, v3, v4, v5⟩ = true := by simp [soaBad, hm]
      have HBAD := Lib.hid hbad; clear hbad f1 f2 f3 f4 f5
      go_wp2_with fail
      go_ret2
      refine ⟨?_, hB0⟩
      rw [HBAD.out]; rfl
    | true =>
      have HPM := Lib.hid (And.intro hp hm); clear hp hm
      go_upto_region 3 with fail
      go_cut [47] (fun s47 wx => s47 = .bool (soaBad ⟨p, m, v1, v2, v3, v4, v5⟩) ∧ wx = w2)
      case first =>
        go_wp2_with (first | (go_at_call_of 83 (Value.int IntKind.i64 v1); refine (f1 _ (by omega)).mono ?_; rintro e w' ⟨rfl, rfl⟩) | (go_at_call_of 83 (Value.int IntKind.i64 v2); refine (f2 _ (by omega)).mono ?_; rintro e w' ⟨rfl, rfl⟩) | (go_at_call_of 83 (Value.int IntKind.i64 v3); refine (f3 _ (by omega)).mono ?_; rintro e w' ⟨rfl, rfl⟩) | (go_at_call_of 83 (Value.int IntKind.i64 v4); refine (f4 _ (by omega)).mono ?_; rintro e w' ⟨rfl, rfl⟩) | (go_at_call_of 83 (Value.int IntKind.i64 v5); refine (f5 _ (by omega)).mono ?_; rintro e w' ⟨rfl, rfl⟩))
        all_goals
          go_meet
          refine ⟨?_, rfl⟩
          obtain ⟨hp, hm⟩ := HPM.out
          clear f1 f2 f3 f4 f5 hB0 hK
          simp_all [soaBad]
      case rest =>
        obtain ⟨rfl, rfl⟩ := hcut
        clear f1 f2 f3 f4 f5
        cases hbad : soaBad ⟨p, m, v1, v2, v3, v4, v5⟩ with
        | true =>
          have HBAD := Lib.hid hbad; clear hbad
          go_wp2_with fail
          go_ret2
          refine ⟨?_, hB0⟩
          rw [HBAD.out]; rfl
        | false =>
          have HBAD := Lib.hid hbad; clear hbad
          have n1 := fun W => refNum_s v1 4 W (by omega)
          have n2 := fun W => refNum_s v2 4 W (by omega)
          have n3 := fun W => refNum_s v3 4 W (by omega)
          have n4 := fun W => refNum_s v4 4 W (by omega)
          have n5 := fun W => refNum_s v5 4 W (by omega)
          have z1 := numS_size v1 4
          have z2 := numS_size v2 4
          have z3 := numS_size v3 4
          have z4 := numS_size v4 4
          have z5 := numS_size v5 4
          have a1 := add_run p m (by omega)
          have a2 := add_run (p ++ m) (numS v1 4) (by simp only [ByteArray.size_append]; omega)
          have a3 := add_run (p ++ m ++ (numS v1 4)) (numS v2 4) (by simp only [ByteArray.size_append]; omega)
          have a4 := add_run (p ++ m ++ (numS v1 4) ++ (numS v2 4)) (numS v3 4) (by simp only [ByteArray.size_append]; omega)
          have a5 := add_run (p ++ m ++ (numS v1 4) ++ (numS v2 4) ++ (numS v3 4)) (numS v4 4) (by simp only [ByteArray.size_append]; omega)
          have a6 := add_run (p ++ m ++ (numS v1 4) ++ (numS v2 4) ++ (numS v3 4) ++ (numS v4 4)) (numS v5 4) (by simp only [ByteArray.size_append]; omega)
          have hfull : p ++ m ++ (numS v1 4) ++ (numS v2 4) ++ (numS v3 4) ++ (numS v4 4) ++ (numS v5 4) = ofL (soaL ⟨p, m, v1, v2, v3, v4, v5⟩) := by simp only [soaL, numS_ofL, ← ofL_append, ofL_data]
          clear z1 z2 z3 z4 z5
          have hBd := hB0.drew
          have HFULL := Lib.hid hfull; clear hfull
          have HK := Lib.hid hK; clear hK
          go_wp2_with fail
          go_region_held3 (fun w' => w'.cell? ⟨w.heap.size, 0, none⟩ = some (.string p) ∧ w'.cell? ⟨w.heap.size, 1, none⟩ = some (.string m) ∧ w'.cell? ⟨w.heap.size, 2, none⟩ = some (.int .i64 v1) ∧ w'.cell? ⟨w.heap.size, 3, none⟩ = some (.int .i64 v2) ∧ w'.cell? ⟨w.heap.size, 4, none⟩ = some (.int .i64 v3) ∧ w'.cell? ⟨w.heap.size, 5, none⟩ = some (.int .i64 v4) ∧ w'.cell? ⟨w.heap.size, 6, none⟩ = some (.int .i64 v5) ∧ w.heap.size < w'.heap.size ∧ Below w.heap.size w w')
            (first
              | go_keep
              | (go_split_ands
                 refine ⟨?_, ?_, ?_, ?_, ?_, ?_, ?_, Nat.lt_of_lt_of_le (by assumption) hB.size, Below.trans (by assumption) (hB.mono (Nat.le_of_lt (by assumption)))⟩ <;> (rw [hB.cell (by assumption)]; assumption)))
            (first
              | (go_at_call_of 84 (Value.int IntKind.i64 v1); refine (n1 _).mono ?_; rintro e w1 ⟨rfl, hB⟩)
              | (go_at_call_of 84 (Value.int IntKind.i64 v2); refine (n2 _).mono ?_; rintro e w1 ⟨rfl, hB⟩)
              | (go_at_call_of 84 (Value.int IntKind.i64 v3); refine (n3 _).mono ?_; rintro e w1 ⟨rfl, hB⟩)
              | (go_at_call_of 84 (Value.int IntKind.i64 v4); refine (n4 _).mono ?_; rintro e w1 ⟨rfl, hB⟩)
              | (go_at_call_of 84 (Value.int IntKind.i64 v5); refine (n5 _).mono ?_; rintro e w1 ⟨rfl, hB⟩))
          go_wp2_with fail
          go_ret2
          rename_i hHeld
          refine ⟨?_, hHeld.2.2.2.2.2.2.2.2⟩
          rw [HBAD.out, show ∀ l, soaDone l false = (ofL l, true) from fun _ => rfl, ← HFULL.out]
          rfl
end Go.Proofs.YtnllofjjffflkaaGreatDoor
