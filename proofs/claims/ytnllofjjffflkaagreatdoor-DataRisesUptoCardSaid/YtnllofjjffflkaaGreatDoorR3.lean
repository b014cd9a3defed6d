/- Walks of the document's own OfKey and OfDs; for texts of at most 2^30 bytes. -/
import Derived.Test.YtnllofjjffflkaaGreatDoorR2
import Derived.Deep.DeepCutAuto
set_option linter.unusedSimpArgs false
set_option linter.unusedVariables false
namespace Go.Proofs.YtnllofjjffflkaaGreatDoor
open Go.RowKit Gp
theorem add_run (a b : ByteArray) (h : a.size + b.size ≤ 4398046511104) (w : World) : (Op.stringOp .add a b).run Tryz.prog w = .ok (.string (a ++ b)) w :=
  run_string_add_sum w a b (by omega)
def ofL (l : List UInt8) : ByteArray := ⟨l.toArray⟩
theorem ofL_append (a b : List UInt8) : ofL a ++ ofL b = ofL (a ++ b) := by
  apply ByteArray.ext; apply Array.ext'; simp [ofL]
theorem ofL_data (s : ByteArray) : ofL s.data.toList = s := rfl
theorem ofL_size (l : List UInt8) : (ofL l).size = l.length := by
  show l.toArray.size = _
  simp
/-- n bytes of a number, as a text. -/
def numS (v : Int) (n : Nat) : ByteArray := ⟨(be v n).toArray⟩
theorem numS_ofL (v : Int) (n : Nat) : numS v n = ofL (be v n) := rfl
theorem numS_size (v : Int) (n : Nat) : (numS v n).size = n := by
  show (be v n).toArray.size = n
  rw [List.size_toArray, be_length]
theorem refNum_s (v : Int) (n : Nat) (w : World) (hn : n ≤ 4) : Calls Tryz.prog 84 #[.int .i64 v, .int .i64 (n : Int)] w fun e w' => e = .returned (.string (numS v n)) ∧ Below w.heap.size w w' := refNum_any v n w hn
/-- What the document's own 'OfKey' and its like hand back. -/
def refDone (l : List UInt8) (bad : Bool) : ByteArray × Bool := (shortS (ofL l) (!bad), shortB (ofL l) (!bad))
set_option maxRecDepth 100000 in
set_option maxHeartbeats 8000000 in
theorem refOfKey_any (x : Key) (w : World) (hz0 : x.pub.size ≤ 1073741824) :
    Calls Tryz.prog 33 #[keyV x] w fun e w' => e = .returned (.tuple #[.string (refDone (keyL x) (keyBad x)).1, .bool (refDone (keyL x) (keyBad x)).2]) ∧ Below w.heap.size w w' := by
  obtain ⟨flags, protocol, alg, pub⟩ := x
  dsimp only at hz0
  have hK := Blk.new w #[.int .i64 flags, .int .i64 protocol, .int .i64 alg, .string pub] 42
  have hB0 : Below w.heap.size w (w.alloc (.cells #[.int .i64 flags, .int .i64 protocol, .int .i64 alg, .string pub] 42)) := (Below.refl _ _).alloc (Nat.le_refl _) _
  have f1 := refFits_any flags 2
  have f2 := refFits_any protocol 1
  have f3 := refFits_any alg 1
  go_enter Tryz.func33, Tryz.ntmps33
  go_upto_region 1 with fail
  go_cut [4] (fun s4 wx => s4 = .bool (!keyBad ⟨flags, protocol, alg, pub⟩) ∧ wx = w.alloc (.cells #[.int .i64 flags, .int .i64 protocol, .int .i64 alg, .string pub] 42))
  case first =>
    go_wp2_with (first | (go_at_call_of 83 (Value.int IntKind.i64 flags); refine (f1 _ (by omega)).mono ?_; rintro e w' ⟨rfl, rfl⟩) | (go_at_call_of 83 (Value.int IntKind.i64 protocol); refine (f2 _ (by omega)).mono ?_; rintro e w' ⟨rfl, rfl⟩) | (go_at_call_of 83 (Value.int IntKind.i64 alg); refine (f3 _ (by omega)).mono ?_; rintro e w' ⟨rfl, rfl⟩))
    all_goals
      go_meet
      refine ⟨?_, rfl⟩
      clear f1 f2 f3 hB0 hK
      simp_all [keyBad]
      try (rw [Bool.eq_iff_iff]; simp; omega)
  case rest =>
    obtain ⟨rfl, rfl⟩ := hcut
    obtain ⟨bad, hbad⟩ : ∃ bad, bad = keyBad ⟨flags, protocol, alg, pub⟩ := ⟨_, rfl⟩
    rw [← hbad]
    clear f1 f2 f3
    have HBAD := Lib.hid hbad; clear hbad
    have hc := hK.cells
    have c0 := hc 0
    have c1 := hc 1
    have c2 := hc 2
    have c3 := hc 3
    simp only [List.getElem?_toArray, List.getElem?_cons_zero, List.getElem?_cons_succ] at c0 c1 c2 c3
    clear hc
    have n1 := fun W => refNum_s flags 2 W (by omega)
    have n2 := fun W => refNum_s protocol 1 W (by omega)
    have n3 := fun W => refNum_s alg 1 W (by omega)
    have z1 := numS_size flags 2
    have z2 := numS_size protocol 1
    have z3 := numS_size alg 1
    have a1 := add_run (numS flags 2) (numS protocol 1) (by omega)
    have a2 := add_run ((numS flags 2) ++ (numS protocol 1)) (numS alg 1) (by simp only [ByteArray.size_append]; omega)
    have a3 := add_run ((numS flags 2) ++ (numS protocol 1) ++ (numS alg 1)) pub (by simp only [ByteArray.size_append]; omega)
    have hfull : (numS flags 2) ++ (numS protocol 1) ++ (numS alg 1) ++ pub = ofL (keyL ⟨flags, protocol, alg, pub⟩) := by simp only [keyL, numS_ofL, ← ofL_append, ofL_data]
    clear z1 z2 z3
    have hsz : w.heap.size < (w.alloc (.cells #[.int .i64 flags, .int .i64 protocol, .int .i64 alg, .string pub] 42)).heap.size := by simp
    have hBd := hB0.drew
    have HFULL := Lib.hid hfull; clear hfull
    have HK := Lib.hid hK; clear hK
    go_wp2_with fail
    go_region_held3 (fun w' => w'.cell? ⟨w.heap.size, 0, none⟩ = some (.int .i64 flags) ∧ w'.cell? ⟨w.heap.size, 1, none⟩ = some (.int .i64 protocol) ∧ w'.cell? ⟨w.heap.size, 2, none⟩ = some (.int .i64 alg) ∧ w'.cell? ⟨w.heap.size, 3, none⟩ = some (.string pub) ∧ w.heap.size < w'.heap.size ∧ Below w.heap.size w w')
      (first
        | go_keep
        | (go_split_ands
           refine ⟨?_, ?_, ?_, ?_, Nat.lt_of_lt_of_le (by assumption) hB.size, Below.trans (by assumption) (hB.mono (Nat.le_of_lt (by assumption)))⟩ <;> (rw [hB.cell (by assumption)]; assumption)))
      (first
        | (go_at_call_of 84 (Value.int IntKind.i64 flags); refine (n1 _).mono ?_; rintro e w1 ⟨rfl, hB⟩)
        | (go_at_call_of 84 (Value.int IntKind.i64 protocol); refine (n2 _).mono ?_; rintro e w1 ⟨rfl, hB⟩)
        | (go_at_call_of 84 (Value.int IntKind.i64 alg); refine (n3 _).mono ?_; rintro e w1 ⟨rfl, hB⟩)
        | (go_at_call 86; refine (refShort_any _ _ _).mono ?_; rintro e w' ⟨rfl, rfl⟩))
    go_wp2_with fail
    go_ret2
    rename_i hHeld
    refine ⟨?_, hHeld.2.2.2.2.2⟩
    rw [← HBAD.out]
    unfold refDone
    rw [← HFULL.out]
    rfl
set_option maxRecDepth 100000 in
set_option maxHeartbeats 8000000 in
theorem refOfDs_any (x : Ds) (w : World) (hz0 : x.digest.size ≤ 1073741824) :
    Calls Tryz.prog 35 #[dsV x] w fun e w' => e = .returned (.tuple #[.string (refDone (dsL x) (dsBad x)).1, .bool (refDone (dsL x) (dsBad x)).2]) ∧ Below w.heap.size w w' := by
  obtain ⟨tag, alg, kind, digest⟩ := x
  dsimp only at hz0
  have hK := Blk.new w #[.int .i64 tag, .int .i64 alg, .int .i64 kind, .string digest] 48
  have hB0 : Below w.heap.size w (w.alloc (.cells #[.int .i64 tag, .int .i64 alg, .int .i64 kind, .string digest] 48)) := (Below.refl _ _).alloc (Nat.le_refl _) _
  have f1 := refFits_any tag 2
  have f2 := refFits_any alg 1
  have f3 := refFits_any kind 1
  go_enter Tryz.func35, Tryz.ntmps35
  go_upto_region 1 with fail
  go_cut [4] (fun s4 wx => s4 = .bool (!dsBad ⟨tag, alg, kind, digest⟩) ∧ wx = w.alloc (.cells #[.int .i64 tag, .int .i64 alg, .int .i64 kind, .string digest] 48))
  case first =>
    go_wp2_with (first | (go_at_call_of 83 (Value.int IntKind.i64 tag); refine (f1 _ (by omega)).mono ?_; rintro e w' ⟨rfl, rfl⟩) | (go_at_call_of 83 (Value.int IntKind.i64 alg); refine (f2 _ (by omega)).mono ?_; rintro e w' ⟨rfl, rfl⟩) | (go_at_call_of 83 (Value.int IntKind.i64 kind); refine (f3 _ (by omega)).mono ?_; rintro e w' ⟨rfl, rfl⟩))
    all_goals
      go_meet
      refine ⟨?_, rfl⟩
      clear f1 f2 f3 hB0 hK
      simp_all [dsBad]
      try (rw [Bool.eq_iff_iff]; simp; omega)
  case rest =>
    obtain ⟨rfl, rfl⟩ := hcut
    obtain ⟨bad, hbad⟩ : ∃ bad, bad = dsBad ⟨tag, alg, kind, digest⟩ := ⟨_, rfl⟩
    rw [← hbad]
    clear f1 f2 f3
    have HBAD := Lib.hid hbad; clear hbad
    have hc := hK.cells
    have c0 := hc 0
    have c1 := hc 1
    have c2 := hc 2
    have c3 := hc 3
    simp only [List.getElem?_toArray, List.getElem?_cons_zero, List.getElem?_cons_succ] at c0 c1 c2 c3
    clear hc
    have n1 := fun W => refNum_s tag 2 W (by omega)
    have n2 := fun W => refNum_s alg 1 W (by omega)
    have n3 := fun W => refNum_s kind 1 W (by omega)
    have z1 := numS_size tag 2
    have z2 := numS_size alg 1
    have z3 := numS_size kind 1
    have a1 := add_run (numS tag 2) (numS alg 1) (by omega)
    have a2 := add_run ((numS tag 2) ++ (numS alg 1)) (numS kind 1) (by simp only [ByteArray.size_append]; omega)
    have a3 := add_run ((numS tag 2) ++ (numS alg 1) ++ (numS kind 1)) digest (by simp only [ByteArray.size_append]; omega)
    have hfull : (numS tag 2) ++ (numS alg 1) ++ (numS kind 1) ++ digest = ofL (dsL ⟨tag, alg, kind, digest⟩) := by simp only [dsL, numS_ofL, ← ofL_append, ofL_data]
    clear z1 z2 z3
    have hsz : w.heap.size < (w.alloc (.cells #[.int .i64 tag, .int .i64 alg, .int .i64 kind, .string digest] 48)).heap.size := by simp
    have hBd := hB0.drew
    have HFULL := Lib.hid hfull; clear hfull
    have HK := Lib.hid hK; clear hK
    go_wp2_with fail
    go_region_held3 (fun w' => w'.cell? ⟨w.heap.size, 0, none⟩ = some (.int .i64 tag) ∧ w'.cell? ⟨w.heap.size, 1, none⟩ = some (.int .i64 alg) ∧ w'.cell? ⟨w.heap.size, 2, none⟩ = some (.int .i64 kind) ∧ w'.cell? ⟨w.heap.size, 3, none⟩ = some (.string digest) ∧ w.heap.size < w'.heap.size ∧ Below w.heap.size w w')
      (first
        | go_keep
        | (go_split_ands
           refine ⟨?_, ?_, ?_, ?_, Nat.lt_of_lt_of_le (by assumption) hB.size, Below.trans (by assumption) (hB.mono (Nat.le_of_lt (by assumption)))⟩ <;> (rw [hB.cell (by assumption)]; assumption)))
      (first
        | (go_at_call_of 84 (Value.int IntKind.i64 tag); refine (n1 _).mono ?_; rintro e w1 ⟨rfl, hB⟩)
        | (go_at_call_of 84 (Value.int IntKind.i64 alg); refine (n2 _).mono ?_; rintro e w1 ⟨rfl, hB⟩)
        | (go_at_call_of 84 (Value.int IntKind.i64 kind); refine (n3 _).mono ?_; rintro e w1 ⟨rfl, hB⟩)
        | (go_at_call 86; refine (refShort_any _ _ _).mono ?_; rintro e w' ⟨rfl, rfl⟩))
    go_wp2_with fail
    go_ret2
    rename_i hHeld
    refine ⟨?_, hHeld.2.2.2.2.2⟩
    rw [← HBAD.out]
    unfold refDone
    rw [← HFULL.out]
    rfl
end Go.Proofs.YtnllofjjffflkaaGreatDoor
