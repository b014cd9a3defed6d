/- Walks of the document's own reader and takings; for texts of at most 2^30 bytes. -/
import Derived.Test.YtnllofjjffflkaaGreatDoorK6
set_option linter.unusedSimpArgs false
set_option linter.unusedVariables false
namespace Go.Proofs.YtnllofjjffflkaaGreatDoor
open Go.RowKit Gp
/-- A reader in block B: what is left of good data; none: it is bad. -/
def Rdr (B : Nat) (w : World) (st : Option ByteArray) : Prop :=
  ∃ r bad, w.heap[B]? = some (.cells #[.string r, .bool bad] 111 (0, 0)) ∧ r.size ≤ 1073741824 ∧ st = (if bad = true then none else some r)
/-- What a reading comes to: a value, and the reader behind it; the value is as told where the reader is good. -/
def RdP {α : Type} (enc : α → Value) (ok : α → Prop) (B : Nat) (w : World) (st : Option ByteArray) (f : ByteArray → Option (α × ByteArray)) (e : Ending) (w' : World) : Prop :=
  ∃ a, e = .returned (enc a) ∧ ok a ∧ Rdr B w' ((st.bind f).map (·.2)) ∧ (∀ x, st.bind f = some x → a = x.1) ∧ w.grownBy w' (some B)
theorem heap2_set {W : World} {B : Nat} {x y z : Value} {T : TypeId} (h : W.heap[B]? = some (.cells #[x, y] T (0, 0))) : (W.setCell ⟨B, 0, none⟩ z).heap[B]? = some (.cells #[z, y] T (0, 0)) ∧ (W.setCell ⟨B, 1, none⟩ z).heap[B]? = some (.cells #[x, z] T (0, 0)) := cells2_set W B x y z T h
def tkS (r : ByteArray) (n : Nat) : ByteArray := if n ≤ r.size then r.extract 0 n else ⟨#[]⟩
def tkR (r : ByteArray) (n : Nat) : ByteArray := if n ≤ r.size then r.extract n r.size else ⟨#[]⟩
theorem tkS_size (r : ByteArray) (n : Nat) : (tkS r n).size ≤ n ∧ (tkS r n).size ≤ r.size ∧ (n ≤ r.size → (tkS r n).size = n) := by
  unfold tkS; split
  · rw [ByteArray.size_extract]; omega
  · exact ⟨Nat.zero_le _, Nat.zero_le _, fun h => by omega⟩
theorem tkR_size (r : ByteArray) (n : Nat) : (tkR r n).size ≤ r.size := by
  unfold tkR; split
  · rw [ByteArray.size_extract]; omega
  · exact Nat.zero_le _
set_option maxRecDepth 100000 in
theorem rdTake_cells (B n : Nat) (r : ByteArray) (bad : Bool) (w : World) (hb : w.heap[B]? = some (.cells #[.string r, .bool bad] 111 (0, 0))) (hs : r.size ≤ 1073741824) :
    Calls Tryz.prog 78 #[.pointer (some ⟨B, 0, none⟩), .int .i64 (n : Int)] w fun e w' => e = .returned (.string (tkS r n)) ∧
      w'.heap[B]? = some (.cells #[.string (tkR r n), .bool (bad || decide (r.size < n))] 111 (0, 0)) ∧ w.grownBy w' (some B) := by
  have c0 : w.cell? ⟨B, 0, none⟩ = some (.string r) := by simp [World.cell?, hb]
  have c1 : w.cell? ⟨B, 1, none⟩ = some (.bool bad) := by simp [World.cell?, hb]
  have f0 : w.frozen? ⟨B, 0, none⟩ = false := by simp [World.frozen?, hb]
  have f1 : w.frozen? ⟨B, 1, none⟩ = false := by simp [World.frozen?, hb]
  by_cases h : n ≤ r.size
  · have b1 : decide ((r.size : Int) < (n : Int)) = false := by simp; omega
    have b1' : decide (r.size < n) = false := by simp; omega
    have hn : (n : Int) ≤ (r.size : Int) := by omega
    have e1 : tkS r n = r.extract 0 n := if_pos h
    have e2 : tkR r n = r.extract n r.size := if_pos h
    have H1 := Lib.hid (And.intro e1 e2); clear e1 e2
    have HS := Lib.hid (heap2_set (z := .string (r.extract n r.size)) hb).1
    have HG := Lib.hid (grown_set (World.grownBy.refl w (some B)) 0 none (.string (r.extract n r.size))); clear hb
    go_enter Tryz.func78, Tryz.ntmps78
    go_wp2_with fail
    go_ret
    rw [H1.out.1, H1.out.2, b1', Bool.or_false]
    exact ⟨rfl, HS.out, HG.out⟩
  · have b1 : decide ((r.size : Int) < (n : Int)) = true := by simp; omega
    have b1' : decide (r.size < n) = true := by simp; omega
    have e1 : tkS r n = ⟨#[]⟩ := if_neg h
    have e2 : tkR r n = ⟨#[]⟩ := if_neg h
    have H1 := Lib.hid (And.intro e1 e2); clear e1 e2
    have HS := Lib.hid (heap2_set (z := .string ⟨#[]⟩) (heap2_set (z := .bool true) hb).2).1
    have HG := Lib.hid (grown_set (grown_set (World.grownBy.refl w (some B)) 1 none (.bool true)) 0 none (.string ⟨#[]⟩)); clear hb
    go_enter Tryz.func78, Tryz.ntmps78
    go_wp2_with fail
    go_ret
    rw [H1.out.1, H1.out.2, b1', Bool.or_true]
    exact ⟨rfl, HS.out, HG.out⟩
theorem rdTake (B n : Nat) (st : Option ByteArray) (w : World) (h : Rdr B w st) : Calls Tryz.prog 78 #[.pointer (some ⟨B, 0, none⟩), .int .i64 (n : Int)] w (RdP encS (fun a => a.size ≤ n) B w st (takeBytes n)) := by
  obtain ⟨r, bad, hb, hr, rfl⟩ := h
  refine (rdTake_cells B n r bad w hb hr).mono ?_
  rintro e w' ⟨rfl, h1, h2⟩
  have z := tkR_size r n
  refine ⟨tkS r n, rfl, (tkS_size r n).1, ⟨_, _, h1, by omega, ?_⟩, ?_, h2⟩
  · cases bad with
    | true => rfl
    | false =>
      by_cases hn : n ≤ r.size
      · have : ¬ r.size < n := by omega
        simp [takeBytes, hn, this, tkR]
      · have : r.size < n := by omega
        simp [takeBytes, hn, this]
  · intro x hx
    cases bad with
    | true => cases hx
    | false =>
      simp only [Bool.false_eq_true, if_false, Option.bind_some] at hx
      unfold takeBytes at hx
      split at hx
      · rename_i hn
        cases hx; unfold tkS; rw [if_pos hn]
      · cases hx
theorem numB_ext (r : ByteArray) (n : Nat) (h : n ≤ r.size) : ∀ k, k ≤ n → numB (r.extract 0 n) k = numB r k
  | 0, _ => rfl
  | k + 1, hk => by
    simp only [numB]
    rw [numB_ext r n h k (by omega)]
    congr 1
    unfold bN
    rw [ByteArray.data_extract]
    simp [List.getD_eq_getElem?_getD, List.getElem?_take, show k < n by omega]
set_option maxRecDepth 100000 in
set_option maxHeartbeats 1000000 in
theorem rdNum_cells (B n : Nat) (r : ByteArray) (bad : Bool) (w : World) (hb : w.heap[B]? = some (.cells #[.string r, .bool bad] 111 (0, 0))) (hs : r.size ≤ 1073741824) (h4 : n ≤ 4) :
    Calls Tryz.prog 61 #[.pointer (some ⟨B, 0, none⟩), .int .i64 (n : Int)] w fun e w' => e = .returned (.int .i64 (numB (tkS r n) (tkS r n).size : Int)) ∧
      w'.heap[B]? = some (.cells #[.string (tkR r n), .bool (bad || decide (r.size < n))] 111 (0, 0)) ∧ w.grownBy w' (some B) := by
  go_enter Tryz.func61, Tryz.ntmps61
  go_wp2_with fail
  refine (rdTake_cells B n r bad w hb hs).mono ?_
  rintro e w1 ⟨rfl, h1, h2⟩
  have HW := Lib.hid (And.intro h1 h2); clear h1 h2
  have hz := (tkS_size r n).1
  obtain ⟨s, hs'⟩ : ∃ s, s = tkS r n := ⟨_, rfl⟩
  rw [← hs'] at hz ⊢
  have HSS := Lib.hid hs'; clear hs'
  go_wp2_with fail
  go_loop [6, 7] (fun v i => ∃ k : Nat, k ≤ s.size ∧ i = .int .i64 (k : Int) ∧ v = .int .i64 (numB s k : Int)) (fun _ i => s.size - (intOf i).toNat)
  case atStart => exact ⟨0, Nat.zero_le _, rfl, rfl⟩
  case round =>
    obtain ⟨k, hk, rfl, rfl⟩ := hrel
    have hv := numB_small s k (by omega)
    have hb2 := bN_lt s k
    by_cases hlt : k < s.size
    · have hx := run_idx s k hlt
      have e1 : (256 : Int) * (numB s k : Int) + (bN s k : Int) = ((numB s (k + 1) : Nat) : Int) := by simp only [numB]; omega
      go_wp2_with fail
      go_round
      case rel => exact ⟨k + 1, by omega, by go_num, by rw [← e1]⟩
      case measure => simp [intOf]; omega
    · obtain rfl : k = s.size := by omega
      go_wp2_with fail
      go_ret
      rw [← HSS.out]
      exact ⟨rfl, HW.out.1, HW.out.2⟩
theorem rdNum (B n : Nat) (st : Option ByteArray) (w : World) (h : Rdr B w st) (h4 : n ≤ 4) : Calls Tryz.prog 61 #[.pointer (some ⟨B, 0, none⟩), .int .i64 (n : Int)] w (RdP encN (fun a => a < 256 ^ n) B w st (takeNum n)) := by
  obtain ⟨r, bad, hb, hr, rfl⟩ := h
  refine (rdNum_cells B n r bad w hb hr h4).mono ?_
  rintro e w' ⟨rfl, h1, h2⟩
  have z := tkR_size r n
  refine ⟨numB (tkS r n) (tkS r n).size, rfl, ?_, ⟨_, _, h1, by omega, ?_⟩, ?_, h2⟩
  · exact Nat.lt_of_lt_of_le (numB_lt _ _) (Nat.pow_le_pow_right (by omega) (tkS_size r n).1)
  · cases bad with
    | true => rfl
    | false =>
      by_cases hn : n ≤ r.size
      · have : ¬ r.size < n := by omega
        simp [takeNum, hn, this, tkR]
      · have : r.size < n := by omega
        simp [takeNum, hn, this]
  · intro x hx
    cases bad with
    | true => cases hx
    | false =>
      simp only [Bool.false_eq_true, if_false, Option.bind_some] at hx
      unfold takeNum at hx
      split at hx
      · rename_i hn
        cases hx
        rw [(tkS_size r n).2.2 hn]
        unfold tkS; rw [if_pos hn, numB_ext r n hn n (Nat.le_refl _)]
      · cases hx
set_option maxRecDepth 100000 in
theorem rdAll (B : Nat) (st : Option ByteArray) (w : World) (h : Rdr B w st) : Calls Tryz.prog 65 #[.pointer (some ⟨B, 0, none⟩), .int .i64 1] w (RdP encS (fun a => a.size ≤ 1073741824) B w st takeRest) := by
  obtain ⟨r, bad, hb, hr, rfl⟩ := h
  have c0 : w.cell? ⟨B, 0, none⟩ = some (.string r) := by simp [World.cell?, hb]
  have c1 : w.cell? ⟨B, 1, none⟩ = some (.bool bad) := by simp [World.cell?, hb]
  have f0 : w.frozen? ⟨B, 0, none⟩ = false := by simp [World.frozen?, hb]
  have f1 : w.frozen? ⟨B, 1, none⟩ = false := by simp [World.frozen?, hb]
  have hmk : ∀ bb : Bool, bb = (bad || decide (r.size < 1)) → RdP encS (fun a => a.size ≤ 1073741824) B w (if bad = true then none else some r) takeRest (.returned (.string r)) ((w.setCell ⟨B, 1, none⟩ (.bool bb)).setCell ⟨B, 0, none⟩ (.string ⟨#[]⟩)) := by
    rintro bb rfl
    refine ⟨r, rfl, hr, ⟨⟨#[]⟩, _, (heap2_set (heap2_set hb).2).1, by decide, ?_⟩, ?_, grown_set (grown_set (World.grownBy.refl w (some B)) 1 none _) 0 none _⟩
    · cases bad with
      | true => rfl
      | false =>
        by_cases hz : r.size = 0
        · simp [takeRest, hz]
        · have : ¬ r.size < 1 := by omega
          simp [takeRest, hz, this]
    · intro x hx
      cases bad with
      | true => cases hx
      | false =>
        simp only [Bool.false_eq_true, if_false, Option.bind_some] at hx
        unfold takeRest at hx
        split at hx
        · cases hx; rfl
        · cases hx
  have HM := Lib.hid hmk; clear hmk hb
  cases bad with
  | true =>
    go_enter Tryz.func65, Tryz.ntmps65
    go_wp2_with fail
    go_ret
    exact HM.out true rfl
  | false =>
    have hbb : decide ((r.size : Int) < 1) = (false || decide (r.size < 1)) := by rw [Bool.false_or]; exact decide_eq_decide.2 (by omega)
    have HBB := Lib.hid hbb; clear hbb
    go_enter Tryz.func65, Tryz.ntmps65
    go_wp2_with fail
    go_ret
    exact HM.out _ HBB.out
end Go.Proofs.YtnllofjjffflkaaGreatDoor
namespace Gp
/-- Where the document's own reading of labels ends. -/
def rscan (s : ByteArray) : Nat → Nat → Nat
  | 0, i => i
  | k + 1, i => if i < s.size ∧ bN s i ≠ 0 ∧ bN s i ≤ 63 then rscan s k (i + 1 + bN s i) else i
theorem rscan_stop {s : ByteArray} {k i : Nat} (h : ¬ (i < s.size ∧ bN s i ≠ 0 ∧ bN s i ≤ 63)) : rscan s k i = i := by cases k <;> simp [rscan, h]
theorem rscan_go {s : ByteArray} {k i : Nat} (h : i < s.size ∧ bN s i ≠ 0 ∧ bN s i ≤ 63) : rscan s (k + 1) i = rscan s k (i + 1 + bN s i) := by simp [rscan, h]
theorem rscan_more {s : ByteArray} : ∀ (k i j : Nat), s.size ≤ i + k → rscan s (k + j) i = rscan s k i
  | 0, i, j, h => by
    have : ¬ (i < s.size ∧ bN s i ≠ 0 ∧ bN s i ≤ 63) := fun ⟨h', _⟩ => by omega
    rw [rscan_stop this, rscan_stop this]
  | k + 1, i, j, h => by
    by_cases o : i < s.size ∧ bN s i ≠ 0 ∧ bN s i ≤ 63
    · rw [show k + 1 + j = (k + j) + 1 from by omega, rscan_go o, rscan_go o, rscan_more k _ j (by omega)]
    · rw [rscan_stop o, rscan_stop o]
theorem rscan_size {s : ByteArray} {k i : Nat} (h : s.size ≤ i + k) : rscan s k i = rscan s (s.size - i) i := by
  have := rscan_more (s := s) (s.size - i) i (k - (s.size - i)) (by omega)
  rw [← this]; congr 1; omega
theorem rscan_ge (s : ByteArray) : ∀ (k i : Nat), i ≤ rscan s k i
  | 0, i => Nat.le_refl _
  | k + 1, i => by
    by_cases o : i < s.size ∧ bN s i ≠ 0 ∧ bN s i ≤ 63
    · rw [rscan_go o]; have := rscan_ge s k (i + 1 + bN s i); omega
    · rw [rscan_stop o]; omega
/-- At its end stands the end of the text, a 0, or a byte above 63. -/
theorem rscan_end (s : ByteArray) : ∀ (k i : Nat), s.size ≤ i + k → ¬ (rscan s k i < s.size ∧ bN s (rscan s k i) ≠ 0 ∧ bN s (rscan s k i) ≤ 63)
  | 0, i, h => fun ⟨h', _⟩ => by simp only [rscan] at h'; omega
  | k + 1, i, h => by
    by_cases o : i < s.size ∧ bN s i ≠ 0 ∧ bN s i ≤ 63
    · rw [rscan_go o]; exact rscan_end s k _ (by omega)
    · rw [rscan_stop o]; exact o
/-- The other scan passes there. -/
theorem scan_rscan (s : ByteArray) : ∀ (k i : Nat), s.size ≤ i + k → scan s k i = scan s (s.size - rscan s k i) (rscan s k i)
  | 0, i, h => by
    simp only [rscan]
    rw [show s.size - i = 0 by omega]
  | k + 1, i, h => by
    by_cases o : i < s.size ∧ bN s i ≠ 0 ∧ bN s i ≤ 63
    · rw [rscan_go o, scan_go ⟨o.1, by omega⟩]; exact scan_rscan s k _ (by omega)
    · rw [rscan_stop o]
      exact scan_size (by omega)
def rEnd (s : ByteArray) : Nat := rscan s s.size 0
theorem bN_ext (r : ByteArray) {n j : Nat} (hn : n ≤ r.size) (h : j < n) : bN (r.extract 0 n) j = bN r j := by
  unfold bN
  rw [ByteArray.data_extract]
  simp [List.getD_eq_getElem?_getD, List.getElem?_take, h]
theorem endOf_rscan (r : ByteArray) (n : Nat) (hn : n ≤ r.size) : ∀ (k i : Nat), r.size ≤ i + k → rscan r k i < n → 63 < bN r (rscan r k i) → endOf (r.extract 0 n) k i = rscan r k i
  | 0, i, h, h1, h2 => rfl
  | k + 1, i, h, h1, h2 => by
    have hsz : (r.extract 0 n).size = n := by rw [ByteArray.size_extract]; omega
    by_cases o : i < r.size ∧ bN r i ≠ 0 ∧ bN r i ≤ 63
    · rw [rscan_go o] at h1 h2 ⊢
      have hge := rscan_ge r k (i + 1 + bN r i)
      have e := bN_ext r hn (show i < n by omega)
      have ok : okAt (r.extract 0 n) i := ⟨by omega, by rw [e]; exact o.2.1, by rw [e]; exact o.2.2, by rw [e, hsz]; omega⟩
      rw [endOf_ok ok, e]
      exact endOf_rscan r n hn k _ (by omega) h1 h2
    · rw [rscan_stop o] at h1 h2 ⊢
      have e := bN_ext r hn h1
      have ok : ¬ okAt (r.extract 0 n) i := fun hk => by have := hk.2.2.1; rw [e] at this; omega
      exact endOf_stop ok
/-- The document's own reading of a name takes the same. -/
theorem takeName_ref (r : ByteArray) : takeName r = if rEnd r + 1 ≤ r.size ∧ rightB (r.extract 0 (rEnd r + 1)) = true then some (r.extract 0 (rEnd r + 1), r.extract (rEnd r + 1) r.size) else none := by
  have hend := rscan_end r r.size 0 (by omega)
  have hs := scan_rscan r r.size 0 (by omega)
  have hN : nameEnd r = scan r (r.size - rEnd r) (rEnd r) := hs
  change ¬ (rEnd r < r.size ∧ bN r (rEnd r) ≠ 0 ∧ bN r (rEnd r) ≤ 63) at hend
  by_cases h1 : rEnd r < r.size
  · by_cases h0 : bN r (rEnd r) = 0
    · have : nameEnd r = rEnd r := by rw [hN, scan_stop (by omega)]
      unfold takeName; rw [this]
    · have h63 : 63 < bN r (rEnd r) := by omega
      have hgt : rEnd r < nameEnd r := by
        rw [hN, show r.size - rEnd r = (r.size - rEnd r - 1) + 1 by omega, scan_go ⟨h1, by omega⟩]
        have := scan_ge r (r.size - rEnd r - 1) (rEnd r + 1 + bN r (rEnd r))
        omega
      have e1 : rightB (r.extract 0 (rEnd r + 1)) = false := by
        have hsz : (r.extract 0 (rEnd r + 1)).size = rEnd r + 1 := by rw [ByteArray.size_extract]; omega
        have hb := bN_ext r (n := rEnd r + 1) (j := rEnd r) (by omega) (by omega)
        unfold rightB
        rw [hsz, Nat.add_sub_cancel, hb]
        simp [h0]
      have e2 : nameEnd r + 1 ≤ r.size → rightB (r.extract 0 (nameEnd r + 1)) = false := by
        intro hle
        have hsz : (r.extract 0 (nameEnd r + 1)).size = nameEnd r + 1 := by rw [ByteArray.size_extract]; omega
        have he := endOf_rscan r (nameEnd r + 1) hle r.size 0 (by omega) (by change rEnd r < _; omega) h63
        have he2 : endOf (r.extract 0 (nameEnd r + 1)) (nameEnd r + 1) 0 = rEnd r := by
          have h3 := endOf_size (s := r.extract 0 (nameEnd r + 1)) (k := r.size) (i := 0) (by rw [hsz]; omega)
          rw [hsz, Nat.sub_zero] at h3
          rw [← h3]; exact he
        unfold rightB
        rw [hsz, he2, Nat.add_sub_cancel]
        have : ¬ rEnd r = nameEnd r := by omega
        simp [this]
      have n1 : ¬ (rEnd r + 1 ≤ r.size ∧ rightB (r.extract 0 (rEnd r + 1)) = true) := fun h => by rw [e1] at h; cases h.2
      have n2 : ¬ (nameEnd r + 1 ≤ r.size ∧ rightB (r.extract 0 (nameEnd r + 1)) = true) := fun h => by rw [e2 h.1] at h; cases h.2
      unfold takeName
      rw [if_neg n2, if_neg n1]
  · have : nameEnd r = rEnd r := by rw [hN, scan_stop (by omega)]
    unfold takeName; rw [this]
end Gp
namespace Go.Proofs.YtnllofjjffflkaaGreatDoor
open Go.RowKit Gp
set_option maxRecDepth 100000 in
set_option maxHeartbeats 2000000 in
theorem rdName_cells (B : Nat) (r : ByteArray) (bad : Bool) (w : World) (hb : w.heap[B]? = some (.cells #[.string r, .bool bad] 111 (0, 0))) (hs : r.size ≤ 1073741824) :
    Calls Tryz.prog 60 #[.pointer (some ⟨B, 0, none⟩)] w fun e w' => e = .returned (.string (tkS r (rEnd r + 1))) ∧
      w'.heap[B]? = some (.cells #[.string (tkR r (rEnd r + 1)), .bool ((bad || decide (r.size < rEnd r + 1)) || !rightB (tkS r (rEnd r + 1)))] 111 (0, 0)) ∧ w.grownBy w' (some B) := by
  have c0 : w.cell? ⟨B, 0, none⟩ = some (.string r) := by simp [World.cell?, hb]
  have hBw : B < w.heap.size := (Array.getElem?_eq_some_iff.1 hb).1
  have HBB := Lib.hid hb; clear hb
  go_enter Tryz.func60, Tryz.ntmps60
  go_wp2_with fail
  go_loop [3] (fun v => ∃ i : Nat, i ≤ r.size + 256 ∧ v = .int .i64 (i : Int) ∧ rEnd r = rscan r (r.size - i) i) (fun v => r.size - (intOf v).toNat)
  case atStart => exact ⟨0, Nat.zero_le _, rfl, rfl⟩
  case round =>
    obtain ⟨i, hi, rfl, hsc⟩ := hrel
    have HS := Lib.hid hsc; clear hsc
    have htail : rEnd r = i → ∀ e : Nat, e = i → True := fun _ _ _ => trivial
    clear htail
    by_cases hgo : i < r.size ∧ bN r i ≠ 0 ∧ bN r i ≤ 63
    · obtain ⟨hlt, h0, h63⟩ := hgo
      have hx := run_idx r i hlt
      have b1 : ((bN r i : Int) != 0) = true := by rw [bne_iff_ne]; omega
      have b2 : (bN r i : Int) ≤ 63 := by omega
      go_wp2_with fail
      go_round
      case rel =>
        refine ⟨i + 1 + bN r i, by omega, by go_num, ?_⟩
        rw [HS.out, show r.size - i = (r.size - i - 1) + 1 from by omega, rscan_go ⟨hlt, h0, h63⟩, rscan_size (by omega)]
      case measure => simp [intOf]; omega
    · have hE : rEnd r = i := by rw [HS.out, rscan_stop hgo]
      have c := rdTake_cells B (i + 1) r bad w HBB.out hs
      rw [show (((i + 1 : Nat)) : Int) = (i : Int) + 1 by omega] at c
      have C := Lib.hid c; clear c
      have HE := Lib.hid hE; clear hE HS
      have hfin : ∀ (w1 : World), (w1.heap[B]? = some (.cells #[.string (tkR r (i + 1)), .bool (bad || decide (r.size < i + 1))] 111 (0, 0)) ∧ w.grownBy w1 (some B)) → ∀ w2, Below w1.heap.size w1 w2 →
          ∀ bb : Bool, bb = ((bad || decide (r.size < i + 1)) || !rightB (tkS r (i + 1))) →
          (w2.setCell ⟨B, 1, none⟩ (.bool bb)).heap[B]? = some (.cells #[.string (tkR r (rEnd r + 1)), .bool ((bad || decide (r.size < rEnd r + 1)) || !rightB (tkS r (rEnd r + 1)))] 111 (0, 0)) ∧ w.grownBy (w2.setCell ⟨B, 1, none⟩ (.bool bb)) (some B) := by
        rintro w1 ⟨h1, h2⟩ w2 hbl bb rfl
        rw [HE.out]
        have h3 := (hbl.block B (Array.getElem?_eq_some_iff.1 h1).1).trans h1
        exact ⟨(heap2_set h3).2, grown_set (grown_then h2 hbl) 1 none _⟩
      have HFIN := Lib.hid hfin; clear hfin
      by_cases hlt : i < r.size
      · have hx := run_idx r i hlt
        by_cases h0 : bN r i = 0
        · have b1 : ((bN r i : Int) != 0) = false := by rw [h0]; rfl
          clear hgo h0
          go_wp2_with fail
          refine C.out.mono ?_
          rintro e w1 ⟨rfl, h1, h2⟩
          have h1' := h1
          have HW := Lib.hid (And.intro h1 h2); clear h1 h2 C
          go_wp2_with fail
          refine (refRight_any _ _).mono ?_
          rintro e w2 ⟨rfl, hbl⟩
          have h3 := (hbl.block B (Array.getElem?_eq_some_iff.1 h1').1).trans h1'
          clear h1'
          obtain ⟨cur, hcur⟩ : ∃ cur, cur = (bad || decide (r.size < i + 1)) := ⟨_, rfl⟩
          rw [← hcur] at h3
          have c1 : w2.cell? ⟨B, 1, none⟩ = some (.bool cur) := by simp [World.cell?, h3]
          have f1 : w2.frozen? ⟨B, 1, none⟩ = false := by simp [World.frozen?, h3]
          have HB2 := Lib.hid (And.intro hbl hcur); clear hbl hcur h3
          cases cur with
          | true =>
            go_wp2_with fail
            go_ret
            rw [HE.out]
            have h := HFIN.out w1 HW.out w2 HB2.out.1 true (by rw [← HB2.out.2]; rfl)
            rw [HE.out] at h
            exact ⟨rfl, h⟩
          | false =>
            go_wp2_with fail
            go_ret
            rw [HE.out]
            have h := HFIN.out w1 HW.out w2 HB2.out.1 (!rightB (tkS r (i + 1))) (by rw [← HB2.out.2]; rfl)
            rw [HE.out] at h
            exact ⟨rfl, h⟩
        · have b1 : ((bN r i : Int) != 0) = true := by rw [bne_iff_ne]; omega
          have b2 : (63 : Int) < (bN r i : Int) := by omega
          clear hgo h0
          go_wp2_with fail
          refine C.out.mono ?_
          rintro e w1 ⟨rfl, h1, h2⟩
          have h1' := h1
          have HW := Lib.hid (And.intro h1 h2); clear h1 h2 C
          go_wp2_with fail
          refine (refRight_any _ _).mono ?_
          rintro e w2 ⟨rfl, hbl⟩
          have h3 := (hbl.block B (Array.getElem?_eq_some_iff.1 h1').1).trans h1'
          clear h1'
          obtain ⟨cur, hcur⟩ : ∃ cur, cur = (bad || decide (r.size < i + 1)) := ⟨_, rfl⟩
          rw [← hcur] at h3
          have c1 : w2.cell? ⟨B, 1, none⟩ = some (.bool cur) := by simp [World.cell?, h3]
          have f1 : w2.frozen? ⟨B, 1, none⟩ = false := by simp [World.frozen?, h3]
          have HB2 := Lib.hid (And.intro hbl hcur); clear hbl hcur h3
          cases cur with
          | true =>
            go_wp2_with fail
            go_ret
            rw [HE.out]
            have h := HFIN.out w1 HW.out w2 HB2.out.1 true (by rw [← HB2.out.2]; rfl)
            rw [HE.out] at h
            exact ⟨rfl, h⟩
          | false =>
            go_wp2_with fail
            go_ret
            rw [HE.out]
            have h := HFIN.out w1 HW.out w2 HB2.out.1 (!rightB (tkS r (i + 1))) (by rw [← HB2.out.2]; rfl)
            rw [HE.out] at h
            exact ⟨rfl, h⟩
      · have hge : r.size ≤ i := by omega
        clear hgo hlt
        go_wp2_with fail
        refine C.out.mono ?_
        rintro e w1 ⟨rfl, h1, h2⟩
        have h1' := h1
        have HW := Lib.hid (And.intro h1 h2); clear h1 h2 C
        go_wp2_with fail
        refine (refRight_any _ _).mono ?_
        rintro e w2 ⟨rfl, hbl⟩
        have h3 := (hbl.block B (Array.getElem?_eq_some_iff.1 h1').1).trans h1'
        clear h1'
        obtain ⟨cur, hcur⟩ : ∃ cur, cur = (bad || decide (r.size < i + 1)) := ⟨_, rfl⟩
        rw [← hcur] at h3
        have c1 : w2.cell? ⟨B, 1, none⟩ = some (.bool cur) := by simp [World.cell?, h3]
        have f1 : w2.frozen? ⟨B, 1, none⟩ = false := by simp [World.frozen?, h3]
        have HB2 := Lib.hid (And.intro hbl hcur); clear hbl hcur h3
        cases cur with
        | true =>
          go_wp2_with fail
          go_ret
          rw [HE.out]
          have h := HFIN.out w1 HW.out w2 HB2.out.1 true (by rw [← HB2.out.2]; rfl)
          rw [HE.out] at h
          exact ⟨rfl, h⟩
        | false =>
          go_wp2_with fail
          go_ret
          rw [HE.out]
          have h := HFIN.out w1 HW.out w2 HB2.out.1 (!rightB (tkS r (i + 1))) (by rw [← HB2.out.2]; rfl)
          rw [HE.out] at h
          exact ⟨rfl, h⟩
theorem rdName (B : Nat) (st : Option ByteArray) (w : World) (h : Rdr B w st) : Calls Tryz.prog 60 #[.pointer (some ⟨B, 0, none⟩)] w (RdP encS (fun a => a.size ≤ 1073741824) B w st takeName) := by
  obtain ⟨r, bad, hb, hr, rfl⟩ := h
  refine (rdName_cells B r bad w hb hr).mono ?_
  rintro e w' ⟨rfl, h1, h2⟩
  have z := tkR_size r (rEnd r + 1)
  have z2 := tkS_size r (rEnd r + 1)
  have hT := takeName_ref r
  refine ⟨tkS r (rEnd r + 1), rfl, by omega, ⟨_, _, h1, by omega, ?_⟩, ?_, h2⟩
  · cases bad with
    | true => rfl
    | false =>
      by_cases hn : rEnd r + 1 ≤ r.size
      · have h3 : ¬ r.size < rEnd r + 1 := by omega
        have e1 : tkS r (rEnd r + 1) = r.extract 0 (rEnd r + 1) := if_pos hn
        have e2 : tkR r (rEnd r + 1) = r.extract (rEnd r + 1) r.size := if_pos hn
        rw [e1, e2]
        cases hR : rightB (r.extract 0 (rEnd r + 1)) with
        | true => simp [hT, hn, h3, hR]
        | false => simp [hT, hn, h3, hR]
      · have h3 : r.size < rEnd r + 1 := by omega
        simp [hT, hn, h3]
  · intro x hx
    cases bad with
    | true => cases hx
    | false =>
      simp only [Bool.false_eq_true, if_false, Option.bind_some, hT] at hx
      split at hx
      · rename_i hn
        cases hx; unfold tkS; rw [if_pos hn.1]
      · cases hx
end Go.Proofs.YtnllofjjffflkaaGreatDoor
namespace Go.Proofs.YtnllofjjffflkaaGreatDoor
open Go.RowKit Gp
def allTypes (s : ByteArray) : Option (List Nat) := takeTypes s.size (-1) s
/-- What the reading of types comes to. -/
def RdTys (B : Nat) (w : World) (st : Option ByteArray) (e : Ending) (w' : World) : Prop :=
  ∃ (l : List Nat) (v : Value), e = .returned v ∧ w'.ownsRow w.heap.size 3 1 v l.length (ints (intsOf l)) ∧ Rdr B w' ((st.bind allTypes).map (fun _ => ⟨#[]⟩)) ∧ (∀ x, st.bind allTypes = some x → l = x) ∧ w.grownBy w' (some B)
theorem Rdr.good {B : Nat} {w : World} {r : ByteArray} (h : Rdr B w (some r)) : w.heap[B]? = some (.cells #[.string r, .bool false] 111 (0, 0)) ∧ r.size ≤ 1073741824 := by
  obtain ⟨r', bad, hb, hr, he⟩ := h
  cases bad with
  | true => simp at he
  | false =>
    simp only [Bool.false_eq_true, if_false, Option.some.injEq] at he
    subst he; exact ⟨hb, hr⟩
theorem Rdr.isBad {B : Nat} {w : World} (h : Rdr B w none) : ∃ r, w.heap[B]? = some (.cells #[.string r, .bool true] 111 (0, 0)) ∧ r.size ≤ 1073741824 := by
  obtain ⟨r', bad, hb, hr, he⟩ := h
  cases bad with
  | true => exact ⟨r', hb, hr⟩
  | false => simp at he
theorem rdTys_fail {B : Nat} {w w1 : World} {r0 r : ByteArray} {bad : Bool} (hP : allTypes r0 = none) (hb : w1.heap[B]? = some (.cells #[.string r, .bool bad] 111 (0, 0))) (hr : r.size ≤ 1073741824) (hg : w.grownBy w1 (some B)) :
    RdTys B w (some r0) (.returned (.slice none 0 0)) (w1.setCell ⟨B, 1, none⟩ (.bool true)) := by
  refine ⟨[], _, rfl, World.ownsRow_nil _ _ _ _, ⟨r, true, (heap2_set hb).2, hr, by simp [hP]⟩, ?_, grown_set hg 1 none _⟩
  intro x hx
  rw [Option.bind_some, hP] at hx; cases hx
theorem bit_test2 (b : ByteArray) (i k : Nat) (hk : k < 8) : (((bN b i : Int) / 2 ^ (7 - k)).tmod 2 == 1) = bitAt b (8 * i + k) := by
  have e : (bN b i : Int) / 2 ^ (7 - k) = ((bN b i / 2 ^ (7 - k) : Nat) : Int) := by
    rw [Int.natCast_ediv]; simp
  rw [e, bitAt_in b i k hk, Int.tmod_eq_emod_of_nonneg (Int.natCast_nonneg _), Bool.eq_iff_iff]
  simp only [beq_iff_eq]
  omega
set_option maxRecDepth 100000 in
set_option maxHeartbeats 4000000 in
theorem rdTypes (B : Nat) (st : Option ByteArray) (w : World) (h : Rdr B w st) : Calls Tryz.prog 73 #[.pointer (some ⟨B, 0, none⟩)] w (RdTys B w st) := by
  obtain ⟨r0, bad, hb, hr0, rfl⟩ := h
  obtain ⟨i0, hi0, hz0, hz1, hz2⟩ := info_parts info3
  have hBw : B < w.heap.size := (Array.getElem?_eq_some_iff.1 hb).1
  cases bad with
  | true =>
    have hq : RdTys B w none (.returned (.slice none 0 0)) w := ⟨[], _, rfl, World.ownsRow_nil _ _ _ _, ⟨r0, true, hb, hr0, rfl⟩, (by intro x hx; cases hx), World.grownBy.refl _ _⟩
    have c0 : w.cell? ⟨B, 0, none⟩ = some (.string r0) := by simp [World.cell?, hb]
    have c1 : w.cell? ⟨B, 1, none⟩ = some (.bool true) := by simp [World.cell?, hb]
    have HQ := Lib.hid hq; clear hq hb
    go_enter Tryz.func73, Tryz.ntmps73
    go_wp2_with fail
    go_loop [3, 4] (fun l v => l = .slice none 0 0 ∧ v = .int .i64 (-1)) (fun _ _ => 0)
    case atStart => exact ⟨rfl, rfl⟩
    case round =>
      obtain ⟨rfl, rfl⟩ := hrel
      by_cases hr : r0.size = 0
      · have he := empty_of r0 hr
        clear hr
        go_wp2_with fail
        go_ret
        exact HQ.out
      · have he := empty_not r0 hr
        clear hr
        go_wp2_with fail
        go_ret
        exact HQ.out
  | false =>
    obtain ⟨P, hP⟩ : ∃ P, P = allTypes r0 := ⟨_, rfl⟩
    have hpost0 : ∀ e w', (∃ (l : List Nat) (v : Value), e = .returned v ∧ w'.ownsRow w.heap.size 3 1 v l.length (ints (intsOf l)) ∧ Rdr B w' (P.map (fun _ => ⟨#[]⟩)) ∧ (∀ x, P = some x → l = x) ∧ w.grownBy w' (some B)) → RdTys B w (some r0) e w' := by
      rintro e w' h; unfold RdTys; rw [Option.bind_some, ← hP]; exact h
    have HPOST := Lib.hid hpost0; clear hpost0
    have HP := Lib.hid hP; clear hP
    go_enter Tryz.func73, Tryz.ntmps73
    go_wp2_with fail
    go_loopw [3, 4] (fun lv la wr => ∃ (l : List Nat) (r : ByteArray) (last : Int), la = .int .i64 last ∧ (-1 ≤ last ∧ last < 256) ∧ P = (takeTypes r.size last r).map (l ++ ·) ∧ l.length + 8 * r.size ≤ 8 * r0.size ∧ r.size ≤ r0.size ∧ wr.heap[B]? = some (.cells #[.string r, .bool false] 111 (0, 0)) ∧ wr.ownsRow w.heap.size 3 1 lv l.length (ints (intsOf l)) ∧ w.grownBy wr (some B)) (fun _ _ wr => match wr.cell? ⟨B, 0, none⟩ with | some (.string r) => r.size | _ => 0)
    case atStart => exact ⟨[], r0, -1, rfl, by omega, by rw [HP.out]; simp [allTypes], by simp, Nat.le_refl _, hb, ⟨rfl, .inl ⟨rfl, rfl⟩⟩, World.grownBy.refl _ _⟩
    case round =>
      obtain ⟨l, r, last, rfl, hla, ht, hlr, hrs, hbr, hown, hg⟩ := hrel
      obtain ⟨wo, hwo⟩ : ∃ wo : World, wo = wr := ⟨_, rfl⟩
      subst hwo
      clear hb
      have c0 : wo.cell? ⟨B, 0, none⟩ = some (.string r) := by simp [World.cell?, hbr]
      have c1 : wo.cell? ⟨B, 1, none⟩ = some (.bool false) := by simp [World.cell?, hbr]
      have HT := Lib.hid ht; clear ht
      have hszr := hg.size
      by_cases hr : r.size = 0
      · have he := empty_of r hr
        have HG := Lib.hid (And.intro hbr (And.intro hown hg)); clear hbr hown hg
        go_wp2_with fail
        go_ret
        refine HPOST.out _ _ ⟨l, _, rfl, HG.out.2.1, ?_, ?_, HG.out.2.2⟩
        · refine ⟨r, false, HG.out.1, by omega, ?_⟩
          rw [HT.out, takeTypes_done _ hr, empty_eq hr]; rfl
        · intro x hx
          rw [HT.out, takeTypes_done _ hr] at hx
          simpa using hx
      · have he := empty_not r hr
        have hst := takeTypes_step last hr
        unfold takeWin at hst
        have hR : Rdr B wo (some r) := ⟨r, false, hbr, by omega, rfl⟩
        have hn1 : ∃ wd r1, takeNum 1 r = some (wd, r1) := by
          unfold takeNum
          rw [if_pos (by omega)]; exact ⟨_, _, rfl⟩
        obtain ⟨wd, r1, hn1⟩ := hn1
        have z1 := takeNum_size hn1
        have hw8 := takeNum_lt hn1
        rw [hn1] at hst
        simp only at hst
        have C1 := Lib.hid (rdNum B 1 _ wo hR (by decide))
        have hne := own_ne hown hbr (by decide)
        have HG := Lib.hid (And.intro hg hown); clear hg hown hR
        go_wp2_with fail
        refine C1.out.mono ?_
        rintro e w1 ⟨a1, rfl, _, hR1, ha1, hg1⟩
        obtain rfl : a1 = wd := ha1 _ (by rw [Option.bind_some, hn1])
        rw [Option.bind_some, hn1] at hR1
        have hR1 : Rdr B w1 (some r1) := hR1
        have ho1 := own_grown HG.out.2 hg1 hne
        have HG1 := Lib.hid (And.intro (HG.out.1.trans hg1) ho1); clear hg1 ho1 ha1
        have C2 := Lib.hid (rdNum B 1 _ w1 hR1 (by decide)); clear hR1 C1
        go_wp2_with fail
        refine C2.out.mono ?_
        rintro e w2 ⟨a2, rfl, ha2, hR2, hv2, hg2⟩
        have ho2 := own_grown HG1.out.2 hg2 hne
        have HG2 := Lib.hid (And.intro (HG1.out.1.trans hg2) ho2); clear hg2 ho2 C2
        have C3 := Lib.hid (rdTake B a2 _ w2 hR2); clear hR2
        go_wp2_with fail
        refine C3.out.mono ?_
        rintro e w3 ⟨b, rfl, hbs, hR3, hv3, hg3⟩
        have ho3 := own_grown HG2.out.2 hg3 hne
        have hg3' := HG2.out.1.trans hg3
        have HG3 := Lib.hid (And.intro hg3' ho3); clear hg3 hg3' ho3 C3 HG HG1 HG2
        obtain ⟨r3, bad3, hb3, hr3, he3⟩ := hR3
        have ha2' : a2 < 256 := by simpa using ha2
        have c3 : w3.cell? ⟨B, 1, none⟩ = some (.bool bad3) := by simp [World.cell?, hb3]
        have f3 : w3.frozen? ⟨B, 1, none⟩ = false := by simp [World.frozen?, hb3]
        have hfail : takeTypes r.size last r = none → RdTys B w (some r0) (.returned (.slice none 0 0)) (w3.setCell ⟨B, 1, none⟩ (.bool true)) := by
          intro h
          refine rdTys_fail ?_ hb3 hr3 HG3.out.1
          rw [← HP.out, HT.out, h]; rfl
        have HFAIL := Lib.hid hfail; clear hfail
        cases bad3 with
        | true =>
          have hq : takeTypes r.size last r = none := by
            rw [hst]
            cases hn2 : takeNum 1 r1 with
            | none => rfl
            | some y =>
              obtain ⟨n, r2⟩ := y
              simp only [Option.bind_some, hn2] at he3 hv2
              obtain rfl : a2 = n := hv2 _ rfl
              simp only
              cases hn3 : takeBytes a2 r2 with
              | none => rfl
              | some y => simp [hn3] at he3
          have HQ := Lib.hid (HFAIL.out hq); clear hq hst hv2 hv3 he3 HFAIL hb3
          go_wp2_with fail
          all_goals
            go_ret
            exact HQ.out
        | false =>
          simp only [Bool.false_eq_true, if_false] at he3
          have hex : ∃ r2, takeNum 1 r1 = some (a2, r2) ∧ takeBytes a2 r2 = some (b, r3) := by
            cases hn2 : takeNum 1 r1 with
            | none => simp [hn2] at he3
            | some y =>
              obtain ⟨n, r2⟩ := y
              simp only [Option.bind_some, hn2] at he3 hv2 hv3
              obtain rfl : a2 = n := hv2 _ rfl
              cases hn3 : takeBytes a2 r2 with
              | none => simp [hn3] at he3
              | some y =>
                obtain ⟨b', r3'⟩ := y
                simp only [Option.map_some, Option.bind_some, hn3] at he3 hv3
                obtain rfl : b = b' := hv3 _ rfl
                exact ⟨r2, rfl, by rw [hn3, Option.some.inj he3]⟩
          obtain ⟨r2, hn2, hn3⟩ := hex
          have z2 := takeNum_size hn2
          obtain ⟨z3, hbn⟩ := takeBytes_size hn3
          rw [hn2] at hst
          simp only at hst
          rw [hn3] at hst
          simp only at hst
          clear hn2 hn3 hv2 hv3 he3 hn1 ha2
          subst hbn
          by_cases q1 : last < (a1 : Int)
          · have b1 : decide ((a1 : Int) ≤ last) = false := by simp; omega
            by_cases q2 : 0 < b.size
            · have q2' : (1 : Int) ≤ (b.size : Int) := by omega
              by_cases q3 : b.size ≤ 32
              · have q3' : (b.size : Int) ≤ 32 := by omega
                have hx := run_idx_last b q2
                have hbL := bN_lt b (b.size - 1)
                by_cases q4 : bN b (b.size - 1) = 0
                · have b4 : ((bN b (b.size - 1) : Int) == 0) = true := by rw [q4]; rfl
                  have hw : winOk last a1 b.size b = false := by simp [winOk, q4]
                  have HQ := Lib.hid (HFAIL.out (by rw [hst, hw]; rfl)); clear hw hst HFAIL q4 hb3
                  go_wp2_with fail
                  go_ret
                  exact HQ.out
                · have b4 : ((bN b (b.size - 1) : Int) == 0) = false := by rw [beq_eq_false_iff_ne]; omega
                  have hw : winOk last a1 b.size b = true := by simp [winOk, q1, q2, q3, q4]
                  rw [if_pos hw] at hst
                  have HS := Lib.hid hst; clear hw hst HFAIL q4
                  have hm2 : (match wo.cell? ⟨B, 0, none⟩ with | some (.string r) => r.size | _ => 0) = r.size := by rw [c0]
                  have HM2 := Lib.hid hm2; clear hm2
                  have H4 := Lib.hid hb3; clear hb3
                  go_wp2_with fail
                  clear hx b4 he c0 c1 c3 f3
                  go_loopw [8, 3] (fun kv lv wy => ∃ k : Nat, k ≤ 8 * b.size ∧ kv = .int .i64 (k : Int) ∧ wy.ownsRow w.heap.size 3 1 lv (l ++ bitsTo a1 b k).length (ints (intsOf (l ++ bitsTo a1 b k))) ∧ wy.heap[B]? = some (.cells #[.string r3, .bool false] 111 (0, 0)) ∧ w.grownBy wy (some B)) (fun kv _ _ => 8 * b.size - (intOf kv).toNat)
                  case atStart => exact ⟨0, by omega, rfl, by simpa [bitsTo] using HG3.out.2, H4.out, HG3.out.1⟩
                  case round =>
                    obtain ⟨k, hk, rfl, hown, hB, hg⟩ := hrel
                    clear H4 HG3
                    by_cases hk8 : k < 8 * b.size
                    · obtain ⟨nn, hnn⟩ : ∃ nn, nn = k / 8 := ⟨_, rfl⟩
                      obtain ⟨kk, hkk⟩ : ∃ kk, kk = k % 8 := ⟨_, rfl⟩
                      have hm2 : (k : Int) / 8 = (nn : Int) := by omega
                      have hm3 : (k : Int) % 8 = (kk : Int) := by omega
                      have hkk8 : kk < 8 := by omega
                      have hnb : nn < b.size := by omega
                      have hki : (k : Int) < 8 * (b.size : Int) := by omega
                      have hx := run_idx b nn hnb
                      have hbi := bN_lt b nn
                      have e7 : ((7 : Int) - (kk : Int)).toNat = 7 - kk := by omega
                      have e70 : (0 : Int) ≤ (7 : Int) - (kk : Int) := by omega
                      have hk0 : k = 8 * nn + kk := by omega
                      have HK0 := Lib.hid hk0; clear hk0 hnn hkk
                      have hll : (l ++ bitsTo a1 b k).length ≤ 17179869184 := by
                        have := bitsTo_length a1 b k; rw [List.length_append]; omega
                      cases hbit : bitAt b k with
                      | true =>
                        have bt : (((bN b nn : Int) / 2 ^ (7 - kk)).tmod 2 == 1) = true := by rw [bit_test2 b nn kk hkk8, ← HK0.out, hbit]
                        have hL := own_grow_len (l := l) (wd := a1) hbit
                        have HL := Lib.hid hL; clear hL hbit
                        have q1' : (l ++ bitsTo a1 b k).length + 1 ≤ maxLen := by unfold maxLen; omega
                        have q2'' : ((l ++ bitsTo a1 b k).length + 1) * 8 ≤ 140737488355328 := by omega
                        have hsw := hg.size
                        have q3'' : w.heap.size ≤ (wr.alloc (.cells #[.int .i64 (256 * (a1 : Int) + (k : Int))] 3)).heap.size := by simp; omega
                        have HK := Lib.hid (And.intro hB hg); clear hB hg
                        go_wp2_with (at_builtin; refine wpList_append_own _ rfl _ _ 53 rfl (w.heap.size) 3 i0 (.int .i64 0) 1 8 Tryz.underlying53 hi0 hz0 hz1 hz2 rfl (by decide) _ _ _ rfl (hown.alloc _) ⟨wr.heap.size, 0, none⟩ 1 1 [.int .i64 (256 * (a1 : Int) + (k : Int))] rfl rfl (cell_one_new _ _ _) (by simp [Value.oneCell']) q1' q2'' q3'' ?_)
                        intro v' w4 hown' hgrow _
                        obtain ⟨g', cap', rfl⟩ := ownsRow_succ hown'
                        have k2 := grow_keep hown hgrow HK.out.1 (by decide)
                        have k3 := grow_world hown hgrow HK.out.2
                        have HN := Lib.hid (And.intro hown' (And.intro k2 k3)); clear hown' hgrow k2 k3 hown bt
                        clear hm2 hm3 hx
                        go_wp2_with fail
                        go_roundw
                        case rel =>
                          refine ⟨k + 1, by omega, by go_num, ?_, HN.out.2.1, HN.out.2.2⟩
                          have h := HN.out.1
                          have e : ints (intsOf [256 * a1 + k]) = [.int .i64 (256 * (a1 : Int) + (k : Int))] := by simp [ints, intsOf]
                          rw [HL.out, intsOf_append, ints_append, e]
                          simp only [List.length_append, List.length_singleton]
                          simpa using h
                        case measure => simp [intOf]; omega
                      | false =>
                        have bt : (((bN b nn : Int) / 2 ^ (7 - kk)).tmod 2 == 1) = false := by rw [bit_test2 b nn kk hkk8, ← HK0.out, hbit]
                        have hL := bitsTo_no (w := a1) hbit
                        have HL := Lib.hid hL; clear hL hbit
                        have HI := Lib.hid (And.intro hown (And.intro hB hg)); clear hown hB hg
                        go_wp2_with fail
                        go_roundw
                        case rel => exact ⟨k + 1, by omega, by go_num, by rw [HL.out]; exact HI.out.1, HI.out.2.1, HI.out.2.2⟩
                        case measure => simp [intOf]; omega
                    · obtain rfl : k = 8 * b.size := by omega
                      have HI := Lib.hid (And.intro hown (And.intro hB hg)); clear hown hB hg
                      have hm1 : (match wr.cell? ⟨B, 0, none⟩ with | some (.string r) => r.size | _ => 0) = r3.size := by simp [World.cell?, HI.out.2.1]
                      go_wp2_with fail
                      go_roundw
                      case rel => exact ⟨l ++ bitsTo a1 b (8 * b.size), r3, (a1 : Int), rfl, by omega, by rw [HT.out, HS.out]; cases takeTypes r3.size (a1 : Int) r3 <;> simp, by have := bitsTo_length a1 b (8 * b.size); simp; omega, by omega, HI.out.2.1, HI.out.1, HI.out.2.2⟩
                      case measure => rw [hm1, HM2.out]; omega
              · have q3' : (32 : Int) < (b.size : Int) := by omega
                have hw : winOk last a1 b.size b = false := by simp [winOk, q3]
                have HQ := Lib.hid (HFAIL.out (by rw [hst, hw]; rfl)); clear hw hst HFAIL hb3
                go_wp2_with fail
                go_ret
                exact HQ.out
            · have q2' : (b.size : Int) < 1 := by omega
              have hw : winOk last a1 b.size b = false := by simp [winOk, q2]
              have HQ := Lib.hid (HFAIL.out (by rw [hst, hw]; rfl)); clear hw hst HFAIL hb3
              go_wp2_with fail
              go_ret
              exact HQ.out
          · have b1 : decide ((a1 : Int) ≤ last) = true := by simp; omega
            have hw : winOk last a1 b.size b = false := by simp [winOk, q1]
            have HQ := Lib.hid (HFAIL.out (by rw [hst, hw]; rfl)); clear hw hst HFAIL hb3
            go_wp2_with fail
            go_ret
            exact HQ.out
end Go.Proofs.YtnllofjjffflkaaGreatDoor
namespace Go.Proofs.YtnllofjjffflkaaGreatDoor
open Go.RowKit Gp
/-- What the document's own taking comes to, the value as R has it. -/
def RefPostR {α : Type} (R : Nat → α → Value → World → Prop) (zero : Value) (w : World) (r : Option α) (e : Ending) (w' : World) : Prop :=
  match r with
  | some a => (∃ v, e = .returned (.tuple #[v, .bool true]) ∧ R w.heap.size a v w') ∧ Below w.heap.size w w'
  | none => e = .returned (.tuple #[zero, .bool false]) ∧ Below w.heap.size w w'
/-- The result's block of such a taking: its zeros. -/
def RSt (w : World) (T : TypeId) (cs : Array Value) (W : World) : Prop := W.heap[w.heap.size]? = some (.cells cs T (0, 0)) ∧ Below w.heap.size w W
theorem RSt.start (w : World) (T : TypeId) (cs : Array Value) (o : Obj) : RSt w T cs ((w.alloc (.cells cs T)).alloc o) :=
  ⟨(Below.heap_alloc _ _ _ (by simp)).trans (World.alloc_heap_new w _), ((Below.refl _ _).alloc (Nat.le_refl _) _).alloc (by simp) _⟩
section
variable {w W W' : World} {T : TypeId} {cs : Array Value}
theorem RSt.lt (h : RSt w T cs W) : w.heap.size < W.heap.size := (Array.getElem?_eq_some_iff.1 h.1).1
theorem RSt.next (h : RSt w T cs W) (hg : W.grownBy W' (some (w.heap.size + 1))) : RSt w T cs W' :=
  ⟨grown_keep hg h.1 (by omega), h.2.grown hg (Nat.le_of_lt h.lt) (fun k e => by
    have h1 : w.heap.size + 1 = k := by simpa using e
    omega)⟩
theorem RSt.alloc (h : RSt w T cs W) (o : Obj) : RSt w T cs (W.alloc o) := ⟨(Below.heap_alloc _ _ _ h.lt).trans h.1, h.2.alloc (Nat.le_of_lt h.lt) _⟩
theorem RSt.setX (h : RSt w T cs W) {X : Nat} (hX : w.heap.size < X) (i : Nat) (v : Value) : RSt w T cs (W.setCell ⟨X, i, none⟩ v) :=
  ⟨(Below.heap_setCell _ _ _ _ (fun e => by simp at e; omega)).trans h.1, h.2.setCell (p := ⟨X, i, none⟩) (Nat.le_of_lt hX) _⟩
theorem RSt.set (h : RSt w T cs W) (i : Nat) (v : Value) : RSt w T (cs.setIfInBounds i v) (W.setCell ⟨w.heap.size, i, none⟩ v) :=
  ⟨heap_set h.1 i v, h.2.setCell (p := ⟨w.heap.size, i, none⟩) (Nat.le_refl _) _⟩
theorem RSt.cells (h : RSt w T cs W) : ∀ i, W.cell? ⟨w.heap.size, i, none⟩ = cs[i]? := fun i => by simp [World.cell?, h.1]
theorem RSt.frozen (h : RSt w T cs W) : ∀ i, W.frozen? ⟨w.heap.size, i, none⟩ = false := fun i => by simp [World.frozen?, h.1]
end
theorem Rdr.lt {B : Nat} {w : World} {st : Option ByteArray} (h : Rdr B w st) : B < w.heap.size := by
  obtain ⟨r, bad, hb, _⟩ := h
  exact (Array.getElem?_eq_some_iff.1 hb).1
theorem Rdr.alloc {B : Nat} {w : World} {st : Option ByteArray} (h : Rdr B w st) (o : Obj) : Rdr B (w.alloc o) st := by
  have hlt := h.lt
  obtain ⟨r, bad, hb, h2⟩ := h
  exact ⟨r, bad, (Below.heap_alloc _ _ _ hlt).trans hb, h2⟩
theorem Rdr.setX {B : Nat} {w : World} {st : Option ByteArray} (h : Rdr B w st) {X : Nat} (hX : X ≠ B) (i : Nat) (v : Value) : Rdr B (w.setCell ⟨X, i, none⟩ v) st := by
  obtain ⟨r, bad, hb, h2⟩ := h
  exact ⟨r, bad, (Below.heap_setCell _ _ _ _ (fun e => hX e.symm)).trans hb, h2⟩
theorem wholeOf_rest {α : Type} {s r : ByteArray} {a : α} (h : ¬ r.size = 0) : wholeOf s (some (a, r)) = none := by
  unfold wholeOf
  split
  · exact if_neg h
  · rfl
theorem rest_nil {s r b : ByteArray} (h : takeRest s = some (b, r)) : r.size = 0 := by
  unfold takeRest at h
  split at h
  · rw [← (Prod.mk.inj (Option.some.inj h)).2]; rfl
  · cases h
theorem heap_cells {W : World} {A : Nat} {cs : Array Value} {T : TypeId} (h : W.heap[A]? = some (.cells cs T (0, 0))) : (∀ i, W.cell? ⟨A, i, none⟩ = cs[i]?) ∧ (∀ i, W.frozen? ⟨A, i, none⟩ = false) :=
  ⟨fun i => by simp [World.cell?, h], fun i => by simp [World.frozen?, h]⟩
set_option maxRecDepth 100000 in
set_option maxHeartbeats 8000000 in
theorem ref_key (s : ByteArray) (w : World) (hs : s.size ≤ 1073741824) : Calls Tryz.prog 20 #[.string s] w (RefPostR (fun _ a v _ => v = keyV a) (.agg #[.int .i64 0, .int .i64 0, .int .i64 0, .string ⟨#[]⟩]) w (wholeOf s (takeKey s))) := by
  obtain ⟨P, hP⟩ : ∃ P, P = wholeOf s (takeKey s) := ⟨_, rfl⟩
  rw [← hP]
  have HP := Lib.hid hP; clear hP
  obtain ⟨W0, hW0⟩ : ∃ W, W = (w.alloc (.cells #[.int .i64 0, .int .i64 0, .int .i64 0, .string ⟨#[]⟩] 42)).alloc (.cells #[.string s, .bool false] 111) := ⟨_, rfl⟩
  have k : RSt w 42 #[.int .i64 0, .int .i64 0, .int .i64 0, .string ⟨#[]⟩] W0 := by rw [hW0]; exact RSt.start w _ _ _
  have hR : Rdr (w.heap.size + 1) W0 (some s) := by
    rw [hW0]; refine ⟨s, false, ?_, hs, rfl⟩
    have := World.alloc_heap_new (w.alloc (.cells #[.int .i64 0, .int .i64 0, .int .i64 0, .string ⟨#[]⟩] 42)) (.cells #[.string s, .bool false] 111)
    rwa [World.size_alloc] at this
  go_enter Tryz.func20, Tryz.ntmps20
  have C := Lib.hid (rdNum (w.heap.size + 1) 2 (some s) W0 hR (by decide)); clear hR
  go_wp2_with fail
  rw [← hW0]
  clear hW0
  refine C.out.mono ?_
  rintro e w1 ⟨a1, rfl, -, hR, hv, hg⟩
  clear C
  obtain ⟨t1, ht⟩ : ∃ t, t = ((some s).bind (takeNum 2)).map (·.2) := ⟨_, rfl⟩
  rw [← ht] at hR
  have HS1 := Lib.hid (And.intro ht hv); clear ht hv
  replace k := k.next hg
  clear hg
  obtain ⟨X, hX⟩ : ∃ X, X = w1.heap.size := ⟨_, rfl⟩
  obtain ⟨V, hV⟩ : ∃ V, V = w1.alloc (.cells #[.int .i64 (a1 : Int), .int .i64 0, .int .i64 0, .string ⟨#[]⟩] 42) := ⟨_, rfl⟩
  have hXB : w.heap.size + 1 < X := by have := hR.lt; omega
  have kx : V.heap[X]? = some (.cells #[.int .i64 (a1 : Int), .int .i64 0, .int .i64 0, .string ⟨#[]⟩] 42 (0, 0)) := by rw [hV, hX]; exact World.alloc_heap_new _ _
  replace hR := hR.alloc (.cells #[.int .i64 (a1 : Int), .int .i64 0, .int .i64 0, .string ⟨#[]⟩] 42)
  replace k := k.alloc (.cells #[.int .i64 (a1 : Int), .int .i64 0, .int .i64 0, .string ⟨#[]⟩] 42)
  rw [← hV] at hR k
  have C := Lib.hid (rdNum (w.heap.size + 1) 1 t1 V hR (by decide)); clear hR
  go_wp2_with fail
  rw [← hV, ← hX]
  clear hV hX
  refine C.out.mono ?_
  rintro e w2 ⟨a2, rfl, -, hR, hv, hg⟩
  clear C
  obtain ⟨t2, ht⟩ : ∃ t, t = (t1.bind (takeNum 1)).map (·.2) := ⟨_, rfl⟩
  rw [← ht] at hR
  have HS2 := Lib.hid (And.intro ht hv); clear ht hv
  replace k := k.next hg
  replace kx := grown_keep hg kx (by omega)
  clear hg
  obtain ⟨cX, fX⟩ := heap_cells kx
  obtain ⟨V, hV⟩ : ∃ V, V = w2.setCell ⟨X, 1, none⟩ (.int .i64 (a2 : Int)) := ⟨_, rfl⟩
  have kx' : V.heap[X]? = some (.cells #[.int .i64 (a1 : Int), .int .i64 (a2 : Int), .int .i64 0, .string ⟨#[]⟩] 42 (0, 0)) := by rw [hV]; have h := heap_set kx 1 (.int .i64 (a2 : Int)); simpa using h
  replace hR := hR.setX (X := X) (by omega) 1 (.int .i64 (a2 : Int))
  replace k := k.setX (X := X) (by omega) 1 (.int .i64 (a2 : Int))
  rw [← hV] at hR k
  have C := Lib.hid (rdNum (w.heap.size + 1) 1 t2 V hR (by decide)); clear hR
  go_wp2_with fail
  rw [← hV]
  clear hV cX fX kx
  have kx := kx'; clear kx'
  refine C.out.mono ?_
  rintro e w3 ⟨a3, rfl, -, hR, hv, hg⟩
  clear C
  obtain ⟨t3, ht⟩ : ∃ t, t = (t2.bind (takeNum 1)).map (·.2) := ⟨_, rfl⟩
  rw [← ht] at hR
  have HS3 := Lib.hid (And.intro ht hv); clear ht hv
  replace k := k.next hg
  replace kx := grown_keep hg kx (by omega)
  clear hg
  obtain ⟨cX, fX⟩ := heap_cells kx
  obtain ⟨V, hV⟩ : ∃ V, V = w3.setCell ⟨X, 2, none⟩ (.int .i64 (a3 : Int)) := ⟨_, rfl⟩
  have kx' : V.heap[X]? = some (.cells #[.int .i64 (a1 : Int), .int .i64 (a2 : Int), .int .i64 (a3 : Int), .string ⟨#[]⟩] 42 (0, 0)) := by rw [hV]; have h := heap_set kx 2 (.int .i64 (a3 : Int)); simpa using h
  replace hR := hR.setX (X := X) (by omega) 2 (.int .i64 (a3 : Int))
  replace k := k.setX (X := X) (by omega) 2 (.int .i64 (a3 : Int))
  rw [← hV] at hR k
  have C := Lib.hid (rdAll (w.heap.size + 1) t3 V hR); clear hR
  go_wp2_with fail
  rw [← hV]
  clear hV cX fX kx
  have kx := kx'; clear kx'
  refine C.out.mono ?_
  rintro e w4 ⟨a4, rfl, -, hR, hv, hg⟩
  clear C
  obtain ⟨t4, ht⟩ : ∃ t, t = (t3.bind (takeRest)).map (·.2) := ⟨_, rfl⟩
  rw [← ht] at hR
  have HS4 := Lib.hid (And.intro ht hv); clear ht hv
  replace k := k.next hg
  replace kx := grown_keep hg kx (by omega)
  clear hg
  obtain ⟨cX, fX⟩ := heap_cells kx
  have hX1 : X ≠ w.heap.size + 1 := by omega
  have hX2 : X ≠ w.heap.size := by omega
  have kx' : ((w4).setCell ⟨X, 3, none⟩ (.string a4)).heap[X]? = some (.cells #[.int .i64 (a1 : Int), .int .i64 (a2 : Int), .int .i64 (a3 : Int), .string a4] 42 (0, 0)) := by have h := heap_set kx 3 (.string a4); simpa using h
  have cA := k.cells
  have fA := k.frozen
  replace k := k.setX (X := X) (by omega) 3 (.string a4)
  have hsp : (t4 = none ∧ takeKey s = none) ∨ (∃ r, t4 = some r ∧ r.size = 0 ∧ takeKey s = some (⟨a1, a2, a3, a4⟩, r)) := by
    cases h1 : takeNum 2 s with
    | none =>
      have e1 : t1 = none := by rw [HS1.out.1, Option.bind_some, h1]; rfl
      have e2 : t2 = none := by rw [HS2.out.1, e1]; rfl
      have e3 : t3 = none := by rw [HS3.out.1, e2]; rfl
      have e4 : t4 = none := by rw [HS4.out.1, e3]; rfl
      exact .inl ⟨e4, by simp [takeKey, takeShort, h1]⟩
    | some x =>
      obtain ⟨y, r1⟩ := x
      have e1 : t1 = some r1 := by rw [HS1.out.1, Option.bind_some, h1]; rfl
      obtain rfl : a1 = y := HS1.out.2 _ (by rw [Option.bind_some, h1])
      cases h2 : takeNum 1 r1 with
      | none =>
        have e2 : t2 = none := by rw [HS2.out.1, e1, Option.bind_some, h2]; rfl
        have e3 : t3 = none := by rw [HS3.out.1, e2]; rfl
        have e4 : t4 = none := by rw [HS4.out.1, e3]; rfl
        exact .inl ⟨e4, by simp [takeKey, takeShort, h1, h2]⟩
      | some x =>
        obtain ⟨y, r2⟩ := x
        have e2 : t2 = some r2 := by rw [HS2.out.1, e1, Option.bind_some, h2]; rfl
        obtain rfl : a2 = y := HS2.out.2 _ (by rw [e1, Option.bind_some, h2])
        cases h3 : takeNum 1 r2 with
        | none =>
          have e3 : t3 = none := by rw [HS3.out.1, e2, Option.bind_some, h3]; rfl
          have e4 : t4 = none := by rw [HS4.out.1, e3]; rfl
          exact .inl ⟨e4, by simp [takeKey, takeShort, h1, h2, h3]⟩
        | some x =>
          obtain ⟨y, r3⟩ := x
          have e3 : t3 = some r3 := by rw [HS3.out.1, e2, Option.bind_some, h3]; rfl
          obtain rfl : a3 = y := HS3.out.2 _ (by rw [e2, Option.bind_some, h3])
          cases h4 : takeRest r3 with
          | none =>
            have e4 : t4 = none := by rw [HS4.out.1, e3, Option.bind_some, h4]; rfl
            exact .inl ⟨e4, by simp [takeKey, takeShort, h1, h2, h3, h4]⟩
          | some x =>
            obtain ⟨y, r4⟩ := x
            have e4 : t4 = some r4 := by rw [HS4.out.1, e3, Option.bind_some, h4]; rfl
            obtain rfl : a4 = y := HS4.out.2 _ (by rw [e3, Option.bind_some, h4])
            have hz : r4.size = 0 := rest_nil h4
            exact .inr ⟨r4, e4, hz, by simp [takeKey, takeShort, h1, h2, h3, h4]⟩
  have HSP := Lib.hid hsp; clear hsp
  obtain ⟨r, bad, hb, hrs, he⟩ := hR
  have cb1 : w4.cell? ⟨w.heap.size + 1, 1, none⟩ = some (.bool bad) := by simp [World.cell?, hb]
  have HB := Lib.hid hb; clear hb
  have HE := Lib.hid he; clear he
  clear HS1 HS2 HS3 HS4
  cases bad with
  | true =>
    have hq : P = none := by
      rw [HP.out]
      rcases HSP.out with ⟨_, h⟩ | ⟨r', h, _⟩
      · rw [h]; unfold wholeOf; split <;> rfl
      · rw [HE.out] at h; cases h
    have HQ := Lib.hid hq; clear hq
    obtain ⟨V, hV⟩ : ∃ V, V = (((((w4).setCell ⟨X, 3, none⟩ (.string a4)).setCell ⟨w.heap.size, 0, none⟩ (.int .i64 0)).setCell ⟨w.heap.size, 1, none⟩ (.int .i64 0)).setCell ⟨w.heap.size, 2, none⟩ (.int .i64 0)).setCell ⟨w.heap.size, 3, none⟩ (.string ⟨#[]⟩) := ⟨_, rfl⟩
    have kF : RSt w 42 #[.int .i64 0, .int .i64 0, .int .i64 0, .string ⟨#[]⟩] V := by rw [hV]; have h := ((((k.set 0 (.int .i64 0)).set 1 (.int .i64 0)).set 2 (.int .i64 0)).set 3 (.string ⟨#[]⟩)); simpa using h
    have HK := Lib.hid kF; clear kF k
    clear kx kx'
    go_wp2_with fail
    rw [← hV]
    clear hV cA fA cX fX cb1
    have cF := HK.out.cells
    refine bodyPost_ret (v := .tuple #[.agg #[.int .i64 0, .int .i64 0, .int .i64 0, .string ⟨#[]⟩], .bool false]) (by simp [results, Tryz.results20, go_sem, cF]) rfl ?_
    rw [HQ.out]
    exact ⟨rfl, HK.out.2⟩
  | false =>
    rcases HSP.out with ⟨h, _⟩ | ⟨_, h, hr0, hsp⟩
    · rw [HE.out] at h; cases h
    rw [HE.out] at h
    obtain rfl := Option.some.inj h
    clear h
    have HS := Lib.hid hsp; clear hsp
    by_cases h2 : s.size ≤ 2000
    · have b2 : (s.size : Int) ≤ 2000 := by omega
      have hq : P = some ⟨a1, a2, a3, a4⟩ := by rw [HP.out, HS.out, wholeOf, if_pos h2]; exact if_pos hr0
      have HQ := Lib.hid hq; clear hq hr0
      obtain ⟨V, hV⟩ : ∃ V, V = (((((w4).setCell ⟨X, 3, none⟩ (.string a4)).setCell ⟨w.heap.size, 0, none⟩ (.int .i64 (a1 : Int))).setCell ⟨w.heap.size, 1, none⟩ (.int .i64 (a2 : Int))).setCell ⟨w.heap.size, 2, none⟩ (.int .i64 (a3 : Int))).setCell ⟨w.heap.size, 3, none⟩ (.string a4) := ⟨_, rfl⟩
      have kF : RSt w 42 #[.int .i64 (a1 : Int), .int .i64 (a2 : Int), .int .i64 (a3 : Int), .string a4] V := by rw [hV]; have h := ((((k.set 0 (.int .i64 (a1 : Int))).set 1 (.int .i64 (a2 : Int))).set 2 (.int .i64 (a3 : Int))).set 3 (.string a4)); simpa using h
      have HK := Lib.hid kF; clear kF k
      clear kx kx'
      go_wp2_with fail
      rw [← hV]
      clear hV cA fA cX fX cb1
      have cF := HK.out.cells
      refine bodyPost_ret (v := .tuple #[.agg #[.int .i64 (a1 : Int), .int .i64 (a2 : Int), .int .i64 (a3 : Int), .string a4], .bool true]) (by simp [results, Tryz.results20, go_sem, cF]) rfl ?_
      rw [HQ.out]
      exact ⟨⟨_, rfl, rfl⟩, HK.out.2⟩
    · have b2 : (2000 : Int) < (s.size : Int) := by omega
      have hq : P = none := by rw [HP.out]; unfold wholeOf; exact if_neg h2
      have HQ := Lib.hid hq; clear hq hr0
      obtain ⟨V, hV⟩ : ∃ V, V = (((((w4).setCell ⟨X, 3, none⟩ (.string a4)).setCell ⟨w.heap.size, 0, none⟩ (.int .i64 0)).setCell ⟨w.heap.size, 1, none⟩ (.int .i64 0)).setCell ⟨w.heap.size, 2, none⟩ (.int .i64 0)).setCell ⟨w.heap.size, 3, none⟩ (.string ⟨#[]⟩) := ⟨_, rfl⟩
      have kF : RSt w 42 #[.int .i64 0, .int .i64 0, .int .i64 0, .string ⟨#[]⟩] V := by rw [hV]; have h := ((((k.set 0 (.int .i64 0)).set 1 (.int .i64 0)).set 2 (.int .i64 0)).set 3 (.string ⟨#[]⟩)); simpa using h
      have HK := Lib.hid kF; clear kF k
      clear kx kx'
      go_wp2_with fail
      rw [← hV]
      clear hV cA fA cX fX cb1
      have cF := HK.out.cells
      refine bodyPost_ret (v := .tuple #[.agg #[.int .i64 0, .int .i64 0, .int .i64 0, .string ⟨#[]⟩], .bool false]) (by simp [results, Tryz.results20, go_sem, cF]) rfl ?_
      rw [HQ.out]
      exact ⟨rfl, HK.out.2⟩

set_option maxRecDepth 100000 in
set_option maxHeartbeats 8000000 in
theorem ref_ds (s : ByteArray) (w : World) (hs : s.size ≤ 1073741824) : Calls Tryz.prog 22 #[.string s] w (RefPostR (fun _ a v _ => v = dsV a) (.agg #[.int .i64 0, .int .i64 0, .int .i64 0, .string ⟨#[]⟩]) w (wholeOf s (takeDs s))) := by
  obtain ⟨P, hP⟩ : ∃ P, P = wholeOf s (takeDs s) := ⟨_, rfl⟩
  rw [← hP]
  have HP := Lib.hid hP; clear hP
  obtain ⟨W0, hW0⟩ : ∃ W, W = (w.alloc (.cells #[.int .i64 0, .int .i64 0, .int .i64 0, .string ⟨#[]⟩] 48)).alloc (.cells #[.string s, .bool false] 111) := ⟨_, rfl⟩
  have k : RSt w 48 #[.int .i64 0, .int .i64 0, .int .i64 0, .string ⟨#[]⟩] W0 := by rw [hW0]; exact RSt.start w _ _ _
  have hR : Rdr (w.heap.size + 1) W0 (some s) := by
    rw [hW0]; refine ⟨s, false, ?_, hs, rfl⟩
    have := World.alloc_heap_new (w.alloc (.cells #[.int .i64 0, .int .i64 0, .int .i64 0, .string ⟨#[]⟩] 48)) (.cells #[.string s, .bool false] 111)
    rwa [World.size_alloc] at this
  go_enter Tryz.func22, Tryz.ntmps22
  have C := Lib.hid (rdNum (w.heap.size + 1) 2 (some s) W0 hR (by decide)); clear hR
  go_wp2_with fail
  rw [← hW0]
  clear hW0
  refine C.out.mono ?_
  rintro e w1 ⟨a1, rfl, -, hR, hv, hg⟩
  clear C
  obtain ⟨t1, ht⟩ : ∃ t, t = ((some s).bind (takeNum 2)).map (·.2) := ⟨_, rfl⟩
  rw [← ht] at hR
  have HS1 := Lib.hid (And.intro ht hv); clear ht hv
  replace k := k.next hg
  clear hg
  obtain ⟨X, hX⟩ : ∃ X, X = w1.heap.size := ⟨_, rfl⟩
  obtain ⟨V, hV⟩ : ∃ V, V = w1.alloc (.cells #[.int .i64 (a1 : Int), .int .i64 0, .int .i64 0, .string ⟨#[]⟩] 48) := ⟨_, rfl⟩
  have hXB : w.heap.size + 1 < X := by have := hR.lt; omega
  have kx : V.heap[X]? = some (.cells #[.int .i64 (a1 : Int), .int .i64 0, .int .i64 0, .string ⟨#[]⟩] 48 (0, 0)) := by rw [hV, hX]; exact World.alloc_heap_new _ _
  replace hR := hR.alloc (.cells #[.int .i64 (a1 : Int), .int .i64 0, .int .i64 0, .string ⟨#[]⟩] 48)
  replace k := k.alloc (.cells #[.int .i64 (a1 : Int), .int .i64 0, .int .i64 0, .string ⟨#[]⟩] 48)
  rw [← hV] at hR k
  have C := Lib.hid (rdNum (w.heap.size + 1) 1 t1 V hR (by decide)); clear hR
  go_wp2_with fail
  rw [← hV, ← hX]
  clear hV hX
  refine C.out.mono ?_
  rintro e w2 ⟨a2, rfl, -, hR, hv, hg⟩
  clear C
  obtain ⟨t2, ht⟩ : ∃ t, t = (t1.bind (takeNum 1)).map (·.2) := ⟨_, rfl⟩
  rw [← ht] at hR
  have HS2 := Lib.hid (And.intro ht hv); clear ht hv
  replace k := k.next hg
  replace kx := grown_keep hg kx (by omega)
  clear hg
  obtain ⟨cX, fX⟩ := heap_cells kx
  obtain ⟨V, hV⟩ : ∃ V, V = w2.setCell ⟨X, 1, none⟩ (.int .i64 (a2 : Int)) := ⟨_, rfl⟩
  have kx' : V.heap[X]? = some (.cells #[.int .i64 (a1 : Int), .int .i64 (a2 : Int), .int .i64 0, .string ⟨#[]⟩] 48 (0, 0)) := by rw [hV]; have h := heap_set kx 1 (.int .i64 (a2 : Int)); simpa using h
  replace hR := hR.setX (X := X) (by omega) 1 (.int .i64 (a2 : Int))
  replace k := k.setX (X := X) (by omega) 1 (.int .i64 (a2 : Int))
  rw [← hV] at hR k
  have C := Lib.hid (rdNum (w.heap.size + 1) 1 t2 V hR (by decide)); clear hR
  go_wp2_with fail
  rw [← hV]
  clear hV cX fX kx
  have kx := kx'; clear kx'
  refine C.out.mono ?_
  rintro e w3 ⟨a3, rfl, -, hR, hv, hg⟩
  clear C
  obtain ⟨t3, ht⟩ : ∃ t, t = (t2.bind (takeNum 1)).map (·.2) := ⟨_, rfl⟩
  rw [← ht] at hR
  have HS3 := Lib.hid (And.intro ht hv); clear ht hv
  replace k := k.next hg
  replace kx := grown_keep hg kx (by omega)
  clear hg
  obtain ⟨cX, fX⟩ := heap_cells kx
  obtain ⟨V, hV⟩ : ∃ V, V = w3.setCell ⟨X, 2, none⟩ (.int .i64 (a3 : Int)) := ⟨_, rfl⟩
  have kx' : V.heap[X]? = some (.cells #[.int .i64 (a1 : Int), .int .i64 (a2 : Int), .int .i64 (a3 : Int), .string ⟨#[]⟩] 48 (0, 0)) := by rw [hV]; have h := heap_set kx 2 (.int .i64 (a3 : Int)); simpa using h
  replace hR := hR.setX (X := X) (by omega) 2 (.int .i64 (a3 : Int))
  replace k := k.setX (X := X) (by omega) 2 (.int .i64 (a3 : Int))
  rw [← hV] at hR k
  have C := Lib.hid (rdAll (w.heap.size + 1) t3 V hR); clear hR
  go_wp2_with fail
  rw [← hV]
  clear hV cX fX kx
  have kx := kx'; clear kx'
  refine C.out.mono ?_
  rintro e w4 ⟨a4, rfl, -, hR, hv, hg⟩
  clear C
  obtain ⟨t4, ht⟩ : ∃ t, t = (t3.bind (takeRest)).map (·.2) := ⟨_, rfl⟩
  rw [← ht] at hR
  have HS4 := Lib.hid (And.intro ht hv); clear ht hv
  replace k := k.next hg
  replace kx := grown_keep hg kx (by omega)
  clear hg
  obtain ⟨cX, fX⟩ := heap_cells kx
  have hX1 : X ≠ w.heap.size + 1 := by omega
  have hX2 : X ≠ w.heap.size := by omega
  have kx' : ((w4).setCell ⟨X, 3, none⟩ (.string a4)).heap[X]? = some (.cells #[.int .i64 (a1 : Int), .int .i64 (a2 : Int), .int .i64 (a3 : Int), .string a4] 48 (0, 0)) := by have h := heap_set kx 3 (.string a4); simpa using h
  have cA := k.cells
  have fA := k.frozen
  replace k := k.setX (X := X) (by omega) 3 (.string a4)
  have hsp : (t4 = none ∧ takeDs s = none) ∨ (∃ r, t4 = some r ∧ r.size = 0 ∧ takeDs s = some (⟨a1, a2, a3, a4⟩, r)) := by
    cases h1 : takeNum 2 s with
    | none =>
      have e1 : t1 = none := by rw [HS1.out.1, Option.bind_some, h1]; rfl
      have e2 : t2 = none := by rw [HS2.out.1, e1]; rfl
      have e3 : t3 = none := by rw [HS3.out.1, e2]; rfl
      have e4 : t4 = none := by rw [HS4.out.1, e3]; rfl
      exact .inl ⟨e4, by simp [takeDs, takeShort, h1]⟩
    | some x =>
      obtain ⟨y, r1⟩ := x
      have e1 : t1 = some r1 := by rw [HS1.out.1, Option.bind_some, h1]; rfl
      obtain rfl : a1 = y := HS1.out.2 _ (by rw [Option.bind_some, h1])
      cases h2 : takeNum 1 r1 with
      | none =>
        have e2 : t2 = none := by rw [HS2.out.1, e1, Option.bind_some, h2]; rfl
        have e3 : t3 = none := by rw [HS3.out.1, e2]; rfl
        have e4 : t4 = none := by rw [HS4.out.1, e3]; rfl
        exact .inl ⟨e4, by simp [takeDs, takeShort, h1, h2]⟩
      | some x =>
        obtain ⟨y, r2⟩ := x
        have e2 : t2 = some r2 := by rw [HS2.out.1, e1, Option.bind_some, h2]; rfl
        obtain rfl : a2 = y := HS2.out.2 _ (by rw [e1, Option.bind_some, h2])
        cases h3 : takeNum 1 r2 with
        | none =>
          have e3 : t3 = none := by rw [HS3.out.1, e2, Option.bind_some, h3]; rfl
          have e4 : t4 = none := by rw [HS4.out.1, e3]; rfl
          exact .inl ⟨e4, by simp [takeDs, takeShort, h1, h2, h3]⟩
        | some x =>
          obtain ⟨y, r3⟩ := x
          have e3 : t3 = some r3 := by rw [HS3.out.1, e2, Option.bind_some, h3]; rfl
          obtain rfl : a3 = y := HS3.out.2 _ (by rw [e2, Option.bind_some, h3])
          cases h4 : takeRest r3 with
          | none =>
            have e4 : t4 = none := by rw [HS4.out.1, e3, Option.bind_some, h4]; rfl
            exact .inl ⟨e4, by simp [takeDs, takeShort, h1, h2, h3, h4]⟩
          | some x =>
            obtain ⟨y, r4⟩ := x
            have e4 : t4 = some r4 := by rw [HS4.out.1, e3, Option.bind_some, h4]; rfl
            obtain rfl : a4 = y := HS4.out.2 _ (by rw [e3, Option.bind_some, h4])
            have hz : r4.size = 0 := rest_nil h4
            exact .inr ⟨r4, e4, hz, by simp [takeDs, takeShort, h1, h2, h3, h4]⟩
  have HSP := Lib.hid hsp; clear hsp
  obtain ⟨r, bad, hb, hrs, he⟩ := hR
  have cb1 : w4.cell? ⟨w.heap.size + 1, 1, none⟩ = some (.bool bad) := by simp [World.cell?, hb]
  have HB := Lib.hid hb; clear hb
  have HE := Lib.hid he; clear he
  clear HS1 HS2 HS3 HS4
  cases bad with
  | true =>
    have hq : P = none := by
      rw [HP.out]
      rcases HSP.out with ⟨_, h⟩ | ⟨r', h, _⟩
      · rw [h]; unfold wholeOf; split <;> rfl
      · rw [HE.out] at h; cases h
    have HQ := Lib.hid hq; clear hq
    obtain ⟨V, hV⟩ : ∃ V, V = (((((w4).setCell ⟨X, 3, none⟩ (.string a4)).setCell ⟨w.heap.size, 0, none⟩ (.int .i64 0)).setCell ⟨w.heap.size, 1, none⟩ (.int .i64 0)).setCell ⟨w.heap.size, 2, none⟩ (.int .i64 0)).setCell ⟨w.heap.size, 3, none⟩ (.string ⟨#[]⟩) := ⟨_, rfl⟩
    have kF : RSt w 48 #[.int .i64 0, .int .i64 0, .int .i64 0, .string ⟨#[]⟩] V := by rw [hV]; have h := ((((k.set 0 (.int .i64 0)).set 1 (.int .i64 0)).set 2 (.int .i64 0)).set 3 (.string ⟨#[]⟩)); simpa using h
    have HK := Lib.hid kF; clear kF k
    clear kx kx'
    go_wp2_with fail
    rw [← hV]
    clear hV cA fA cX fX cb1
    have cF := HK.out.cells
    refine bodyPost_ret (v := .tuple #[.agg #[.int .i64 0, .int .i64 0, .int .i64 0, .string ⟨#[]⟩], .bool false]) (by simp [results, Tryz.results22, go_sem, cF]) rfl ?_
    rw [HQ.out]
    exact ⟨rfl, HK.out.2⟩
  | false =>
    rcases HSP.out with ⟨h, _⟩ | ⟨_, h, hr0, hsp⟩
    · rw [HE.out] at h; cases h
    rw [HE.out] at h
    obtain rfl := Option.some.inj h
    clear h
    have HS := Lib.hid hsp; clear hsp
    by_cases h2 : s.size ≤ 2000
    · have b2 : (s.size : Int) ≤ 2000 := by omega
      have hq : P = some ⟨a1, a2, a3, a4⟩ := by rw [HP.out, HS.out, wholeOf, if_pos h2]; exact if_pos hr0
      have HQ := Lib.hid hq; clear hq hr0
      obtain ⟨V, hV⟩ : ∃ V, V = (((((w4).setCell ⟨X, 3, none⟩ (.string a4)).setCell ⟨w.heap.size, 0, none⟩ (.int .i64 (a1 : Int))).setCell ⟨w.heap.size, 1, none⟩ (.int .i64 (a2 : Int))).setCell ⟨w.heap.size, 2, none⟩ (.int .i64 (a3 : Int))).setCell ⟨w.heap.size, 3, none⟩ (.string a4) := ⟨_, rfl⟩
      have kF : RSt w 48 #[.int .i64 (a1 : Int), .int .i64 (a2 : Int), .int .i64 (a3 : Int), .string a4] V := by rw [hV]; have h := ((((k.set 0 (.int .i64 (a1 : Int))).set 1 (.int .i64 (a2 : Int))).set 2 (.int .i64 (a3 : Int))).set 3 (.string a4)); simpa using h
      have HK := Lib.hid kF; clear kF k
      clear kx kx'
      go_wp2_with fail
      rw [← hV]
      clear hV cA fA cX fX cb1
      have cF := HK.out.cells
      refine bodyPost_ret (v := .tuple #[.agg #[.int .i64 (a1 : Int), .int .i64 (a2 : Int), .int .i64 (a3 : Int), .string a4], .bool true]) (by simp [results, Tryz.results22, go_sem, cF]) rfl ?_
      rw [HQ.out]
      exact ⟨⟨_, rfl, rfl⟩, HK.out.2⟩
    · have b2 : (2000 : Int) < (s.size : Int) := by omega
      have hq : P = none := by rw [HP.out]; unfold wholeOf; exact if_neg h2
      have HQ := Lib.hid hq; clear hq hr0
      obtain ⟨V, hV⟩ : ∃ V, V = (((((w4).setCell ⟨X, 3, none⟩ (.string a4)).setCell ⟨w.heap.size, 0, none⟩ (.int .i64 0)).setCell ⟨w.heap.size, 1, none⟩ (.int .i64 0)).setCell ⟨w.heap.size, 2, none⟩ (.int .i64 0)).setCell ⟨w.heap.size, 3, none⟩ (.string ⟨#[]⟩) := ⟨_, rfl⟩
      have kF : RSt w 48 #[.int .i64 0, .int .i64 0, .int .i64 0, .string ⟨#[]⟩] V := by rw [hV]; have h := ((((k.set 0 (.int .i64 0)).set 1 (.int .i64 0)).set 2 (.int .i64 0)).set 3 (.string ⟨#[]⟩)); simpa using h
      have HK := Lib.hid kF; clear kF k
      clear kx kx'
      go_wp2_with fail
      rw [← hV]
      clear hV cA fA cX fX cb1
      have cF := HK.out.cells
      refine bodyPost_ret (v := .tuple #[.agg #[.int .i64 0, .int .i64 0, .int .i64 0, .string ⟨#[]⟩], .bool false]) (by simp [results, Tryz.results22, go_sem, cF]) rfl ?_
      rw [HQ.out]
      exact ⟨rfl, HK.out.2⟩

set_option maxRecDepth 100000 in
set_option maxHeartbeats 8000000 in
theorem ref_sig (s : ByteArray) (w : World) (hs : s.size ≤ 1073741824) : Calls Tryz.prog 18 #[.string s] w (RefPostR (fun _ a v _ => v = sigV a) (.agg #[.int .i64 0, .int .i64 0, .int .i64 0, .int .i64 0, .int .i64 0, .int .i64 0, .int .i64 0, .string ⟨#[]⟩, .string ⟨#[]⟩]) w (wholeOf s (takeSig s))) := by
  obtain ⟨P, hP⟩ : ∃ P, P = wholeOf s (takeSig s) := ⟨_, rfl⟩
  rw [← hP]
  have HP := Lib.hid hP; clear hP
  obtain ⟨W0, hW0⟩ : ∃ W, W = (w.alloc (.cells #[.int .i64 0, .int .i64 0, .int .i64 0, .int .i64 0, .int .i64 0, .int .i64 0, .int .i64 0, .string ⟨#[]⟩, .string ⟨#[]⟩] 36)).alloc (.cells #[.string s, .bool false] 111) := ⟨_, rfl⟩
  have k : RSt w 36 #[.int .i64 0, .int .i64 0, .int .i64 0, .int .i64 0, .int .i64 0, .int .i64 0, .int .i64 0, .string ⟨#[]⟩, .string ⟨#[]⟩] W0 := by rw [hW0]; exact RSt.start w _ _ _
  have hR : Rdr (w.heap.size + 1) W0 (some s) := by
    rw [hW0]; refine ⟨s, false, ?_, hs, rfl⟩
    have := World.alloc_heap_new (w.alloc (.cells #[.int .i64 0, .int .i64 0, .int .i64 0, .int .i64 0, .int .i64 0, .int .i64 0, .int .i64 0, .string ⟨#[]⟩, .string ⟨#[]⟩] 36)) (.cells #[.string s, .bool false] 111)
    rwa [World.size_alloc] at this
  go_enter Tryz.func18, Tryz.ntmps18
  have C := Lib.hid (rdNum (w.heap.size + 1) 2 (some s) W0 hR (by decide)); clear hR
  go_wp2_with fail
  rw [← hW0]
  clear hW0
  refine C.out.mono ?_
  rintro e w1 ⟨a1, rfl, -, hR, hv, hg⟩
  clear C
  obtain ⟨t1, ht⟩ : ∃ t, t = ((some s).bind (takeNum 2)).map (·.2) := ⟨_, rfl⟩
  rw [← ht] at hR
  have HS1 := Lib.hid (And.intro ht hv); clear ht hv
  replace k := k.next hg
  clear hg
  obtain ⟨X, hX⟩ : ∃ X, X = w1.heap.size := ⟨_, rfl⟩
  obtain ⟨V, hV⟩ : ∃ V, V = w1.alloc (.cells #[.int .i64 (a1 : Int), .int .i64 0, .int .i64 0, .int .i64 0, .int .i64 0, .int .i64 0, .int .i64 0, .string ⟨#[]⟩, .string ⟨#[]⟩] 36) := ⟨_, rfl⟩
  have hXB : w.heap.size + 1 < X := by have := hR.lt; omega
  have kx : V.heap[X]? = some (.cells #[.int .i64 (a1 : Int), .int .i64 0, .int .i64 0, .int .i64 0, .int .i64 0, .int .i64 0, .int .i64 0, .string ⟨#[]⟩, .string ⟨#[]⟩] 36 (0, 0)) := by rw [hV, hX]; exact World.alloc_heap_new _ _
  replace hR := hR.alloc (.cells #[.int .i64 (a1 : Int), .int .i64 0, .int .i64 0, .int .i64 0, .int .i64 0, .int .i64 0, .int .i64 0, .string ⟨#[]⟩, .string ⟨#[]⟩] 36)
  replace k := k.alloc (.cells #[.int .i64 (a1 : Int), .int .i64 0, .int .i64 0, .int .i64 0, .int .i64 0, .int .i64 0, .int .i64 0, .string ⟨#[]⟩, .string ⟨#[]⟩] 36)
  rw [← hV] at hR k
  have C := Lib.hid (rdNum (w.heap.size + 1) 1 t1 V hR (by decide)); clear hR
  go_wp2_with fail
  rw [← hV, ← hX]
  clear hV hX
  refine C.out.mono ?_
  rintro e w2 ⟨a2, rfl, -, hR, hv, hg⟩
  clear C
  obtain ⟨t2, ht⟩ : ∃ t, t = (t1.bind (takeNum 1)).map (·.2) := ⟨_, rfl⟩
  rw [← ht] at hR
  have HS2 := Lib.hid (And.intro ht hv); clear ht hv
  replace k := k.next hg
  replace kx := grown_keep hg kx (by omega)
  clear hg
  obtain ⟨cX, fX⟩ := heap_cells kx
  obtain ⟨V, hV⟩ : ∃ V, V = w2.setCell ⟨X, 1, none⟩ (.int .i64 (a2 : Int)) := ⟨_, rfl⟩
  have kx' : V.heap[X]? = some (.cells #[.int .i64 (a1 : Int), .int .i64 (a2 : Int), .int .i64 0, .int .i64 0, .int .i64 0, .int .i64 0, .int .i64 0, .string ⟨#[]⟩, .string ⟨#[]⟩] 36 (0, 0)) := by rw [hV]; have h := heap_set kx 1 (.int .i64 (a2 : Int)); simpa using h
  replace hR := hR.setX (X := X) (by omega) 1 (.int .i64 (a2 : Int))
  replace k := k.setX (X := X) (by omega) 1 (.int .i64 (a2 : Int))
  rw [← hV] at hR k
  have C := Lib.hid (rdNum (w.heap.size + 1) 1 t2 V hR (by decide)); clear hR
  go_wp2_with fail
  rw [← hV]
  clear hV cX fX kx
  have kx := kx'; clear kx'
  refine C.out.mono ?_
  rintro e w3 ⟨a3, rfl, -, hR, hv, hg⟩
  clear C
  obtain ⟨t3, ht⟩ : ∃ t, t = (t2.bind (takeNum 1)).map (·.2) := ⟨_, rfl⟩
  rw [← ht] at hR
  have HS3 := Lib.hid (And.intro ht hv); clear ht hv
  replace k := k.next hg
  replace kx := grown_keep hg kx (by omega)
  clear hg
  obtain ⟨cX, fX⟩ := heap_cells kx
  obtain ⟨V, hV⟩ : ∃ V, V = w3.setCell ⟨X, 2, none⟩ (.int .i64 (a3 : Int)) := ⟨_, rfl⟩
  have kx' : V.heap[X]? = some (.cells #[.int .i64 (a1 : Int), .int .i64 (a2 : Int), .int .i64 (a3 : Int), .int .i64 0, .int .i64 0, .int .i64 0, .int .i64 0, .string ⟨#[]⟩, .string ⟨#[]⟩] 36 (0, 0)) := by rw [hV]; have h := heap_set kx 2 (.int .i64 (a3 : Int)); simpa using h
  replace hR := hR.setX (X := X) (by omega) 2 (.int .i64 (a3 : Int))
  replace k := k.setX (X := X) (by omega) 2 (.int .i64 (a3 : Int))
  rw [← hV] at hR k
  have C := Lib.hid (rdNum (w.heap.size + 1) 4 t3 V hR (by decide)); clear hR
  go_wp2_with fail
  rw [← hV]
  clear hV cX fX kx
  have kx := kx'; clear kx'
  refine C.out.mono ?_
  rintro e w4 ⟨a4, rfl, -, hR, hv, hg⟩
  clear C
  obtain ⟨t4, ht⟩ : ∃ t, t = (t3.bind (takeNum 4)).map (·.2) := ⟨_, rfl⟩
  rw [← ht] at hR
  have HS4 := Lib.hid (And.intro ht hv); clear ht hv
  replace k := k.next hg
  replace kx := grown_keep hg kx (by omega)
  clear hg
  obtain ⟨cX, fX⟩ := heap_cells kx
  obtain ⟨V, hV⟩ : ∃ V, V = w4.setCell ⟨X, 3, none⟩ (.int .i64 (a4 : Int)) := ⟨_, rfl⟩
  have kx' : V.heap[X]? = some (.cells #[.int .i64 (a1 : Int), .int .i64 (a2 : Int), .int .i64 (a3 : Int), .int .i64 (a4 : Int), .int .i64 0, .int .i64 0, .int .i64 0, .string ⟨#[]⟩, .string ⟨#[]⟩] 36 (0, 0)) := by rw [hV]; have h := heap_set kx 3 (.int .i64 (a4 : Int)); simpa using h
  replace hR := hR.setX (X := X) (by omega) 3 (.int .i64 (a4 : Int))
  replace k := k.setX (X := X) (by omega) 3 (.int .i64 (a4 : Int))
  rw [← hV] at hR k
  have C := Lib.hid (rdNum (w.heap.size + 1) 4 t4 V hR (by decide)); clear hR
  go_wp2_with fail
  rw [← hV]
  clear hV cX fX kx
  have kx := kx'; clear kx'
  refine C.out.mono ?_
  rintro e w5 ⟨a5, rfl, -, hR, hv, hg⟩
  clear C
  obtain ⟨t5, ht⟩ : ∃ t, t = (t4.bind (takeNum 4)).map (·.2) := ⟨_, rfl⟩
  rw [← ht] at hR
  have HS5 := Lib.hid (And.intro ht hv); clear ht hv
  replace k := k.next hg
  replace kx := grown_keep hg kx (by omega)
  clear hg
  obtain ⟨cX, fX⟩ := heap_cells kx
  obtain ⟨V, hV⟩ : ∃ V, V = w5.setCell ⟨X, 4, none⟩ (.int .i64 (a5 : Int)) := ⟨_, rfl⟩
  have kx' : V.heap[X]? = some (.cells #[.int .i64 (a1 : Int), .int .i64 (a2 : Int), .int .i64 (a3 : Int), .int .i64 (a4 : Int), .int .i64 (a5 : Int), .int .i64 0, .int .i64 0, .string ⟨#[]⟩, .string ⟨#[]⟩] 36 (0, 0)) := by rw [hV]; have h := heap_set kx 4 (.int .i64 (a5 : Int)); simpa using h
  replace hR := hR.setX (X := X) (by omega) 4 (.int .i64 (a5 : Int))
  replace k := k.setX (X := X) (by omega) 4 (.int .i64 (a5 : Int))
  rw [← hV] at hR k
  have C := Lib.hid (rdNum (w.heap.size + 1) 4 t5 V hR (by decide)); clear hR
  go_wp2_with fail
  rw [← hV]
  clear hV cX fX kx
  have kx := kx'; clear kx'
  refine C.out.mono ?_
  rintro e w6 ⟨a6, rfl, -, hR, hv, hg⟩
  clear C
  obtain ⟨t6, ht⟩ : ∃ t, t = (t5.bind (takeNum 4)).map (·.2) := ⟨_, rfl⟩
  rw [← ht] at hR
  have HS6 := Lib.hid (And.intro ht hv); clear ht hv
  replace k := k.next hg
  replace kx := grown_keep hg kx (by omega)
  clear hg
  obtain ⟨cX, fX⟩ := heap_cells kx
  obtain ⟨V, hV⟩ : ∃ V, V = w6.setCell ⟨X, 5, none⟩ (.int .i64 (a6 : Int)) := ⟨_, rfl⟩
  have kx' : V.heap[X]? = some (.cells #[.int .i64 (a1 : Int), .int .i64 (a2 : Int), .int .i64 (a3 : Int), .int .i64 (a4 : Int), .int .i64 (a5 : Int), .int .i64 (a6 : Int), .int .i64 0, .string ⟨#[]⟩, .string ⟨#[]⟩] 36 (0, 0)) := by rw [hV]; have h := heap_set kx 5 (.int .i64 (a6 : Int)); simpa using h
  replace hR := hR.setX (X := X) (by omega) 5 (.int .i64 (a6 : Int))
  replace k := k.setX (X := X) (by omega) 5 (.int .i64 (a6 : Int))
  rw [← hV] at hR k
  have C := Lib.hid (rdNum (w.heap.size + 1) 2 t6 V hR (by decide)); clear hR
  go_wp2_with fail
  rw [← hV]
  clear hV cX fX kx
  have kx := kx'; clear kx'
  refine C.out.mono ?_
  rintro e w7 ⟨a7, rfl, -, hR, hv, hg⟩
  clear C
  obtain ⟨t7, ht⟩ : ∃ t, t = (t6.bind (takeNum 2)).map (·.2) := ⟨_, rfl⟩
  rw [← ht] at hR
  have HS7 := Lib.hid (And.intro ht hv); clear ht hv
  replace k := k.next hg
  replace kx := grown_keep hg kx (by omega)
  clear hg
  obtain ⟨cX, fX⟩ := heap_cells kx
  obtain ⟨V, hV⟩ : ∃ V, V = w7.setCell ⟨X, 6, none⟩ (.int .i64 (a7 : Int)) := ⟨_, rfl⟩
  have kx' : V.heap[X]? = some (.cells #[.int .i64 (a1 : Int), .int .i64 (a2 : Int), .int .i64 (a3 : Int), .int .i64 (a4 : Int), .int .i64 (a5 : Int), .int .i64 (a6 : Int), .int .i64 (a7 : Int), .string ⟨#[]⟩, .string ⟨#[]⟩] 36 (0, 0)) := by rw [hV]; have h := heap_set kx 6 (.int .i64 (a7 : Int)); simpa using h
  replace hR := hR.setX (X := X) (by omega) 6 (.int .i64 (a7 : Int))
  replace k := k.setX (X := X) (by omega) 6 (.int .i64 (a7 : Int))
  rw [← hV] at hR k
  have C := Lib.hid (rdName (w.heap.size + 1) t7 V hR); clear hR
  go_wp2_with fail
  rw [← hV]
  clear hV cX fX kx
  have kx := kx'; clear kx'
  refine C.out.mono ?_
  rintro e w8 ⟨a8, rfl, -, hR, hv, hg⟩
  clear C
  obtain ⟨t8, ht⟩ : ∃ t, t = (t7.bind (takeName)).map (·.2) := ⟨_, rfl⟩
  rw [← ht] at hR
  have HS8 := Lib.hid (And.intro ht hv); clear ht hv
  replace k := k.next hg
  replace kx := grown_keep hg kx (by omega)
  clear hg
  obtain ⟨cX, fX⟩ := heap_cells kx
  obtain ⟨V, hV⟩ : ∃ V, V = w8.setCell ⟨X, 7, none⟩ (.string a8) := ⟨_, rfl⟩
  have kx' : V.heap[X]? = some (.cells #[.int .i64 (a1 : Int), .int .i64 (a2 : Int), .int .i64 (a3 : Int), .int .i64 (a4 : Int), .int .i64 (a5 : Int), .int .i64 (a6 : Int), .int .i64 (a7 : Int), .string a8, .string ⟨#[]⟩] 36 (0, 0)) := by rw [hV]; have h := heap_set kx 7 (.string a8); simpa using h
  replace hR := hR.setX (X := X) (by omega) 7 (.string a8)
  replace k := k.setX (X := X) (by omega) 7 (.string a8)
  rw [← hV] at hR k
  have C := Lib.hid (rdAll (w.heap.size + 1) t8 V hR); clear hR
  go_wp2_with fail
  rw [← hV]
  clear hV cX fX kx
  have kx := kx'; clear kx'
  refine C.out.mono ?_
  rintro e w9 ⟨a9, rfl, -, hR, hv, hg⟩
  clear C
  obtain ⟨t9, ht⟩ : ∃ t, t = (t8.bind (takeRest)).map (·.2) := ⟨_, rfl⟩
  rw [← ht] at hR
  have HS9 := Lib.hid (And.intro ht hv); clear ht hv
  replace k := k.next hg
  replace kx := grown_keep hg kx (by omega)
  clear hg
  obtain ⟨cX, fX⟩ := heap_cells kx
  have hX1 : X ≠ w.heap.size + 1 := by omega
  have hX2 : X ≠ w.heap.size := by omega
  have kx' : ((w9).setCell ⟨X, 8, none⟩ (.string a9)).heap[X]? = some (.cells #[.int .i64 (a1 : Int), .int .i64 (a2 : Int), .int .i64 (a3 : Int), .int .i64 (a4 : Int), .int .i64 (a5 : Int), .int .i64 (a6 : Int), .int .i64 (a7 : Int), .string a8, .string a9] 36 (0, 0)) := by have h := heap_set kx 8 (.string a9); simpa using h
  have cA := k.cells
  have fA := k.frozen
  replace k := k.setX (X := X) (by omega) 8 (.string a9)
  have hsp : (t9 = none ∧ takeSig s = none) ∨ (∃ r, t9 = some r ∧ r.size = 0 ∧ takeSig s = some (⟨a1, a2, a3, a4, a5, a6, a7, a8, a9⟩, r)) := by
    cases h1 : takeNum 2 s with
    | none =>
      have e1 : t1 = none := by rw [HS1.out.1, Option.bind_some, h1]; rfl
      have e2 : t2 = none := by rw [HS2.out.1, e1]; rfl
      have e3 : t3 = none := by rw [HS3.out.1, e2]; rfl
      have e4 : t4 = none := by rw [HS4.out.1, e3]; rfl
      have e5 : t5 = none := by rw [HS5.out.1, e4]; rfl
      have e6 : t6 = none := by rw [HS6.out.1, e5]; rfl
      have e7 : t7 = none := by rw [HS7.out.1, e6]; rfl
      have e8 : t8 = none := by rw [HS8.out.1, e7]; rfl
      have e9 : t9 = none := by rw [HS9.out.1, e8]; rfl
      exact .inl ⟨e9, by simp [takeSig, takeShort, h1]⟩
    | some x =>
      obtain ⟨y, r1⟩ := x
      have e1 : t1 = some r1 := by rw [HS1.out.1, Option.bind_some, h1]; rfl
      obtain rfl : a1 = y := HS1.out.2 _ (by rw [Option.bind_some, h1])
      cases h2 : takeNum 1 r1 with
      | none =>
        have e2 : t2 = none := by rw [HS2.out.1, e1, Option.bind_some, h2]; rfl
        have e3 : t3 = none := by rw [HS3.out.1, e2]; rfl
        have e4 : t4 = none := by rw [HS4.out.1, e3]; rfl
        have e5 : t5 = none := by rw [HS5.out.1, e4]; rfl
        have e6 : t6 = none := by rw [HS6.out.1, e5]; rfl
        have e7 : t7 = none := by rw [HS7.out.1, e6]; rfl
        have e8 : t8 = none := by rw [HS8.out.1, e7]; rfl
        have e9 : t9 = none := by rw [HS9.out.1, e8]; rfl
        exact .inl ⟨e9, by simp [takeSig, takeShort, h1, h2]⟩
      | some x =>
        obtain ⟨y, r2⟩ := x
        have e2 : t2 = some r2 := by rw [HS2.out.1, e1, Option.bind_some, h2]; rfl
        obtain rfl : a2 = y := HS2.out.2 _ (by rw [e1, Option.bind_some, h2])
        cases h3 : takeNum 1 r2 with
        | none =>
          have e3 : t3 = none := by rw [HS3.out.1, e2, Option.bind_some, h3]; rfl
          have e4 : t4 = none := by rw [HS4.out.1, e3]; rfl
          have e5 : t5 = none := by rw [HS5.out.1, e4]; rfl
          have e6 : t6 = none := by rw [HS6.out.1, e5]; rfl
          have e7 : t7 = none := by rw [HS7.out.1, e6]; rfl
          have e8 : t8 = none := by rw [HS8.out.1, e7]; rfl
          have e9 : t9 = none := by rw [HS9.out.1, e8]; rfl
          exact .inl ⟨e9, by simp [takeSig, takeShort, h1, h2, h3]⟩
        | some x =>
          obtain ⟨y, r3⟩ := x
          have e3 : t3 = some r3 := by rw [HS3.out.1, e2, Option.bind_some, h3]; rfl
          obtain rfl : a3 = y := HS3.out.2 _ (by rw [e2, Option.bind_some, h3])
          cases h4 : takeNum 4 r3 with
          | none =>
            have e4 : t4 = none := by rw [HS4.out.1, e3, Option.bind_some, h4]; rfl
            have e5 : t5 = none := by rw [HS5.out.1, e4]; rfl
            have e6 : t6 = none := by rw [HS6.out.1, e5]; rfl
            have e7 : t7 = none := by rw [HS7.out.1, e6]; rfl
            have e8 : t8 = none := by rw [HS8.out.1, e7]; rfl
            have e9 : t9 = none := by rw [HS9.out.1, e8]; rfl
            exact .inl ⟨e9, by simp [takeSig, takeShort, h1, h2, h3, h4]⟩
          | some x =>
            obtain ⟨y, r4⟩ := x
            have e4 : t4 = some r4 := by rw [HS4.out.1, e3, Option.bind_some, h4]; rfl
            obtain rfl : a4 = y := HS4.out.2 _ (by rw [e3, Option.bind_some, h4])
            cases h5 : takeNum 4 r4 with
            | none =>
              have e5 : t5 = none := by rw [HS5.out.1, e4, Option.bind_some, h5]; rfl
              have e6 : t6 = none := by rw [HS6.out.1, e5]; rfl
              have e7 : t7 = none := by rw [HS7.out.1, e6]; rfl
              have e8 : t8 = none := by rw [HS8.out.1, e7]; rfl
              have e9 : t9 = none := by rw [HS9.out.1, e8]; rfl
              exact .inl ⟨e9, by simp [takeSig, takeShort, h1, h2, h3, h4, h5]⟩
            | some x =>
              obtain ⟨y, r5⟩ := x
              have e5 : t5 = some r5 := by rw [HS5.out.1, e4, Option.bind_some, h5]; rfl
              obtain rfl : a5 = y := HS5.out.2 _ (by rw [e4, Option.bind_some, h5])
              cases h6 : takeNum 4 r5 with
              | none =>
                have e6 : t6 = none := by rw [HS6.out.1, e5, Option.bind_some, h6]; rfl
                have e7 : t7 = none := by rw [HS7.out.1, e6]; rfl
                have e8 : t8 = none := by rw [HS8.out.1, e7]; rfl
                have e9 : t9 = none := by rw [HS9.out.1, e8]; rfl
                exact .inl ⟨e9, by simp [takeSig, takeShort, h1, h2, h3, h4, h5, h6]⟩
              | some x =>
                obtain ⟨y, r6⟩ := x
                have e6 : t6 = some r6 := by rw [HS6.out.1, e5, Option.bind_some, h6]; rfl
                obtain rfl : a6 = y := HS6.out.2 _ (by rw [e5, Option.bind_some, h6])
                cases h7 : takeNum 2 r6 with
                | none =>
                  have e7 : t7 = none := by rw [HS7.out.1, e6, Option.bind_some, h7]; rfl
                  have e8 : t8 = none := by rw [HS8.out.1, e7]; rfl
                  have e9 : t9 = none := by rw [HS9.out.1, e8]; rfl
                  exact .inl ⟨e9, by simp [takeSig, takeShort, h1, h2, h3, h4, h5, h6, h7]⟩
                | some x =>
                  obtain ⟨y, r7⟩ := x
                  have e7 : t7 = some r7 := by rw [HS7.out.1, e6, Option.bind_some, h7]; rfl
                  obtain rfl : a7 = y := HS7.out.2 _ (by rw [e6, Option.bind_some, h7])
                  cases h8 : takeName r7 with
                  | none =>
                    have e8 : t8 = none := by rw [HS8.out.1, e7, Option.bind_some, h8]; rfl
                    have e9 : t9 = none := by rw [HS9.out.1, e8]; rfl
                    exact .inl ⟨e9, by simp [takeSig, takeShort, h1, h2, h3, h4, h5, h6, h7, h8]⟩
                  | some x =>
                    obtain ⟨y, r8⟩ := x
                    have e8 : t8 = some r8 := by rw [HS8.out.1, e7, Option.bind_some, h8]; rfl
                    obtain rfl : a8 = y := HS8.out.2 _ (by rw [e7, Option.bind_some, h8])
                    cases h9 : takeRest r8 with
                    | none =>
                      have e9 : t9 = none := by rw [HS9.out.1, e8, Option.bind_some, h9]; rfl
                      exact .inl ⟨e9, by simp [takeSig, takeShort, h1, h2, h3, h4, h5, h6, h7, h8, h9]⟩
                    | some x =>
                      obtain ⟨y, r9⟩ := x
                      have e9 : t9 = some r9 := by rw [HS9.out.1, e8, Option.bind_some, h9]; rfl
                      obtain rfl : a9 = y := HS9.out.2 _ (by rw [e8, Option.bind_some, h9])
                      have hz : r9.size = 0 := rest_nil h9
                      exact .inr ⟨r9, e9, hz, by simp [takeSig, takeShort, h1, h2, h3, h4, h5, h6, h7, h8, h9]⟩
  have HSP := Lib.hid hsp; clear hsp
  obtain ⟨r, bad, hb, hrs, he⟩ := hR
  have cb1 : w9.cell? ⟨w.heap.size + 1, 1, none⟩ = some (.bool bad) := by simp [World.cell?, hb]
  have HB := Lib.hid hb; clear hb
  have HE := Lib.hid he; clear he
  clear HS1 HS2 HS3 HS4 HS5 HS6 HS7 HS8 HS9
  cases bad with
  | true =>
    have hq : P = none := by
      rw [HP.out]
      rcases HSP.out with ⟨_, h⟩ | ⟨r', h, _⟩
      · rw [h]; unfold wholeOf; split <;> rfl
      · rw [HE.out] at h; cases h
    have HQ := Lib.hid hq; clear hq
    obtain ⟨V, hV⟩ : ∃ V, V = ((((((((((w9).setCell ⟨X, 8, none⟩ (.string a9)).setCell ⟨w.heap.size, 0, none⟩ (.int .i64 0)).setCell ⟨w.heap.size, 1, none⟩ (.int .i64 0)).setCell ⟨w.heap.size, 2, none⟩ (.int .i64 0)).setCell ⟨w.heap.size, 3, none⟩ (.int .i64 0)).setCell ⟨w.heap.size, 4, none⟩ (.int .i64 0)).setCell ⟨w.heap.size, 5, none⟩ (.int .i64 0)).setCell ⟨w.heap.size, 6, none⟩ (.int .i64 0)).setCell ⟨w.heap.size, 7, none⟩ (.string ⟨#[]⟩)).setCell ⟨w.heap.size, 8, none⟩ (.string ⟨#[]⟩) := ⟨_, rfl⟩
    have kF : RSt w 36 #[.int .i64 0, .int .i64 0, .int .i64 0, .int .i64 0, .int .i64 0, .int .i64 0, .int .i64 0, .string ⟨#[]⟩, .string ⟨#[]⟩] V := by rw [hV]; have h := (((((((((k.set 0 (.int .i64 0)).set 1 (.int .i64 0)).set 2 (.int .i64 0)).set 3 (.int .i64 0)).set 4 (.int .i64 0)).set 5 (.int .i64 0)).set 6 (.int .i64 0)).set 7 (.string ⟨#[]⟩)).set 8 (.string ⟨#[]⟩)); simpa using h
    have HK := Lib.hid kF; clear kF k
    clear kx kx'
    go_wp2_with fail
    rw [← hV]
    clear hV cA fA cX fX cb1
    have cF := HK.out.cells
    refine bodyPost_ret (v := .tuple #[.agg #[.int .i64 0, .int .i64 0, .int .i64 0, .int .i64 0, .int .i64 0, .int .i64 0, .int .i64 0, .string ⟨#[]⟩, .string ⟨#[]⟩], .bool false]) (by simp [results, Tryz.results18, go_sem, cF]) rfl ?_
    rw [HQ.out]
    exact ⟨rfl, HK.out.2⟩
  | false =>
    rcases HSP.out with ⟨h, _⟩ | ⟨_, h, hr0, hsp⟩
    · rw [HE.out] at h; cases h
    rw [HE.out] at h
    obtain rfl := Option.some.inj h
    clear h
    have HS := Lib.hid hsp; clear hsp
    by_cases h2 : s.size ≤ 2000
    · have b2 : (s.size : Int) ≤ 2000 := by omega
      have hq : P = some ⟨a1, a2, a3, a4, a5, a6, a7, a8, a9⟩ := by rw [HP.out, HS.out, wholeOf, if_pos h2]; exact if_pos hr0
      have HQ := Lib.hid hq; clear hq hr0
      obtain ⟨V, hV⟩ : ∃ V, V = ((((((((((w9).setCell ⟨X, 8, none⟩ (.string a9)).setCell ⟨w.heap.size, 0, none⟩ (.int .i64 (a1 : Int))).setCell ⟨w.heap.size, 1, none⟩ (.int .i64 (a2 : Int))).setCell ⟨w.heap.size, 2, none⟩ (.int .i64 (a3 : Int))).setCell ⟨w.heap.size, 3, none⟩ (.int .i64 (a4 : Int))).setCell ⟨w.heap.size, 4, none⟩ (.int .i64 (a5 : Int))).setCell ⟨w.heap.size, 5, none⟩ (.int .i64 (a6 : Int))).setCell ⟨w.heap.size, 6, none⟩ (.int .i64 (a7 : Int))).setCell ⟨w.heap.size, 7, none⟩ (.string a8)).setCell ⟨w.heap.size, 8, none⟩ (.string a9) := ⟨_, rfl⟩
      have kF : RSt w 36 #[.int .i64 (a1 : Int), .int .i64 (a2 : Int), .int .i64 (a3 : Int), .int .i64 (a4 : Int), .int .i64 (a5 : Int), .int .i64 (a6 : Int), .int .i64 (a7 : Int), .string a8, .string a9] V := by rw [hV]; have h := (((((((((k.set 0 (.int .i64 (a1 : Int))).set 1 (.int .i64 (a2 : Int))).set 2 (.int .i64 (a3 : Int))).set 3 (.int .i64 (a4 : Int))).set 4 (.int .i64 (a5 : Int))).set 5 (.int .i64 (a6 : Int))).set 6 (.int .i64 (a7 : Int))).set 7 (.string a8)).set 8 (.string a9)); simpa using h
      have HK := Lib.hid kF; clear kF k
      clear kx kx'
      go_wp2_with fail
      rw [← hV]
      clear hV cA fA cX fX cb1
      have cF := HK.out.cells
      refine bodyPost_ret (v := .tuple #[.agg #[.int .i64 (a1 : Int), .int .i64 (a2 : Int), .int .i64 (a3 : Int), .int .i64 (a4 : Int), .int .i64 (a5 : Int), .int .i64 (a6 : Int), .int .i64 (a7 : Int), .string a8, .string a9], .bool true]) (by simp [results, Tryz.results18, go_sem, cF]) rfl ?_
      rw [HQ.out]
      exact ⟨⟨_, rfl, rfl⟩, HK.out.2⟩
    · have b2 : (2000 : Int) < (s.size : Int) := by omega
      have hq : P = none := by rw [HP.out]; unfold wholeOf; exact if_neg h2
      have HQ := Lib.hid hq; clear hq hr0
      obtain ⟨V, hV⟩ : ∃ V, V = ((((((((((w9).setCell ⟨X, 8, none⟩ (.string a9)).setCell ⟨w.heap.size, 0, none⟩ (.int .i64 0)).setCell ⟨w.heap.size, 1, none⟩ (.int .i64 0)).setCell ⟨w.heap.size, 2, none⟩ (.int .i64 0)).setCell ⟨w.heap.size, 3, none⟩ (.int .i64 0)).setCell ⟨w.heap.size, 4, none⟩ (.int .i64 0)).setCell ⟨w.heap.size, 5, none⟩ (.int .i64 0)).setCell ⟨w.heap.size, 6, none⟩ (.int .i64 0)).setCell ⟨w.heap.size, 7, none⟩ (.string ⟨#[]⟩)).setCell ⟨w.heap.size, 8, none⟩ (.string ⟨#[]⟩) := ⟨_, rfl⟩
      have kF : RSt w 36 #[.int .i64 0, .int .i64 0, .int .i64 0, .int .i64 0, .int .i64 0, .int .i64 0, .int .i64 0, .string ⟨#[]⟩, .string ⟨#[]⟩] V := by rw [hV]; have h := (((((((((k.set 0 (.int .i64 0)).set 1 (.int .i64 0)).set 2 (.int .i64 0)).set 3 (.int .i64 0)).set 4 (.int .i64 0)).set 5 (.int .i64 0)).set 6 (.int .i64 0)).set 7 (.string ⟨#[]⟩)).set 8 (.string ⟨#[]⟩)); simpa using h
      have HK := Lib.hid kF; clear kF k
      clear kx kx'
      go_wp2_with fail
      rw [← hV]
      clear hV cA fA cX fX cb1
      have cF := HK.out.cells
      refine bodyPost_ret (v := .tuple #[.agg #[.int .i64 0, .int .i64 0, .int .i64 0, .int .i64 0, .int .i64 0, .int .i64 0, .int .i64 0, .string ⟨#[]⟩, .string ⟨#[]⟩], .bool false]) (by simp [results, Tryz.results18, go_sem, cF]) rfl ?_
      rw [HQ.out]
      exact ⟨rfl, HK.out.2⟩

set_option maxRecDepth 100000 in
set_option maxHeartbeats 8000000 in
theorem ref_soa (s : ByteArray) (w : World) (hs : s.size ≤ 1073741824) : Calls Tryz.prog 16 #[.string s] w (RefPostR (soaR) (.agg #[.string ⟨#[]⟩, .string ⟨#[]⟩, .int .i64 0, .int .i64 0, .int .i64 0, .int .i64 0, .int .i64 0]) w (wholeOf s (takeSoa s))) := by
  obtain ⟨P, hP⟩ : ∃ P, P = wholeOf s (takeSoa s) := ⟨_, rfl⟩
  rw [← hP]
  have HP := Lib.hid hP; clear hP
  obtain ⟨W0, hW0⟩ : ∃ W, W = (w.alloc (.cells #[.string ⟨#[]⟩, .string ⟨#[]⟩, .int .i64 0, .int .i64 0, .int .i64 0, .int .i64 0, .int .i64 0] 30)).alloc (.cells #[.string s, .bool false] 111) := ⟨_, rfl⟩
  have k : RSt w 30 #[.string ⟨#[]⟩, .string ⟨#[]⟩, .int .i64 0, .int .i64 0, .int .i64 0, .int .i64 0, .int .i64 0] W0 := by rw [hW0]; exact RSt.start w _ _ _
  have hR : Rdr (w.heap.size + 1) W0 (some s) := by
    rw [hW0]; refine ⟨s, false, ?_, hs, rfl⟩
    have := World.alloc_heap_new (w.alloc (.cells #[.string ⟨#[]⟩, .string ⟨#[]⟩, .int .i64 0, .int .i64 0, .int .i64 0, .int .i64 0, .int .i64 0] 30)) (.cells #[.string s, .bool false] 111)
    rwa [World.size_alloc] at this
  go_enter Tryz.func16, Tryz.ntmps16
  have C := Lib.hid (rdName (w.heap.size + 1) (some s) W0 hR); clear hR
  go_wp2_with fail
  rw [← hW0]
  clear hW0
  refine C.out.mono ?_
  rintro e w1 ⟨a1, rfl, -, hR, hv, hg⟩
  clear C
  obtain ⟨t1, ht⟩ : ∃ t, t = ((some s).bind (takeName)).map (·.2) := ⟨_, rfl⟩
  rw [← ht] at hR
  have HS1 := Lib.hid (And.intro ht hv); clear ht hv
  replace k := k.next hg
  clear hg
  have C := Lib.hid (rdName (w.heap.size + 1) t1 w1 hR); clear hR
  go_wp2_with fail
  refine C.out.mono ?_
  rintro e w2 ⟨a2, rfl, -, hR, hv, hg⟩
  clear C
  obtain ⟨t2, ht⟩ : ∃ t, t = (t1.bind (takeName)).map (·.2) := ⟨_, rfl⟩
  rw [← ht] at hR
  have HS2 := Lib.hid (And.intro ht hv); clear ht hv
  replace k := k.next hg
  clear hg
  obtain ⟨X, hX⟩ : ∃ X, X = w2.heap.size := ⟨_, rfl⟩
  obtain ⟨V, hV⟩ : ∃ V, V = w2.alloc (.cells #[.string a1, .string a2, .int .i64 0, .int .i64 0, .int .i64 0, .int .i64 0, .int .i64 0] 30) := ⟨_, rfl⟩
  have hXB : w.heap.size + 1 < X := by have := hR.lt; omega
  have kx : V.heap[X]? = some (.cells #[.string a1, .string a2, .int .i64 0, .int .i64 0, .int .i64 0, .int .i64 0, .int .i64 0] 30 (0, 0)) := by rw [hV, hX]; exact World.alloc_heap_new _ _
  replace hR := hR.alloc (.cells #[.string a1, .string a2, .int .i64 0, .int .i64 0, .int .i64 0, .int .i64 0, .int .i64 0] 30)
  replace k := k.alloc (.cells #[.string a1, .string a2, .int .i64 0, .int .i64 0, .int .i64 0, .int .i64 0, .int .i64 0] 30)
  rw [← hV] at hR k
  have C := Lib.hid (rdNum (w.heap.size + 1) 4 t2 V hR (by decide)); clear hR
  go_wp2_with fail
  rw [← hV, ← hX]
  clear hV hX
  refine C.out.mono ?_
  rintro e w3 ⟨a3, rfl, -, hR, hv, hg⟩
  clear C
  obtain ⟨t3, ht⟩ : ∃ t, t = (t2.bind (takeNum 4)).map (·.2) := ⟨_, rfl⟩
  rw [← ht] at hR
  have HS3 := Lib.hid (And.intro ht hv); clear ht hv
  replace k := k.next hg
  replace kx := grown_keep hg kx (by omega)
  clear hg
  obtain ⟨cX, fX⟩ := heap_cells kx
  obtain ⟨V, hV⟩ : ∃ V, V = w3.setCell ⟨X, 2, none⟩ (.int .i64 (a3 : Int)) := ⟨_, rfl⟩
  have kx' : V.heap[X]? = some (.cells #[.string a1, .string a2, .int .i64 (a3 : Int), .int .i64 0, .int .i64 0, .int .i64 0, .int .i64 0] 30 (0, 0)) := by rw [hV]; have h := heap_set kx 2 (.int .i64 (a3 : Int)); simpa using h
  replace hR := hR.setX (X := X) (by omega) 2 (.int .i64 (a3 : Int))
  replace k := k.setX (X := X) (by omega) 2 (.int .i64 (a3 : Int))
  rw [← hV] at hR k
  have C := Lib.hid (rdNum (w.heap.size + 1) 4 t3 V hR (by decide)); clear hR
  go_wp2_with fail
  rw [← hV]
  clear hV cX fX kx
  have kx := kx'; clear kx'
  refine C.out.mono ?_
  rintro e w4 ⟨a4, rfl, -, hR, hv, hg⟩
  clear C
  obtain ⟨t4, ht⟩ : ∃ t, t = (t3.bind (takeNum 4)).map (·.2) := ⟨_, rfl⟩
  rw [← ht] at hR
  have HS4 := Lib.hid (And.intro ht hv); clear ht hv
  replace k := k.next hg
  replace kx := grown_keep hg kx (by omega)
  clear hg
  obtain ⟨cX, fX⟩ := heap_cells kx
  obtain ⟨V, hV⟩ : ∃ V, V = w4.setCell ⟨X, 3, none⟩ (.int .i64 (a4 : Int)) := ⟨_, rfl⟩
  have kx' : V.heap[X]? = some (.cells #[.string a1, .string a2, .int .i64 (a3 : Int), .int .i64 (a4 : Int), .int .i64 0, .int .i64 0, .int .i64 0] 30 (0, 0)) := by rw [hV]; have h := heap_set kx 3 (.int .i64 (a4 : Int)); simpa using h
  replace hR := hR.setX (X := X) (by omega) 3 (.int .i64 (a4 : Int))
  replace k := k.setX (X := X) (by omega) 3 (.int .i64 (a4 : Int))
  rw [← hV] at hR k
  have C := Lib.hid (rdNum (w.heap.size + 1) 4 t4 V hR (by decide)); clear hR
  go_wp2_with fail
  rw [← hV]
  clear hV cX fX kx
  have kx := kx'; clear kx'
  refine C.out.mono ?_
  rintro e w5 ⟨a5, rfl, -, hR, hv, hg⟩
  clear C
  obtain ⟨t5, ht⟩ : ∃ t, t = (t4.bind (takeNum 4)).map (·.2) := ⟨_, rfl⟩
  rw [← ht] at hR
  have HS5 := Lib.hid (And.intro ht hv); clear ht hv
  replace k := k.next hg
  replace kx := grown_keep hg kx (by omega)
  clear hg
  obtain ⟨cX, fX⟩ := heap_cells kx
  obtain ⟨V, hV⟩ : ∃ V, V = w5.setCell ⟨X, 4, none⟩ (.int .i64 (a5 : Int)) := ⟨_, rfl⟩
  have kx' : V.heap[X]? = some (.cells #[.string a1, .string a2, .int .i64 (a3 : Int), .int .i64 (a4 : Int), .int .i64 (a5 : Int), .int .i64 0, .int .i64 0] 30 (0, 0)) := by rw [hV]; have h := heap_set kx 4 (.int .i64 (a5 : Int)); simpa using h
  replace hR := hR.setX (X := X) (by omega) 4 (.int .i64 (a5 : Int))
  replace k := k.setX (X := X) (by omega) 4 (.int .i64 (a5 : Int))
  rw [← hV] at hR k
  have C := Lib.hid (rdNum (w.heap.size + 1) 4 t5 V hR (by decide)); clear hR
  go_wp2_with fail
  rw [← hV]
  clear hV cX fX kx
  have kx := kx'; clear kx'
  refine C.out.mono ?_
  rintro e w6 ⟨a6, rfl, -, hR, hv, hg⟩
  clear C
  obtain ⟨t6, ht⟩ : ∃ t, t = (t5.bind (takeNum 4)).map (·.2) := ⟨_, rfl⟩
  rw [← ht] at hR
  have HS6 := Lib.hid (And.intro ht hv); clear ht hv
  replace k := k.next hg
  replace kx := grown_keep hg kx (by omega)
  clear hg
  obtain ⟨cX, fX⟩ := heap_cells kx
  obtain ⟨V, hV⟩ : ∃ V, V = w6.setCell ⟨X, 5, none⟩ (.int .i64 (a6 : Int)) := ⟨_, rfl⟩
  have kx' : V.heap[X]? = some (.cells #[.string a1, .string a2, .int .i64 (a3 : Int), .int .i64 (a4 : Int), .int .i64 (a5 : Int), .int .i64 (a6 : Int), .int .i64 0] 30 (0, 0)) := by rw [hV]; have h := heap_set kx 5 (.int .i64 (a6 : Int)); simpa using h
  replace hR := hR.setX (X := X) (by omega) 5 (.int .i64 (a6 : Int))
  replace k := k.setX (X := X) (by omega) 5 (.int .i64 (a6 : Int))
  rw [← hV] at hR k
  have C := Lib.hid (rdNum (w.heap.size + 1) 4 t6 V hR (by decide)); clear hR
  go_wp2_with fail
  rw [← hV]
  clear hV cX fX kx
  have kx := kx'; clear kx'
  refine C.out.mono ?_
  rintro e w7 ⟨a7, rfl, -, hR, hv, hg⟩
  clear C
  obtain ⟨t7, ht⟩ : ∃ t, t = (t6.bind (takeNum 4)).map (·.2) := ⟨_, rfl⟩
  rw [← ht] at hR
  have HS7 := Lib.hid (And.intro ht hv); clear ht hv
  replace k := k.next hg
  replace kx := grown_keep hg kx (by omega)
  clear hg
  obtain ⟨cX, fX⟩ := heap_cells kx
  have hX1 : X ≠ w.heap.size + 1 := by omega
  have hX2 : X ≠ w.heap.size := by omega
  have kx' : ((w7).setCell ⟨X, 6, none⟩ (.int .i64 (a7 : Int))).heap[X]? = some (.cells #[.string a1, .string a2, .int .i64 (a3 : Int), .int .i64 (a4 : Int), .int .i64 (a5 : Int), .int .i64 (a6 : Int), .int .i64 (a7 : Int)] 30 (0, 0)) := by have h := heap_set kx 6 (.int .i64 (a7 : Int)); simpa using h
  have cA := k.cells
  have fA := k.frozen
  replace k := k.setX (X := X) (by omega) 6 (.int .i64 (a7 : Int))
  have hsp : (t7 = none ∧ takeSoa s = none) ∨ (∃ r, t7 = some r ∧ takeSoa s = some (⟨a1, a2, a3, a4, a5, a6, a7⟩, r)) := by
    cases h1 : takeName s with
    | none =>
      have e1 : t1 = none := by rw [HS1.out.1, Option.bind_some, h1]; rfl
      have e2 : t2 = none := by rw [HS2.out.1, e1]; rfl
      have e3 : t3 = none := by rw [HS3.out.1, e2]; rfl
      have e4 : t4 = none := by rw [HS4.out.1, e3]; rfl
      have e5 : t5 = none := by rw [HS5.out.1, e4]; rfl
      have e6 : t6 = none := by rw [HS6.out.1, e5]; rfl
      have e7 : t7 = none := by rw [HS7.out.1, e6]; rfl
      exact .inl ⟨e7, by simp [takeSoa, takeShort, h1]⟩
    | some x =>
      obtain ⟨y, r1⟩ := x
      have e1 : t1 = some r1 := by rw [HS1.out.1, Option.bind_some, h1]; rfl
      obtain rfl : a1 = y := HS1.out.2 _ (by rw [Option.bind_some, h1])
      cases h2 : takeName r1 with
      | none =>
        have e2 : t2 = none := by rw [HS2.out.1, e1, Option.bind_some, h2]; rfl
        have e3 : t3 = none := by rw [HS3.out.1, e2]; rfl
        have e4 : t4 = none := by rw [HS4.out.1, e3]; rfl
        have e5 : t5 = none := by rw [HS5.out.1, e4]; rfl
        have e6 : t6 = none := by rw [HS6.out.1, e5]; rfl
        have e7 : t7 = none := by rw [HS7.out.1, e6]; rfl
        exact .inl ⟨e7, by simp [takeSoa, takeShort, h1, h2]⟩
      | some x =>
        obtain ⟨y, r2⟩ := x
        have e2 : t2 = some r2 := by rw [HS2.out.1, e1, Option.bind_some, h2]; rfl
        obtain rfl : a2 = y := HS2.out.2 _ (by rw [e1, Option.bind_some, h2])
        cases h3 : takeNum 4 r2 with
        | none =>
          have e3 : t3 = none := by rw [HS3.out.1, e2, Option.bind_some, h3]; rfl
          have e4 : t4 = none := by rw [HS4.out.1, e3]; rfl
          have e5 : t5 = none := by rw [HS5.out.1, e4]; rfl
          have e6 : t6 = none := by rw [HS6.out.1, e5]; rfl
          have e7 : t7 = none := by rw [HS7.out.1, e6]; rfl
          exact .inl ⟨e7, by simp [takeSoa, takeShort, h1, h2, h3]⟩
        | some x =>
          obtain ⟨y, r3⟩ := x
          have e3 : t3 = some r3 := by rw [HS3.out.1, e2, Option.bind_some, h3]; rfl
          obtain rfl : a3 = y := HS3.out.2 _ (by rw [e2, Option.bind_some, h3])
          cases h4 : takeNum 4 r3 with
          | none =>
            have e4 : t4 = none := by rw [HS4.out.1, e3, Option.bind_some, h4]; rfl
            have e5 : t5 = none := by rw [HS5.out.1, e4]; rfl
            have e6 : t6 = none := by rw [HS6.out.1, e5]; rfl
            have e7 : t7 = none := by rw [HS7.out.1, e6]; rfl
            exact .inl ⟨e7, by simp [takeSoa, takeShort, h1, h2, h3, h4]⟩
          | some x =>
            obtain ⟨y, r4⟩ := x
            have e4 : t4 = some r4 := by rw [HS4.out.1, e3, Option.bind_some, h4]; rfl
            obtain rfl : a4 = y := HS4.out.2 _ (by rw [e3, Option.bind_some, h4])
            cases h5 : takeNum 4 r4 with
            | none =>
              have e5 : t5 = none := by rw [HS5.out.1, e4, Option.bind_some, h5]; rfl
              have e6 : t6 = none := by rw [HS6.out.1, e5]; rfl
              have e7 : t7 = none := by rw [HS7.out.1, e6]; rfl
              exact .inl ⟨e7, by simp [takeSoa, takeShort, h1, h2, h3, h4, h5]⟩
            | some x =>
              obtain ⟨y, r5⟩ := x
              have e5 : t5 = some r5 := by rw [HS5.out.1, e4, Option.bind_some, h5]; rfl
              obtain rfl : a5 = y := HS5.out.2 _ (by rw [e4, Option.bind_some, h5])
              cases h6 : takeNum 4 r5 with
              | none =>
                have e6 : t6 = none := by rw [HS6.out.1, e5, Option.bind_some, h6]; rfl
                have e7 : t7 = none := by rw [HS7.out.1, e6]; rfl
                exact .inl ⟨e7, by simp [takeSoa, takeShort, h1, h2, h3, h4, h5, h6]⟩
              | some x =>
                obtain ⟨y, r6⟩ := x
                have e6 : t6 = some r6 := by rw [HS6.out.1, e5, Option.bind_some, h6]; rfl
                obtain rfl : a6 = y := HS6.out.2 _ (by rw [e5, Option.bind_some, h6])
                cases h7 : takeNum 4 r6 with
                | none =>
                  have e7 : t7 = none := by rw [HS7.out.1, e6, Option.bind_some, h7]; rfl
                  exact .inl ⟨e7, by simp [takeSoa, takeShort, h1, h2, h3, h4, h5, h6, h7]⟩
                | some x =>
                  obtain ⟨y, r7⟩ := x
                  have e7 : t7 = some r7 := by rw [HS7.out.1, e6, Option.bind_some, h7]; rfl
                  obtain rfl : a7 = y := HS7.out.2 _ (by rw [e6, Option.bind_some, h7])
                  exact .inr ⟨r7, e7, by simp [takeSoa, takeShort, h1, h2, h3, h4, h5, h6, h7]⟩
  have HSP := Lib.hid hsp; clear hsp
  obtain ⟨r, bad, hb, hrs, he⟩ := hR
  have cb1 : w7.cell? ⟨w.heap.size + 1, 1, none⟩ = some (.bool bad) := by simp [World.cell?, hb]
  have cb0 : w7.cell? ⟨w.heap.size + 1, 0, none⟩ = some (.string r) := by simp [World.cell?, hb]
  have HB := Lib.hid hb; clear hb
  have HE := Lib.hid he; clear he
  clear HS1 HS2 HS3 HS4 HS5 HS6 HS7
  cases bad with
  | true =>
    have hq : P = none := by
      rw [HP.out]
      rcases HSP.out with ⟨_, h⟩ | ⟨r', h, _⟩
      · rw [h]; unfold wholeOf; split <;> rfl
      · rw [HE.out] at h; cases h
    have HQ := Lib.hid hq; clear hq
    obtain ⟨V, hV⟩ : ∃ V, V = ((((((((w7).setCell ⟨X, 6, none⟩ (.int .i64 (a7 : Int))).setCell ⟨w.heap.size, 0, none⟩ (.string ⟨#[]⟩)).setCell ⟨w.heap.size, 1, none⟩ (.string ⟨#[]⟩)).setCell ⟨w.heap.size, 2, none⟩ (.int .i64 0)).setCell ⟨w.heap.size, 3, none⟩ (.int .i64 0)).setCell ⟨w.heap.size, 4, none⟩ (.int .i64 0)).setCell ⟨w.heap.size, 5, none⟩ (.int .i64 0)).setCell ⟨w.heap.size, 6, none⟩ (.int .i64 0) := ⟨_, rfl⟩
    have kF : RSt w 30 #[.string ⟨#[]⟩, .string ⟨#[]⟩, .int .i64 0, .int .i64 0, .int .i64 0, .int .i64 0, .int .i64 0] V := by rw [hV]; have h := (((((((k.set 0 (.string ⟨#[]⟩)).set 1 (.string ⟨#[]⟩)).set 2 (.int .i64 0)).set 3 (.int .i64 0)).set 4 (.int .i64 0)).set 5 (.int .i64 0)).set 6 (.int .i64 0)); simpa using h
    have HK := Lib.hid kF; clear kF k
    clear kx kx'
    go_wp2_with fail
    rw [← hV]
    clear hV cA fA cX fX cb1
    have cF := HK.out.cells
    refine bodyPost_ret (v := .tuple #[.agg #[.string ⟨#[]⟩, .string ⟨#[]⟩, .int .i64 0, .int .i64 0, .int .i64 0, .int .i64 0, .int .i64 0], .bool false]) (by simp [results, Tryz.results16, go_sem, cF]) rfl ?_
    rw [HQ.out]
    exact ⟨rfl, HK.out.2⟩
  | false =>
    rcases HSP.out with ⟨h, _⟩ | ⟨_, h, hsp⟩
    · rw [HE.out] at h; cases h
    rw [HE.out] at h
    obtain rfl := Option.some.inj h
    clear h
    have HS := Lib.hid hsp; clear hsp
    by_cases hr0 : ¬ r.size = 0
    · have ce := empty_not r hr0
      have hq : P = none := by rw [HP.out, HS.out]; exact wholeOf_rest hr0
      have HQ := Lib.hid hq; clear hq hr0
      obtain ⟨V, hV⟩ : ∃ V, V = ((((((((w7).setCell ⟨X, 6, none⟩ (.int .i64 (a7 : Int))).setCell ⟨w.heap.size, 0, none⟩ (.string ⟨#[]⟩)).setCell ⟨w.heap.size, 1, none⟩ (.string ⟨#[]⟩)).setCell ⟨w.heap.size, 2, none⟩ (.int .i64 0)).setCell ⟨w.heap.size, 3, none⟩ (.int .i64 0)).setCell ⟨w.heap.size, 4, none⟩ (.int .i64 0)).setCell ⟨w.heap.size, 5, none⟩ (.int .i64 0)).setCell ⟨w.heap.size, 6, none⟩ (.int .i64 0) := ⟨_, rfl⟩
      have kF : RSt w 30 #[.string ⟨#[]⟩, .string ⟨#[]⟩, .int .i64 0, .int .i64 0, .int .i64 0, .int .i64 0, .int .i64 0] V := by rw [hV]; have h := (((((((k.set 0 (.string ⟨#[]⟩)).set 1 (.string ⟨#[]⟩)).set 2 (.int .i64 0)).set 3 (.int .i64 0)).set 4 (.int .i64 0)).set 5 (.int .i64 0)).set 6 (.int .i64 0)); simpa using h
      have HK := Lib.hid kF; clear kF k
      clear kx kx'
      go_wp2_with fail
      rw [← hV]
      clear hV cA fA cX fX cb1
      have cF := HK.out.cells
      refine bodyPost_ret (v := .tuple #[.agg #[.string ⟨#[]⟩, .string ⟨#[]⟩, .int .i64 0, .int .i64 0, .int .i64 0, .int .i64 0, .int .i64 0], .bool false]) (by simp [results, Tryz.results16, go_sem, cF]) rfl ?_
      rw [HQ.out]
      exact ⟨rfl, HK.out.2⟩
    replace hr0 := Classical.not_not.1 hr0
    have ce := empty_of r hr0
    by_cases h2 : s.size ≤ 2000
    · have b2 : (s.size : Int) ≤ 2000 := by omega
      have hq : P = some ⟨a1, a2, a3, a4, a5, a6, a7⟩ := by rw [HP.out, HS.out, wholeOf, if_pos h2]; exact if_pos hr0
      have HQ := Lib.hid hq; clear hq hr0
      obtain ⟨V, hV⟩ : ∃ V, V = ((((((((w7).setCell ⟨X, 6, none⟩ (.int .i64 (a7 : Int))).setCell ⟨w.heap.size, 0, none⟩ (.string a1)).setCell ⟨w.heap.size, 1, none⟩ (.string a2)).setCell ⟨w.heap.size, 2, none⟩ (.int .i64 (a3 : Int))).setCell ⟨w.heap.size, 3, none⟩ (.int .i64 (a4 : Int))).setCell ⟨w.heap.size, 4, none⟩ (.int .i64 (a5 : Int))).setCell ⟨w.heap.size, 5, none⟩ (.int .i64 (a6 : Int))).setCell ⟨w.heap.size, 6, none⟩ (.int .i64 (a7 : Int)) := ⟨_, rfl⟩
      have kF : RSt w 30 #[.string a1, .string a2, .int .i64 (a3 : Int), .int .i64 (a4 : Int), .int .i64 (a5 : Int), .int .i64 (a6 : Int), .int .i64 (a7 : Int)] V := by rw [hV]; have h := (((((((k.set 0 (.string a1)).set 1 (.string a2)).set 2 (.int .i64 (a3 : Int))).set 3 (.int .i64 (a4 : Int))).set 4 (.int .i64 (a5 : Int))).set 5 (.int .i64 (a6 : Int))).set 6 (.int .i64 (a7 : Int))); simpa using h
      have HK := Lib.hid kF; clear kF k
      clear kx kx'
      go_wp2_with fail
      rw [← hV]
      clear hV cA fA cX fX cb1
      have cF := HK.out.cells
      refine bodyPost_ret (v := .tuple #[.agg #[.string a1, .string a2, .int .i64 (a3 : Int), .int .i64 (a4 : Int), .int .i64 (a5 : Int), .int .i64 (a6 : Int), .int .i64 (a7 : Int)], .bool true]) (by simp [results, Tryz.results16, go_sem, cF]) rfl ?_
      rw [HQ.out]
      exact ⟨⟨_, rfl, rfl⟩, HK.out.2⟩
    · have b2 : (2000 : Int) < (s.size : Int) := by omega
      have hq : P = none := by rw [HP.out]; unfold wholeOf; exact if_neg h2
      have HQ := Lib.hid hq; clear hq hr0
      obtain ⟨V, hV⟩ : ∃ V, V = ((((((((w7).setCell ⟨X, 6, none⟩ (.int .i64 (a7 : Int))).setCell ⟨w.heap.size, 0, none⟩ (.string ⟨#[]⟩)).setCell ⟨w.heap.size, 1, none⟩ (.string ⟨#[]⟩)).setCell ⟨w.heap.size, 2, none⟩ (.int .i64 0)).setCell ⟨w.heap.size, 3, none⟩ (.int .i64 0)).setCell ⟨w.heap.size, 4, none⟩ (.int .i64 0)).setCell ⟨w.heap.size, 5, none⟩ (.int .i64 0)).setCell ⟨w.heap.size, 6, none⟩ (.int .i64 0) := ⟨_, rfl⟩
      have kF : RSt w 30 #[.string ⟨#[]⟩, .string ⟨#[]⟩, .int .i64 0, .int .i64 0, .int .i64 0, .int .i64 0, .int .i64 0] V := by rw [hV]; have h := (((((((k.set 0 (.string ⟨#[]⟩)).set 1 (.string ⟨#[]⟩)).set 2 (.int .i64 0)).set 3 (.int .i64 0)).set 4 (.int .i64 0)).set 5 (.int .i64 0)).set 6 (.int .i64 0)); simpa using h
      have HK := Lib.hid kF; clear kF k
      clear kx kx'
      go_wp2_with fail
      rw [← hV]
      clear hV cA fA cX fX cb1
      have cF := HK.out.cells
      refine bodyPost_ret (v := .tuple #[.agg #[.string ⟨#[]⟩, .string ⟨#[]⟩, .int .i64 0, .int .i64 0, .int .i64 0, .int .i64 0, .int .i64 0], .bool false]) (by simp [results, Tryz.results16, go_sem, cF]) rfl ?_
      rw [HQ.out]
      exact ⟨rfl, HK.out.2⟩

set_option maxRecDepth 100000 in
set_option maxHeartbeats 8000000 in
theorem ref_nsec (s : ByteArray) (w : World) (hs : s.size ≤ 1073741824) : Calls Tryz.prog 24 #[.string s] w (RefPostR (nsecR) (.agg #[.string ⟨#[]⟩, .slice none 0 0]) w (wholeOf s (takeNsec s))) := by
  obtain ⟨P, hP⟩ : ∃ P, P = wholeOf s (takeNsec s) := ⟨_, rfl⟩
  rw [← hP]
  have HP := Lib.hid hP; clear hP
  obtain ⟨W0, hW0⟩ : ∃ W, W = (w.alloc (.cells #[.string ⟨#[]⟩, .slice none 0 0] 55)).alloc (.cells #[.string s, .bool false] 111) := ⟨_, rfl⟩
  have k : RSt w 55 #[.string ⟨#[]⟩, .slice none 0 0] W0 := by rw [hW0]; exact RSt.start w _ _ _
  have hR : Rdr (w.heap.size + 1) W0 (some s) := by
    rw [hW0]; refine ⟨s, false, ?_, hs, rfl⟩
    have := World.alloc_heap_new (w.alloc (.cells #[.string ⟨#[]⟩, .slice none 0 0] 55)) (.cells #[.string s, .bool false] 111)
    rwa [World.size_alloc] at this
  go_enter Tryz.func24, Tryz.ntmps24
  have C := Lib.hid (rdName (w.heap.size + 1) (some s) W0 hR); clear hR
  go_wp2_with fail
  rw [← hW0]
  clear hW0
  refine C.out.mono ?_
  rintro e w1 ⟨a1, rfl, -, hR, hv, hg⟩
  clear C
  obtain ⟨t1, ht⟩ : ∃ t, t = ((some s).bind (takeName)).map (·.2) := ⟨_, rfl⟩
  rw [← ht] at hR
  have HS1 := Lib.hid (And.intro ht hv); clear ht hv
  replace k := k.next hg
  clear hg
  obtain ⟨X, hX⟩ : ∃ X, X = w1.heap.size := ⟨_, rfl⟩
  obtain ⟨V, hV⟩ : ∃ V, V = w1.alloc (.cells #[.string a1, .slice none 0 0] 55) := ⟨_, rfl⟩
  have hXB : w.heap.size + 1 < X := by have := hR.lt; omega
  have kx : V.heap[X]? = some (.cells #[.string a1, .slice none 0 0] 55 (0, 0)) := by rw [hV, hX]; exact World.alloc_heap_new _ _
  replace hR := hR.alloc (.cells #[.string a1, .slice none 0 0] 55)
  replace k := k.alloc (.cells #[.string a1, .slice none 0 0] 55)
  rw [← hV] at hR k
  have C := Lib.hid (rdTypes (w.heap.size + 1) t1 V hR); clear hR
  go_wp2_with fail
  rw [← hV, ← hX]
  clear hV hX
  refine C.out.mono ?_
  rintro e w2 ⟨a2, v, rfl, ho, hR, hv, hg⟩
  obtain ⟨A', c', rfl⟩ := own_slice ho
  have HO := Lib.hid (own_mono ho k.2.size); clear ho
  clear C
  obtain ⟨t2, ht⟩ : ∃ t, t = (t1.bind (allTypes)).map (fun _ => (⟨#[]⟩ : ByteArray)) := ⟨_, rfl⟩
  rw [← ht] at hR
  have HS2 := Lib.hid (And.intro ht hv); clear ht hv
  replace k := k.next hg
  replace kx := grown_keep hg kx (by omega)
  clear hg
  obtain ⟨cX, fX⟩ := heap_cells kx
  have hX1 : X ≠ w.heap.size + 1 := by omega
  have hX2 : X ≠ w.heap.size := by omega
  have kx' : ((w2).setCell ⟨X, 1, none⟩ (.slice A' a2.length c')).heap[X]? = some (.cells #[.string a1, .slice A' a2.length c'] 55 (0, 0)) := by have h := heap_set kx 1 (.slice A' a2.length c'); simpa using h
  have cA := k.cells
  have kA := k.1
  have fA := k.frozen
  replace k := k.setX (X := X) (by omega) 1 (.slice A' a2.length c')
  have hsp : (t2 = none ∧ takeNsec s = none) ∨ (∃ r, t2 = some r ∧ r.size = 0 ∧ takeNsec s = some (⟨a1, intsOf a2⟩, r)) := by
    cases h1 : takeName s with
    | none =>
      have e1 : t1 = none := by rw [HS1.out.1, Option.bind_some, h1]; rfl
      have e2 : t2 = none := by rw [HS2.out.1, e1]; rfl
      exact .inl ⟨e2, by simp [takeNsec, takeShort, h1]⟩
    | some x =>
      obtain ⟨y, r1⟩ := x
      have e1 : t1 = some r1 := by rw [HS1.out.1, Option.bind_some, h1]; rfl
      obtain rfl : a1 = y := HS1.out.2 _ (by rw [Option.bind_some, h1])
      cases h2 : allTypes r1 with
      | none =>
        have e2 : t2 = none := by rw [HS2.out.1, e1, Option.bind_some, h2]; rfl
        have h2' : takeTypes r1.size (-1) r1 = none := h2
        exact .inl ⟨e2, by simp [takeNsec, takeShort, h1, h2']⟩
      | some x =>
        have e2 : t2 = some ⟨#[]⟩ := by rw [HS2.out.1, e1, Option.bind_some, h2]; rfl
        obtain rfl : a2 = x := HS2.out.2 _ (by rw [e1, Option.bind_some, h2])
        have h2' : takeTypes r1.size (-1) r1 = some a2 := h2
        exact .inr ⟨⟨#[]⟩, e2, rfl, by simp [takeNsec, takeShort, h1, h2']⟩
  have HSP := Lib.hid hsp; clear hsp
  obtain ⟨r, bad, hb, hrs, he⟩ := hR
  have cb1 : w2.cell? ⟨w.heap.size + 1, 1, none⟩ = some (.bool bad) := by simp [World.cell?, hb]
  have HB := Lib.hid hb; clear hb
  have HE := Lib.hid he; clear he
  clear HS1 HS2
  cases bad with
  | true =>
    have hq : P = none := by
      rw [HP.out]
      rcases HSP.out with ⟨_, h⟩ | ⟨r', h, _⟩
      · rw [h]; unfold wholeOf; split <;> rfl
      · rw [HE.out] at h; cases h
    have HQ := Lib.hid hq; clear hq
    obtain ⟨V, hV⟩ : ∃ V, V = (((w2).setCell ⟨X, 1, none⟩ (.slice A' a2.length c')).setCell ⟨w.heap.size, 0, none⟩ (.string ⟨#[]⟩)).setCell ⟨w.heap.size, 1, none⟩ (.slice none 0 0) := ⟨_, rfl⟩
    have kF : RSt w 55 #[.string ⟨#[]⟩, .slice none 0 0] V := by rw [hV]; have h := ((k.set 0 (.string ⟨#[]⟩)).set 1 (.slice none 0 0)); simpa using h
    have HK := Lib.hid kF; clear kF k
    clear kx kx'
    go_wp2_with fail
    rw [← hV]
    clear hV cA fA cX fX cb1
    have cF := HK.out.cells
    refine bodyPost_ret (v := .tuple #[.agg #[.string ⟨#[]⟩, .slice none 0 0], .bool false]) (by simp [results, Tryz.results24, go_sem, cF]) rfl ?_
    rw [HQ.out]
    exact ⟨rfl, HK.out.2⟩
  | false =>
    rcases HSP.out with ⟨h, _⟩ | ⟨_, h, hr0, hsp⟩
    · rw [HE.out] at h; cases h
    rw [HE.out] at h
    obtain rfl := Option.some.inj h
    clear h
    have HA := Lib.hid (show w2.heap[w.heap.size]? = some (.cells #[.string ⟨#[]⟩, .slice none 0 0] 55 (0, 0)) from kA)
    have HS := Lib.hid hsp; clear hsp
    by_cases h2 : s.size ≤ 2000
    · have b2 : (s.size : Int) ≤ 2000 := by omega
      have hq : P = some ⟨a1, intsOf a2⟩ := by rw [HP.out, HS.out, wholeOf, if_pos h2]; exact if_pos hr0
      have HQ := Lib.hid hq; clear hq hr0
      obtain ⟨V, hV⟩ : ∃ V, V = (((w2).setCell ⟨X, 1, none⟩ (.slice A' a2.length c')).setCell ⟨w.heap.size, 0, none⟩ (.string a1)).setCell ⟨w.heap.size, 1, none⟩ (.slice A' a2.length c') := ⟨_, rfl⟩
      have kF : RSt w 55 #[.string a1, .slice A' a2.length c'] V := by rw [hV]; have h := ((k.set 0 (.string a1)).set 1 (.slice A' a2.length c')); simpa using h
      have HOV := Lib.hid (show V.ownsRow w.heap.size 3 1 (.slice A' a2.length c') a2.length (ints (intsOf a2)) by
        rw [hV]; have h := HO.out; have hn := own_ne h kx (by decide); have hm := own_ne h HA.out (by decide)
        replace h := ownsRow_setCell_other h (a := ⟨X, 1, none⟩) hn (.slice A' a2.length c')
        replace h := ownsRow_setCell_other h (a := ⟨w.heap.size, 0, none⟩) hm (.string a1)
        replace h := ownsRow_setCell_other h (a := ⟨w.heap.size, 1, none⟩) hm (.slice A' a2.length c')
        exact h)
      have HK := Lib.hid kF; clear kF k
      clear kx kx'
      go_wp2_with fail
      rw [← hV]
      clear hV cA fA cX fX cb1
      have cF := HK.out.cells
      refine bodyPost_ret (v := .tuple #[.agg #[.string a1, .slice A' a2.length c'], .bool true]) (by simp [results, Tryz.results24, go_sem, cF]) rfl ?_
      rw [HQ.out]
      exact ⟨⟨_, rfl, A', c', by simp [intsOf], by simpa [intsOf] using HOV.out⟩, HK.out.2⟩
    · have b2 : (2000 : Int) < (s.size : Int) := by omega
      have hq : P = none := by rw [HP.out]; unfold wholeOf; exact if_neg h2
      have HQ := Lib.hid hq; clear hq hr0
      obtain ⟨V, hV⟩ : ∃ V, V = (((w2).setCell ⟨X, 1, none⟩ (.slice A' a2.length c')).setCell ⟨w.heap.size, 0, none⟩ (.string ⟨#[]⟩)).setCell ⟨w.heap.size, 1, none⟩ (.slice none 0 0) := ⟨_, rfl⟩
      have kF : RSt w 55 #[.string ⟨#[]⟩, .slice none 0 0] V := by rw [hV]; have h := ((k.set 0 (.string ⟨#[]⟩)).set 1 (.slice none 0 0)); simpa using h
      have HK := Lib.hid kF; clear kF k
      clear kx kx'
      go_wp2_with fail
      rw [← hV]
      clear hV cA fA cX fX cb1
      have cF := HK.out.cells
      refine bodyPost_ret (v := .tuple #[.agg #[.string ⟨#[]⟩, .slice none 0 0], .bool false]) (by simp [results, Tryz.results24, go_sem, cF]) rfl ?_
      rw [HQ.out]
      exact ⟨rfl, HK.out.2⟩

set_option maxRecDepth 100000 in
set_option maxHeartbeats 8000000 in
theorem ref_nsec3 (s : ByteArray) (w : World) (hs : s.size ≤ 1073741824) : Calls Tryz.prog 26 #[.string s] w (RefPostR (nsec3R) (.agg #[.int .i64 0, .int .i64 0, .int .i64 0, .string ⟨#[]⟩, .string ⟨#[]⟩, .slice none 0 0]) w (wholeOf s (takeNsec3 s))) := by
  obtain ⟨P, hP⟩ : ∃ P, P = wholeOf s (takeNsec3 s) := ⟨_, rfl⟩
  rw [← hP]
  have HP := Lib.hid hP; clear hP
  obtain ⟨W0, hW0⟩ : ∃ W, W = (w.alloc (.cells #[.int .i64 0, .int .i64 0, .int .i64 0, .string ⟨#[]⟩, .string ⟨#[]⟩, .slice none 0 0] 61)).alloc (.cells #[.string s, .bool false] 111) := ⟨_, rfl⟩
  have k : RSt w 61 #[.int .i64 0, .int .i64 0, .int .i64 0, .string ⟨#[]⟩, .string ⟨#[]⟩, .slice none 0 0] W0 := by rw [hW0]; exact RSt.start w _ _ _
  have hR : Rdr (w.heap.size + 1) W0 (some s) := by
    rw [hW0]; refine ⟨s, false, ?_, hs, rfl⟩
    have := World.alloc_heap_new (w.alloc (.cells #[.int .i64 0, .int .i64 0, .int .i64 0, .string ⟨#[]⟩, .string ⟨#[]⟩, .slice none 0 0] 61)) (.cells #[.string s, .bool false] 111)
    rwa [World.size_alloc] at this
  go_enter Tryz.func26, Tryz.ntmps26
  have C := Lib.hid (rdNum (w.heap.size + 1) 1 (some s) W0 hR (by decide)); clear hR
  go_wp2_with fail
  rw [← hW0]
  clear hW0
  refine C.out.mono ?_
  rintro e w1 ⟨a1, rfl, -, hR, hv, hg⟩
  clear C
  obtain ⟨t1, ht⟩ : ∃ t, t = ((some s).bind (takeNum 1)).map (·.2) := ⟨_, rfl⟩
  rw [← ht] at hR
  have HS1 := Lib.hid (And.intro ht hv); clear ht hv
  replace k := k.next hg
  clear hg
  obtain ⟨X, hX⟩ : ∃ X, X = w1.heap.size := ⟨_, rfl⟩
  obtain ⟨V, hV⟩ : ∃ V, V = w1.alloc (.cells #[.int .i64 (a1 : Int), .int .i64 0, .int .i64 0, .string ⟨#[]⟩, .string ⟨#[]⟩, .slice none 0 0] 61) := ⟨_, rfl⟩
  have hXB : w.heap.size + 1 < X := by have := hR.lt; omega
  have kx : V.heap[X]? = some (.cells #[.int .i64 (a1 : Int), .int .i64 0, .int .i64 0, .string ⟨#[]⟩, .string ⟨#[]⟩, .slice none 0 0] 61 (0, 0)) := by rw [hV, hX]; exact World.alloc_heap_new _ _
  replace hR := hR.alloc (.cells #[.int .i64 (a1 : Int), .int .i64 0, .int .i64 0, .string ⟨#[]⟩, .string ⟨#[]⟩, .slice none 0 0] 61)
  replace k := k.alloc (.cells #[.int .i64 (a1 : Int), .int .i64 0, .int .i64 0, .string ⟨#[]⟩, .string ⟨#[]⟩, .slice none 0 0] 61)
  rw [← hV] at hR k
  have C := Lib.hid (rdNum (w.heap.size + 1) 1 t1 V hR (by decide)); clear hR
  go_wp2_with fail
  rw [← hV, ← hX]
  clear hV hX
  refine C.out.mono ?_
  rintro e w2 ⟨a2, rfl, -, hR, hv, hg⟩
  clear C
  obtain ⟨t2, ht⟩ : ∃ t, t = (t1.bind (takeNum 1)).map (·.2) := ⟨_, rfl⟩
  rw [← ht] at hR
  have HS2 := Lib.hid (And.intro ht hv); clear ht hv
  replace k := k.next hg
  replace kx := grown_keep hg kx (by omega)
  clear hg
  obtain ⟨cX, fX⟩ := heap_cells kx
  obtain ⟨V, hV⟩ : ∃ V, V = w2.setCell ⟨X, 1, none⟩ (.int .i64 (a2 : Int)) := ⟨_, rfl⟩
  have kx' : V.heap[X]? = some (.cells #[.int .i64 (a1 : Int), .int .i64 (a2 : Int), .int .i64 0, .string ⟨#[]⟩, .string ⟨#[]⟩, .slice none 0 0] 61 (0, 0)) := by rw [hV]; have h := heap_set kx 1 (.int .i64 (a2 : Int)); simpa using h
  replace hR := hR.setX (X := X) (by omega) 1 (.int .i64 (a2 : Int))
  replace k := k.setX (X := X) (by omega) 1 (.int .i64 (a2 : Int))
  rw [← hV] at hR k
  have C := Lib.hid (rdNum (w.heap.size + 1) 2 t2 V hR (by decide)); clear hR
  go_wp2_with fail
  rw [← hV]
  clear hV cX fX kx
  have kx := kx'; clear kx'
  refine C.out.mono ?_
  rintro e w3 ⟨a3, rfl, -, hR, hv, hg⟩
  clear C
  obtain ⟨t3, ht⟩ : ∃ t, t = (t2.bind (takeNum 2)).map (·.2) := ⟨_, rfl⟩
  rw [← ht] at hR
  have HS3 := Lib.hid (And.intro ht hv); clear ht hv
  replace k := k.next hg
  replace kx := grown_keep hg kx (by omega)
  clear hg
  obtain ⟨cX, fX⟩ := heap_cells kx
  obtain ⟨V, hV⟩ : ∃ V, V = w3.setCell ⟨X, 2, none⟩ (.int .i64 (a3 : Int)) := ⟨_, rfl⟩
  have kx' : V.heap[X]? = some (.cells #[.int .i64 (a1 : Int), .int .i64 (a2 : Int), .int .i64 (a3 : Int), .string ⟨#[]⟩, .string ⟨#[]⟩, .slice none 0 0] 61 (0, 0)) := by rw [hV]; have h := heap_set kx 2 (.int .i64 (a3 : Int)); simpa using h
  replace hR := hR.setX (X := X) (by omega) 2 (.int .i64 (a3 : Int))
  replace k := k.setX (X := X) (by omega) 2 (.int .i64 (a3 : Int))
  rw [← hV] at hR k
  have C := Lib.hid (rdNum (w.heap.size + 1) 1 t3 V hR (by decide)); clear hR
  go_wp2_with fail
  rw [← hV]
  clear hV cX fX kx
  have kx := kx'; clear kx'
  refine C.out.mono ?_
  rintro e w4 ⟨a4, rfl, -, hR, hv, hg⟩
  clear C
  obtain ⟨t4, ht⟩ : ∃ t, t = (t3.bind (takeNum 1)).map (·.2) := ⟨_, rfl⟩
  rw [← ht] at hR
  have HS4 := Lib.hid (And.intro ht hv); clear ht hv
  replace k := k.next hg
  replace kx := grown_keep hg kx (by omega)
  clear hg
  have C := Lib.hid (rdTake (w.heap.size + 1) a4 t4 w4 hR); clear hR
  go_wp2_with fail
  refine C.out.mono ?_
  rintro e w5 ⟨a5, rfl, -, hR, hv, hg⟩
  clear C
  obtain ⟨t5, ht⟩ : ∃ t, t = (t4.bind (takeBytes a4)).map (·.2) := ⟨_, rfl⟩
  rw [← ht] at hR
  have HS5 := Lib.hid (And.intro ht hv); clear ht hv
  replace k := k.next hg
  replace kx := grown_keep hg kx (by omega)
  clear hg
  obtain ⟨cX, fX⟩ := heap_cells kx
  obtain ⟨V, hV⟩ : ∃ V, V = w5.setCell ⟨X, 3, none⟩ (.string a5) := ⟨_, rfl⟩
  have kx' : V.heap[X]? = some (.cells #[.int .i64 (a1 : Int), .int .i64 (a2 : Int), .int .i64 (a3 : Int), .string a5, .string ⟨#[]⟩, .slice none 0 0] 61 (0, 0)) := by rw [hV]; have h := heap_set kx 3 (.string a5); simpa using h
  replace hR := hR.setX (X := X) (by omega) 3 (.string a5)
  replace k := k.setX (X := X) (by omega) 3 (.string a5)
  rw [← hV] at hR k
  have C := Lib.hid (rdNum (w.heap.size + 1) 1 t5 V hR (by decide)); clear hR
  go_wp2_with fail
  rw [← hV]
  clear hV cX fX kx
  have kx := kx'; clear kx'
  refine C.out.mono ?_
  rintro e w6 ⟨a6, rfl, -, hR, hv, hg⟩
  clear C
  obtain ⟨t6, ht⟩ : ∃ t, t = (t5.bind (takeNum 1)).map (·.2) := ⟨_, rfl⟩
  rw [← ht] at hR
  have HS6 := Lib.hid (And.intro ht hv); clear ht hv
  replace k := k.next hg
  replace kx := grown_keep hg kx (by omega)
  clear hg
  have C := Lib.hid (rdTake (w.heap.size + 1) a6 t6 w6 hR); clear hR
  go_wp2_with fail
  refine C.out.mono ?_
  rintro e w7 ⟨a7, rfl, -, hR, hv, hg⟩
  clear C
  obtain ⟨t7, ht⟩ : ∃ t, t = (t6.bind (takeBytes a6)).map (·.2) := ⟨_, rfl⟩
  rw [← ht] at hR
  have HS7 := Lib.hid (And.intro ht hv); clear ht hv
  replace k := k.next hg
  replace kx := grown_keep hg kx (by omega)
  clear hg
  obtain ⟨cX, fX⟩ := heap_cells kx
  obtain ⟨V, hV⟩ : ∃ V, V = w7.setCell ⟨X, 4, none⟩ (.string a7) := ⟨_, rfl⟩
  have kx' : V.heap[X]? = some (.cells #[.int .i64 (a1 : Int), .int .i64 (a2 : Int), .int .i64 (a3 : Int), .string a5, .string a7, .slice none 0 0] 61 (0, 0)) := by rw [hV]; have h := heap_set kx 4 (.string a7); simpa using h
  replace hR := hR.setX (X := X) (by omega) 4 (.string a7)
  replace k := k.setX (X := X) (by omega) 4 (.string a7)
  rw [← hV] at hR k
  have C := Lib.hid (rdTypes (w.heap.size + 1) t7 V hR); clear hR
  go_wp2_with fail
  rw [← hV]
  clear hV cX fX kx
  have kx := kx'; clear kx'
  refine C.out.mono ?_
  rintro e w8 ⟨a8, v, rfl, ho, hR, hv, hg⟩
  obtain ⟨A', c', rfl⟩ := own_slice ho
  have HO := Lib.hid (own_mono ho k.2.size); clear ho
  clear C
  obtain ⟨t8, ht⟩ : ∃ t, t = (t7.bind (allTypes)).map (fun _ => (⟨#[]⟩ : ByteArray)) := ⟨_, rfl⟩
  rw [← ht] at hR
  have HS8 := Lib.hid (And.intro ht hv); clear ht hv
  replace k := k.next hg
  replace kx := grown_keep hg kx (by omega)
  clear hg
  obtain ⟨cX, fX⟩ := heap_cells kx
  have hX1 : X ≠ w.heap.size + 1 := by omega
  have hX2 : X ≠ w.heap.size := by omega
  have kx' : ((w8).setCell ⟨X, 5, none⟩ (.slice A' a8.length c')).heap[X]? = some (.cells #[.int .i64 (a1 : Int), .int .i64 (a2 : Int), .int .i64 (a3 : Int), .string a5, .string a7, .slice A' a8.length c'] 61 (0, 0)) := by have h := heap_set kx 5 (.slice A' a8.length c'); simpa using h
  have cA := k.cells
  have kA := k.1
  have fA := k.frozen
  replace k := k.setX (X := X) (by omega) 5 (.slice A' a8.length c')
  have hsp : (t8 = none ∧ takeNsec3 s = none) ∨ (∃ r, t8 = some r ∧ r.size = 0 ∧ a7.size = a6 ∧ takeNsec3 s = (if a7.size = 0 then none else some (⟨a1, a2, a3, a5, a7, intsOf a8⟩, r))) := by
    cases h1 : takeNum 1 s with
    | none =>
      have e1 : t1 = none := by rw [HS1.out.1, Option.bind_some, h1]; rfl
      have e2 : t2 = none := by rw [HS2.out.1, e1]; rfl
      have e3 : t3 = none := by rw [HS3.out.1, e2]; rfl
      have e4 : t4 = none := by rw [HS4.out.1, e3]; rfl
      have e5 : t5 = none := by rw [HS5.out.1, e4]; rfl
      have e6 : t6 = none := by rw [HS6.out.1, e5]; rfl
      have e7 : t7 = none := by rw [HS7.out.1, e6]; rfl
      have e8 : t8 = none := by rw [HS8.out.1, e7]; rfl
      exact .inl ⟨e8, by simp [takeNsec3, takeShort, h1]⟩
    | some x =>
      obtain ⟨y, r1⟩ := x
      have e1 : t1 = some r1 := by rw [HS1.out.1, Option.bind_some, h1]; rfl
      obtain rfl : a1 = y := HS1.out.2 _ (by rw [Option.bind_some, h1])
      cases h2 : takeNum 1 r1 with
      | none =>
        have e2 : t2 = none := by rw [HS2.out.1, e1, Option.bind_some, h2]; rfl
        have e3 : t3 = none := by rw [HS3.out.1, e2]; rfl
        have e4 : t4 = none := by rw [HS4.out.1, e3]; rfl
        have e5 : t5 = none := by rw [HS5.out.1, e4]; rfl
        have e6 : t6 = none := by rw [HS6.out.1, e5]; rfl
        have e7 : t7 = none := by rw [HS7.out.1, e6]; rfl
        have e8 : t8 = none := by rw [HS8.out.1, e7]; rfl
        exact .inl ⟨e8, by simp [takeNsec3, takeShort, h1, h2]⟩
      | some x =>
        obtain ⟨y, r2⟩ := x
        have e2 : t2 = some r2 := by rw [HS2.out.1, e1, Option.bind_some, h2]; rfl
        obtain rfl : a2 = y := HS2.out.2 _ (by rw [e1, Option.bind_some, h2])
        cases h3 : takeNum 2 r2 with
        | none =>
          have e3 : t3 = none := by rw [HS3.out.1, e2, Option.bind_some, h3]; rfl
          have e4 : t4 = none := by rw [HS4.out.1, e3]; rfl
          have e5 : t5 = none := by rw [HS5.out.1, e4]; rfl
          have e6 : t6 = none := by rw [HS6.out.1, e5]; rfl
          have e7 : t7 = none := by rw [HS7.out.1, e6]; rfl
          have e8 : t8 = none := by rw [HS8.out.1, e7]; rfl
          exact .inl ⟨e8, by simp [takeNsec3, takeShort, h1, h2, h3]⟩
        | some x =>
          obtain ⟨y, r3⟩ := x
          have e3 : t3 = some r3 := by rw [HS3.out.1, e2, Option.bind_some, h3]; rfl
          obtain rfl : a3 = y := HS3.out.2 _ (by rw [e2, Option.bind_some, h3])
          cases h4 : takeNum 1 r3 with
          | none =>
            have e4 : t4 = none := by rw [HS4.out.1, e3, Option.bind_some, h4]; rfl
            have e5 : t5 = none := by rw [HS5.out.1, e4]; rfl
            have e6 : t6 = none := by rw [HS6.out.1, e5]; rfl
            have e7 : t7 = none := by rw [HS7.out.1, e6]; rfl
            have e8 : t8 = none := by rw [HS8.out.1, e7]; rfl
            exact .inl ⟨e8, by simp [takeNsec3, takeShort, h1, h2, h3, h4]⟩
          | some x =>
            obtain ⟨y, r4⟩ := x
            have e4 : t4 = some r4 := by rw [HS4.out.1, e3, Option.bind_some, h4]; rfl
            obtain rfl : a4 = y := HS4.out.2 _ (by rw [e3, Option.bind_some, h4])
            cases h5 : takeBytes a4 r4 with
            | none =>
              have e5 : t5 = none := by rw [HS5.out.1, e4, Option.bind_some, h5]; rfl
              have e6 : t6 = none := by rw [HS6.out.1, e5]; rfl
              have e7 : t7 = none := by rw [HS7.out.1, e6]; rfl
              have e8 : t8 = none := by rw [HS8.out.1, e7]; rfl
              exact .inl ⟨e8, by simp [takeNsec3, takeShort, h1, h2, h3, h4, h5]⟩
            | some x =>
              obtain ⟨y, r5⟩ := x
              have e5 : t5 = some r5 := by rw [HS5.out.1, e4, Option.bind_some, h5]; rfl
              obtain rfl : a5 = y := HS5.out.2 _ (by rw [e4, Option.bind_some, h5])
              cases h6 : takeNum 1 r5 with
              | none =>
                have e6 : t6 = none := by rw [HS6.out.1, e5, Option.bind_some, h6]; rfl
                have e7 : t7 = none := by rw [HS7.out.1, e6]; rfl
                have e8 : t8 = none := by rw [HS8.out.1, e7]; rfl
                exact .inl ⟨e8, by simp [takeNsec3, takeShort, h1, h2, h3, h4, h5, h6]⟩
              | some x =>
                obtain ⟨y, r6⟩ := x
                have e6 : t6 = some r6 := by rw [HS6.out.1, e5, Option.bind_some, h6]; rfl
                obtain rfl : a6 = y := HS6.out.2 _ (by rw [e5, Option.bind_some, h6])
                cases h7 : takeBytes a6 r6 with
                | none =>
                  have e7 : t7 = none := by rw [HS7.out.1, e6, Option.bind_some, h7]; rfl
                  have e8 : t8 = none := by rw [HS8.out.1, e7]; rfl
                  exact .inl ⟨e8, by simp [takeNsec3, takeShort, h1, h2, h3, h4, h5, h6, h7]⟩
                | some x =>
                  obtain ⟨y, r7⟩ := x
                  have e7 : t7 = some r7 := by rw [HS7.out.1, e6, Option.bind_some, h7]; rfl
                  obtain rfl : a7 = y := HS7.out.2 _ (by rw [e6, Option.bind_some, h7])
                  cases h8 : allTypes r7 with
                  | none =>
                    have e8 : t8 = none := by rw [HS8.out.1, e7, Option.bind_some, h8]; rfl
                    have h8' : takeTypes r7.size (-1) r7 = none := h8
                    exact .inl ⟨e8, by simp [takeNsec3, takeShort, h1, h2, h3, h4, h5, h6, h7, h8']⟩
                  | some x =>
                    have e8 : t8 = some ⟨#[]⟩ := by rw [HS8.out.1, e7, Option.bind_some, h8]; rfl
                    obtain rfl : a8 = x := HS8.out.2 _ (by rw [e7, Option.bind_some, h8])
                    have h8' : takeTypes r7.size (-1) r7 = some a8 := h8
                    exact .inr ⟨⟨#[]⟩, e8, rfl, (takeBytes_size h7).2, by simp [takeNsec3, takeShort, h1, h2, h3, h4, h5, h6, h7, h8']⟩
  have HSP := Lib.hid hsp; clear hsp
  obtain ⟨r, bad, hb, hrs, he⟩ := hR
  have cb1 : w8.cell? ⟨w.heap.size + 1, 1, none⟩ = some (.bool bad) := by simp [World.cell?, hb]
  have HB := Lib.hid hb; clear hb
  have HE := Lib.hid he; clear he
  clear HS1 HS2 HS3 HS4 HS5 HS6 HS7 HS8
  cases bad with
  | true =>
    have hq : P = none := by
      rw [HP.out]
      rcases HSP.out with ⟨_, h⟩ | ⟨r', h, _⟩
      · rw [h]; unfold wholeOf; split <;> rfl
      · rw [HE.out] at h; cases h
    have HQ := Lib.hid hq; clear hq
    obtain ⟨V, hV⟩ : ∃ V, V = (((((((w8).setCell ⟨X, 5, none⟩ (.slice A' a8.length c')).setCell ⟨w.heap.size, 0, none⟩ (.int .i64 0)).setCell ⟨w.heap.size, 1, none⟩ (.int .i64 0)).setCell ⟨w.heap.size, 2, none⟩ (.int .i64 0)).setCell ⟨w.heap.size, 3, none⟩ (.string ⟨#[]⟩)).setCell ⟨w.heap.size, 4, none⟩ (.string ⟨#[]⟩)).setCell ⟨w.heap.size, 5, none⟩ (.slice none 0 0) := ⟨_, rfl⟩
    have kF : RSt w 61 #[.int .i64 0, .int .i64 0, .int .i64 0, .string ⟨#[]⟩, .string ⟨#[]⟩, .slice none 0 0] V := by rw [hV]; have h := ((((((k.set 0 (.int .i64 0)).set 1 (.int .i64 0)).set 2 (.int .i64 0)).set 3 (.string ⟨#[]⟩)).set 4 (.string ⟨#[]⟩)).set 5 (.slice none 0 0)); simpa using h
    have HK := Lib.hid kF; clear kF k
    clear kx kx'
    go_wp2_with fail
    rw [← hV]
    clear hV cA fA cX fX cb1
    have cF := HK.out.cells
    refine bodyPost_ret (v := .tuple #[.agg #[.int .i64 0, .int .i64 0, .int .i64 0, .string ⟨#[]⟩, .string ⟨#[]⟩, .slice none 0 0], .bool false]) (by simp [results, Tryz.results26, go_sem, cF]) rfl ?_
    rw [HQ.out]
    exact ⟨rfl, HK.out.2⟩
  | false =>
    rcases HSP.out with ⟨h, _⟩ | ⟨_, h, hr0, hrn, hsp⟩
    · rw [HE.out] at h; cases h
    rw [HE.out] at h
    obtain rfl := Option.some.inj h
    clear h
    have HA := Lib.hid (show w8.heap[w.heap.size]? = some (.cells #[.int .i64 0, .int .i64 0, .int .i64 0, .string ⟨#[]⟩, .string ⟨#[]⟩, .slice none 0 0] 61 (0, 0)) from kA)
    have HS := Lib.hid hsp; clear hsp
    by_cases hn0 : a6 = 0
    · have b1 : ((a6 : Int) == 0) = true := by rw [hn0]; rfl
      have hq : P = none := by rw [HP.out, HS.out, if_pos (by rw [hrn, hn0])]; unfold wholeOf; split <;> rfl
      have HQ := Lib.hid hq; clear hq hn0 hrn
      obtain ⟨V, hV⟩ : ∃ V, V = (((((((w8).setCell ⟨X, 5, none⟩ (.slice A' a8.length c')).setCell ⟨w.heap.size, 0, none⟩ (.int .i64 0)).setCell ⟨w.heap.size, 1, none⟩ (.int .i64 0)).setCell ⟨w.heap.size, 2, none⟩ (.int .i64 0)).setCell ⟨w.heap.size, 3, none⟩ (.string ⟨#[]⟩)).setCell ⟨w.heap.size, 4, none⟩ (.string ⟨#[]⟩)).setCell ⟨w.heap.size, 5, none⟩ (.slice none 0 0) := ⟨_, rfl⟩
      have kF : RSt w 61 #[.int .i64 0, .int .i64 0, .int .i64 0, .string ⟨#[]⟩, .string ⟨#[]⟩, .slice none 0 0] V := by rw [hV]; have h := ((((((k.set 0 (.int .i64 0)).set 1 (.int .i64 0)).set 2 (.int .i64 0)).set 3 (.string ⟨#[]⟩)).set 4 (.string ⟨#[]⟩)).set 5 (.slice none 0 0)); simpa using h
      have HK := Lib.hid kF; clear kF k
      clear kx kx'
      go_wp2_with fail
      rw [← hV]
      clear hV cA fA cX fX cb1
      have cF := HK.out.cells
      refine bodyPost_ret (v := .tuple #[.agg #[.int .i64 0, .int .i64 0, .int .i64 0, .string ⟨#[]⟩, .string ⟨#[]⟩, .slice none 0 0], .bool false]) (by simp [results, Tryz.results26, go_sem, cF]) rfl ?_
      rw [HQ.out]
      exact ⟨rfl, HK.out.2⟩
    have b1 : ((a6 : Int) == 0) = false := by rw [beq_eq_false_iff_ne]; omega
    have HS' := Lib.hid (HS.out.trans (if_neg (by rw [hrn]; exact hn0))); clear HS hn0 hrn
    have HS := HS'; clear HS'
    by_cases h2 : s.size ≤ 2000
    · have b2 : (s.size : Int) ≤ 2000 := by omega
      have hq : P = some ⟨a1, a2, a3, a5, a7, intsOf a8⟩ := by rw [HP.out, HS.out, wholeOf, if_pos h2]; exact if_pos hr0
      have HQ := Lib.hid hq; clear hq hr0
      obtain ⟨V, hV⟩ : ∃ V, V = (((((((w8).setCell ⟨X, 5, none⟩ (.slice A' a8.length c')).setCell ⟨w.heap.size, 0, none⟩ (.int .i64 (a1 : Int))).setCell ⟨w.heap.size, 1, none⟩ (.int .i64 (a2 : Int))).setCell ⟨w.heap.size, 2, none⟩ (.int .i64 (a3 : Int))).setCell ⟨w.heap.size, 3, none⟩ (.string a5)).setCell ⟨w.heap.size, 4, none⟩ (.string a7)).setCell ⟨w.heap.size, 5, none⟩ (.slice A' a8.length c') := ⟨_, rfl⟩
      have kF : RSt w 61 #[.int .i64 (a1 : Int), .int .i64 (a2 : Int), .int .i64 (a3 : Int), .string a5, .string a7, .slice A' a8.length c'] V := by rw [hV]; have h := ((((((k.set 0 (.int .i64 (a1 : Int))).set 1 (.int .i64 (a2 : Int))).set 2 (.int .i64 (a3 : Int))).set 3 (.string a5)).set 4 (.string a7)).set 5 (.slice A' a8.length c')); simpa using h
      have HOV := Lib.hid (show V.ownsRow w.heap.size 3 1 (.slice A' a8.length c') a8.length (ints (intsOf a8)) by
        rw [hV]; have h := HO.out; have hn := own_ne h kx (by decide); have hm := own_ne h HA.out (by decide)
        replace h := ownsRow_setCell_other h (a := ⟨X, 5, none⟩) hn (.slice A' a8.length c')
        replace h := ownsRow_setCell_other h (a := ⟨w.heap.size, 0, none⟩) hm (.int .i64 (a1 : Int))
        replace h := ownsRow_setCell_other h (a := ⟨w.heap.size, 1, none⟩) hm (.int .i64 (a2 : Int))
        replace h := ownsRow_setCell_other h (a := ⟨w.heap.size, 2, none⟩) hm (.int .i64 (a3 : Int))
        replace h := ownsRow_setCell_other h (a := ⟨w.heap.size, 3, none⟩) hm (.string a5)
        replace h := ownsRow_setCell_other h (a := ⟨w.heap.size, 4, none⟩) hm (.string a7)
        replace h := ownsRow_setCell_other h (a := ⟨w.heap.size, 5, none⟩) hm (.slice A' a8.length c')
        exact h)
      have HK := Lib.hid kF; clear kF k
      clear kx kx'
      go_wp2_with fail
      rw [← hV]
      clear hV cA fA cX fX cb1
      have cF := HK.out.cells
      refine bodyPost_ret (v := .tuple #[.agg #[.int .i64 (a1 : Int), .int .i64 (a2 : Int), .int .i64 (a3 : Int), .string a5, .string a7, .slice A' a8.length c'], .bool true]) (by simp [results, Tryz.results26, go_sem, cF]) rfl ?_
      rw [HQ.out]
      exact ⟨⟨_, rfl, A', c', by simp [intsOf], by simpa [intsOf] using HOV.out⟩, HK.out.2⟩
    · have b2 : (2000 : Int) < (s.size : Int) := by omega
      have hq : P = none := by rw [HP.out]; unfold wholeOf; exact if_neg h2
      have HQ := Lib.hid hq; clear hq hr0
      obtain ⟨V, hV⟩ : ∃ V, V = (((((((w8).setCell ⟨X, 5, none⟩ (.slice A' a8.length c')).setCell ⟨w.heap.size, 0, none⟩ (.int .i64 0)).setCell ⟨w.heap.size, 1, none⟩ (.int .i64 0)).setCell ⟨w.heap.size, 2, none⟩ (.int .i64 0)).setCell ⟨w.heap.size, 3, none⟩ (.string ⟨#[]⟩)).setCell ⟨w.heap.size, 4, none⟩ (.string ⟨#[]⟩)).setCell ⟨w.heap.size, 5, none⟩ (.slice none 0 0) := ⟨_, rfl⟩
      have kF : RSt w 61 #[.int .i64 0, .int .i64 0, .int .i64 0, .string ⟨#[]⟩, .string ⟨#[]⟩, .slice none 0 0] V := by rw [hV]; have h := ((((((k.set 0 (.int .i64 0)).set 1 (.int .i64 0)).set 2 (.int .i64 0)).set 3 (.string ⟨#[]⟩)).set 4 (.string ⟨#[]⟩)).set 5 (.slice none 0 0)); simpa using h
      have HK := Lib.hid kF; clear kF k
      clear kx kx'
      go_wp2_with fail
      rw [← hV]
      clear hV cA fA cX fX cb1
      have cF := HK.out.cells
      refine bodyPost_ret (v := .tuple #[.agg #[.int .i64 0, .int .i64 0, .int .i64 0, .string ⟨#[]⟩, .string ⟨#[]⟩, .slice none 0 0], .bool false]) (by simp [results, Tryz.results26, go_sem, cF]) rfl ?_
      rw [HQ.out]
      exact ⟨rfl, HK.out.2⟩

end Go.Proofs.YtnllofjjffflkaaGreatDoor
