/- Walk of fours: bytes told as numbers and points; for at most 2^20 bytes. -/
import Derived.Test.YtnllofjjffflkaaGreatDoorE2
import Derived.Lib.ItoaLen
set_option linter.unusedSimpArgs false
set_option linter.unusedVariables false
namespace Go.Proofs.YtnllofjjffflkaaGreatDoor
open Go.RowKit Gp
theorem itoaS_size (n : Int) (h0 : -9223372036854775808 ≤ n) (h1 : n ≤ 9223372036854775807) : (itoaS n).size ≤ 21 := by
  rw [itoaS, ofL_size]; exact Lib.itoa_length_le n h0 h1
theorem lens_le (m : Nat) : ∀ (l : List ByteArray), (∀ x ∈ l, x.size ≤ m) → Lib.lens (l.map fun x => x.data.toList) ≤ m * l.length
  | [], _ => by simp [Lib.lens]
  | x :: r, h => by
    have h1 := lens_le m r (fun y hy => h y (by simp [hy]))
    have h2 := h x (by simp)
    have h3 : x.data.toList.length ≤ m := by rw [data_length]; exact h2
    simp only [List.map_cons, List.length_cons, Nat.mul_succ]
    simp only [Lib.lens, List.map_cons, List.sum_cons] at h1 ⊢
    omega
theorem joinS_size (l : List ByteArray) (sep : ByteArray) (m : Nat) (h : ∀ x ∈ l, x.size ≤ m) : (joinS l sep).size ≤ sep.size * l.length + m * l.length := by
  rw [joinS, ofL_size]
  cases l with
  | nil => simp [Lib.join_nil]
  | cons x r =>
    have h1 := lens_le m (x :: r) h
    rw [List.map_cons, Lib.join_length]
    rw [List.map_cons] at h1
    rw [List.length_map, data_length, List.length_cons, Nat.mul_succ]
    rw [List.length_cons] at h1
    omega
/-- A slice of texts that the call made. -/
def StrPost (l : List ByteArray) (w : World) (e : Ending) (w' : World) : Prop :=
  (∃ v, e = .returned v ∧ w'.ownsRow w.heap.size 9 1 v l.length (strs l)) ∧ Below w.heap.size w w'
theorem own_mono {w : World} {b b' : Nat} {e : TypeId} {size n : Nat} {v : Value} {xs : List Value} (h : w.ownsRow b e size v n xs) (hb : b' ≤ b) : w.ownsRow b' e size v n xs := by
  refine ⟨h.1, ?_⟩
  rcases h.2 with h2 | ⟨g, cap, cur, hv, hg, r⟩
  · exact .inl h2
  · exact .inr ⟨g, cap, cur, hv, Nat.le_trans hb hg, r⟩
def foursT (d : ByteArray) : List ByteArray := (List.range d.size).map fun i => itoaS (bN d i : Int)
theorem foursT_take (d : ByteArray) (k : Nat) (h : k < d.size) : (foursT d).take (k + 1) = (foursT d).take k ++ [itoaS (bN d k : Int)] := by
  have hl : k < (foursT d).length := by simp [foursT, h]
  rw [List.take_succ_eq_append_getElem hl]
  simp [foursT]
theorem bytes_cell (w : World) (s : ByteArray) (j : Nat) (h : j < s.size) : (Lib.bytesWorld w 5 s).cell? ⟨w.heap.size, j, none⟩ = some (.int .u8 (bN s j : Int)) := Lib.bytesWorld_cell w 5 s j h
set_option maxRecDepth 100000 in
set_option maxHeartbeats 2000000 in
theorem fours_any (d : ByteArray) (w : World) (hE : Env w) (hs : d.size ≤ 1048576) : Calls Tryz.prog 111 #[.string d] w (StrPost [joinS (foursT d) dotS] w) := by
  obtain ⟨i0, hi0, hz0, hz1, hz2⟩ := info_parts info9
  have kb := fun (W : World) => Lib.run_convert_string_bytes (P := Tryz.prog) W 9 126 5 d Tryz.underlying9 Tryz.underlying126 Tryz.underlying5
  have hsz1 : (Lib.bytesWorld w 5 d).heap.size = w.heap.size + 1 := Lib.bytesWorld_size w 5 d
  have hb1 := bytesW_below w 5 d
  have hcell := fun j hj => bytes_cell w d j hj
  have hE1 := hE.next hb1
  have hlen : (foursT d).length = d.size := by simp [foursT]
  go_enter Tryz.func111, Tryz.ntmps111
  go_wp2_with fail
  clear kb
  obtain ⟨W1, hW1⟩ : ∃ W1, W1 = Lib.bytesWorld w 5 d := ⟨_, rfl⟩
  rw [← hW1] at hsz1 hb1 hcell hE1 ⊢
  clear hW1
  go_loopw [3, 9] (fun v iv wr => ∃ k : Nat, k ≤ d.size ∧ iv = .int .i64 (k : Int) ∧ wr.ownsRow (w.heap.size + 1) 9 1 v k (strs ((foursT d).take k)) ∧ Below (w.heap.size + 1) W1 wr) (fun _ iv _ => d.size - (intOf iv).toNat)
  case atStart => exact ⟨0, Nat.zero_le _, rfl, ⟨rfl, .inl ⟨rfl, rfl⟩⟩, Below.refl _ _⟩
  case round =>
    obtain ⟨k, hk, rfl, hown, hB⟩ := hrel
    by_cases hlt : k < d.size
    · have hc : wr.cell? ⟨w.heap.size, k, none⟩ = some (.int .u8 (bN d k : Int)) := (hB.cell (p := ⟨w.heap.size, k, none⟩) (by simp)).trans (hcell k hlt)
      have h256 := bN_lt d k
      have hEr := hE1.below hB (by have := hE.size; omega)
      have ht := foursT_take d k hlt
      have HT := Lib.hid ht; clear ht
      have hszr := hB.size
      have HB := Lib.hid hB; clear hB
      go_wp2_with fail
      refine (num_any _ wr hEr (by omega) (by omega)).mono ?_
      rintro e w2 ⟨rfl, hB2⟩
      have hown2 := pw_own_below hown hB2
      have hsz2 := hB2.size
      have q1 : k + 1 ≤ maxLen := by unfold maxLen; omega
      have q2 : (k + 1) * 16 ≤ 140737488355328 := by omega
      have q3 : w.heap.size + 1 ≤ (w2.alloc (.cells #[.string (itoaS (bN d k : Int))] 9)).heap.size := by simp; omega
      have HB2 := Lib.hid (HB.out.trans (hB2.mono (by omega))); clear hB2 hown
      go_wp2_with (at_builtin; refine wpList_append_own _ rfl _ _ 89 rfl (w.heap.size + 1) 9 i0 (.string ⟨#[]⟩) 1 16 Tryz.underlying89 hi0 hz0 hz1 hz2 rfl (by decide) _ _ _ rfl (hown2.alloc _) ⟨w2.heap.size, 0, none⟩ 1 1 [.string (itoaS (bN d k : Int))] rfl rfl (cell_one_new _ _ _) (by simp [Value.oneCell']) q1 q2 q3 ?_)
      intro v' w3 hown' hgrow _
      obtain ⟨g', cap', rfl⟩ := ownsRow_succ hown'
      have HB3 := Lib.hid ((HB2.out.alloc (by omega) _).grown hgrow q3 (own_from hown2))
      have HO3 := Lib.hid hown'; clear hown' hgrow hown2
      go_wp2
      go_roundw
      case rel =>
        refine ⟨k + 1, by omega, by go_num, ?_, HB3.out⟩
        rw [HT.out, strs_append]; exact HO3.out
      case measure => simp [intOf]; omega
    · obtain rfl : k = d.size := by omega
      rw [← hlen, List.take_length] at hown
      have hj : (joinS (foursT d) dotS).size ≤ 140737488355328 := by
        have := joinS_size (foursT d) dotS 21 (fun x hx => by
          simp only [foursT, List.mem_map] at hx
          obtain ⟨i, _, rfl⟩ := hx
          exact itoaS_size _ (by omega) (by have := bN_lt d i; omega))
        rw [hlen] at this
        have e : dotS.size = 1 := rfl
        rw [e] at this; omega
      have hB' : Below w.heap.size w wr := hb1.trans (hB.mono (by omega))
      have HB := Lib.hid hB'; clear hB hB'
      have HL := Lib.hid hlen; clear hlen
      go_wp2_with fail
      rw [← HL.out]
      refine (join_any _ _ _ _ wr hown (by rw [HL.out]; omega) hj).mono ?_
      rintro e w2 ⟨rfl, hB2⟩
      have HB2 := Lib.hid (HB.out.trans (hB2.mono HB.out.size)); clear hB2
      go_wp2
      go_ret
      refine ⟨⟨_, rfl, own_lit w2 w.heap.size [joinS (foursT d) dotS] HB2.out.size (by simp)⟩, HB2.out.alloc HB2.out.size _⟩
end Go.Proofs.YtnllofjjffflkaaGreatDoor
