/- Plain law: types that rise are put down and read as they are: no program in sight. -/
import Derived.Test.YtnllofjjffflkaaGreatDoorA1
set_option linter.unusedSimpArgs false
set_option linter.unusedVariables false
namespace Gp
def toB (l : List UInt8) : ByteArray := ⟨l.toArray⟩
theorem toB_size (l : List UInt8) : (toB l).size = l.length := by
  show l.toArray.size = _
  simp
theorem toB_data (l : List UInt8) : (toB l).data.toList = l := rfl
theorem ext_toB (a b : List UInt8) : (toB (a ++ b)).extract 0 a.length = toB a ∧ (toB (a ++ b)).extract a.length (toB (a ++ b)).size = toB b := by
  have hz : a.length ≤ (toB (a ++ b)).size := by rw [toB_size, List.length_append]; omega
  obtain ⟨h1, h2⟩ := ext_split (toB (a ++ b)) a.length hz
  rw [toB_data] at h1 h2
  constructor
  · apply ByteArray.ext; apply Array.ext'; rw [h1, toB_data]; simp
  · apply ByteArray.ext; apply Array.ext'; rw [h2, toB_data]; simp
theorem bytes_on {n : Nat} (a b : List UInt8) (h : a.length = n) : takeBytes n (toB (a ++ b)) = some (toB a, toB b) := by
  subst h
  obtain ⟨h1, h2⟩ := ext_toB a b
  unfold takeBytes
  rw [if_pos (by rw [toB_size, List.length_append]; omega), h1, h2]
/-- The number of some bytes. -/
theorem be_inj : ∀ (n : Nat) (u v : Nat), u < 256 ^ n → v < 256 ^ n → be (u : Int) n = be (v : Int) n → u = v
  | 0, u, v, h1, h2, _ => by simp at h1 h2; omega
  | n + 1, u, v, h1, h2, h => by
    have e : ∀ x : Nat, ((x : Nat) : Int) = ((x / 256 * 256 + x % 256 : Nat) : Int) := fun x => by congr 1; omega
    rw [e u, e v, be_snoc _ _ (Nat.mod_lt _ (by decide)), be_snoc _ _ (Nat.mod_lt _ (by decide))] at h
    have hl := List.append_inj h (by rw [be_length, be_length])
    have hp : (256 : Nat) ^ (n + 1) = 256 * 256 ^ n := by rw [Nat.pow_succ, Nat.mul_comm]
    have hd := be_inj n (u / 256) (v / 256) (by omega) (by omega) hl.1
    have hm : UInt8.ofNat (u % 256) = UInt8.ofNat (v % 256) := by simpa using hl.2
    have hm' := congrArg UInt8.toNat hm
    rw [UInt8.toNat_ofNat', UInt8.toNat_ofNat', Nat.mod_eq_of_lt (Nat.mod_lt _ (by decide)), Nat.mod_eq_of_lt (Nat.mod_lt _ (by decide))] at hm'
    omega
theorem num_on (n v : Nat) (b : List UInt8) (h : v < 256 ^ n) : takeNum n (toB (be (v : Int) n ++ b)) = some (v, toB b) := by
  obtain ⟨h1, h2⟩ := ext_toB (be (v : Int) n) b
  rw [be_length] at h1 h2
  have hz : n ≤ (toB (be (v : Int) n ++ b)).size := by rw [toB_size, List.length_append, be_length]; omega
  have hb := be_num (toB (be (v : Int) n ++ b)) n hz
  rw [toB_data, List.take_left' (be_length _ _)] at hb
  have hv := be_inj n _ _ (numB_lt (toB (be (v : Int) n ++ b)) n) h hb
  unfold takeNum
  rw [if_pos hz, h2, hv]
theorem name_on (b : List UInt8) : takeName (toB (0 :: b)) = some (toB [0], toB b) := by
  have h0 : bN (toB (0 :: b)) 0 = 0 := rfl
  have hE : nameEnd (toB (0 :: b)) = 0 := scan_stop (fun h => by rw [h0] at h; omega)
  obtain ⟨h1, h2⟩ := ext_toB [0] b
  unfold takeName
  rw [hE]
  have h1' : (toB (0 :: b)).extract 0 (0 + 1) = toB [0] := h1
  have h2' : (toB (0 :: b)).extract (0 + 1) (toB (0 :: b)).size = toB b := h2
  have hr : rightB (toB [0]) = true := by decide
  rw [h1', h2', if_pos ⟨by rw [toB_size]; simp, hr⟩]
/-- Which bits stand in a byte. -/
theorem bm_bit (a : List Nat) (j i : Nat) (hj : j < 32) : (((bm a).getD j 0).toNat.testBit i = true) ↔ ∃ t ∈ a, t % 256 / 8 = j ∧ 7 - t % 8 = i := by
  have h : ∀ (a : List Nat) (b : List UInt8), b.length = 32 → ((((a.foldl bmSet b).getD j 0).toNat.testBit i = true) ↔ (((b.getD j 0).toNat.testBit i = true) ∨ ∃ t ∈ a, t % 256 / 8 = j ∧ 7 - t % 8 = i)) := by
    intro a
    induction a with
    | nil => intro b _; simp
    | cons t r ih =>
      intro b hb
      rw [List.foldl_cons, ih (bmSet b t) (by rw [bmSet_length, hb])]
      have hset : (((bmSet b t).getD j 0).toNat.testBit i = true) ↔ (((b.getD j 0).toNat.testBit i = true) ∨ (t % 256 / 8 = j ∧ 7 - t % 8 = i)) := by
        unfold bmSet
        by_cases hjt : t % 256 / 8 = j
        · subst hjt
          rw [List.getD_eq_getElem?_getD, List.getElem?_set_self (by omega), Option.getD_some, UInt8.toNat_or, Nat.testBit_or]
          have e3 : (bitOf t).toNat = 2 ^ (7 - t % 8) := by
            unfold bitOf
            have hk : t % 8 < 8 := Nat.mod_lt _ (by decide)
            generalize t % 8 = k at hk
            match k, hk with
            | 0, _ | 1, _ | 2, _ | 3, _ | 4, _ | 5, _ | 6, _ | 7, _ => rfl
          rw [e3, Nat.testBit_two_pow]
          simp
        · rw [List.getD_eq_getElem?_getD, List.getElem?_set_ne hjt, ← List.getD_eq_getElem?_getD]
          simp [hjt]
      rw [hset]
      simp only [List.mem_cons, exists_eq_or_imp]
      rw [or_assoc]
  have h2 := h a (List.replicate 32 0) (by simp)
  unfold bm
  rw [h2, List.getD_eq_getElem?_getD, List.getElem?_replicate, if_pos hj]
  simp
theorem bit_in (w : Nat) (a : List Nat) (n k : Nat) (hn : n ≤ 32) (hk : k < 8 * n) (ha : ∀ t ∈ a, t / 256 = w) : bitAt (toB ((bm a).take n)) k = true ↔ 256 * w + k ∈ a := by
  have hj : k / 8 < n := by omega
  have hb : bN (toB ((bm a).take n)) (k / 8) = ((bm a).getD (k / 8) 0).toNat := by
    unfold bN
    rw [toB_data, List.getD_eq_getElem?_getD, List.getElem?_take, if_pos hj, ← List.getD_eq_getElem?_getD]
  have ht := bm_bit a (k / 8) (7 - k % 8) (by omega)
  rw [Nat.testBit_eq_decide_div_mod_eq, ← hb] at ht
  unfold bitAt
  rw [beq_iff_eq]
  rw [decide_eq_true_eq] at ht
  rw [ht]
  constructor
  · rintro ⟨t, hta, h1, h2⟩
    have := ha t hta
    have e : t = 256 * w + k := by omega
    rw [← e]; exact hta
  · intro h
    exact ⟨_, h, by omega, by omega⟩
theorem sorted_same : ∀ (a b : List Nat), a.Pairwise (· < ·) → b.Pairwise (· < ·) → (∀ x, x ∈ a ↔ x ∈ b) → a = b
  | [], [], _, _, _ => rfl
  | [], y :: b, _, _, h => by have := (h y).2 (by simp); cases this
  | x :: a, [], _, _, h => by have := (h x).1 (by simp); cases this
  | x :: a, y :: b, ha, hb, h => by
    rw [List.pairwise_cons] at ha hb
    have hxy : x = y := by
      rcases List.mem_cons.1 ((h x).1 (by simp)) with h1 | h1
      · exact h1
      · rcases List.mem_cons.1 ((h y).2 (by simp)) with h2 | h2
        · exact h2.symm
        · have h3 := ha.1 y h2
          have h4 := hb.1 x h1
          omega
    subst hxy
    rw [sorted_same a b ha.2 hb.2 (fun z => ?_)]
    have hz := h z
    simp only [List.mem_cons] at hz
    constructor
    · intro h1
      rcases hz.1 (.inr h1) with h2 | h2
      · have := ha.1 z h1; omega
      · exact h2
    · intro h1
      rcases hz.2 (.inr h1) with h2 | h2
      · have := hb.1 z h1; omega
      · exact h2
theorem lastAt_ge (a : List Nat) (w : Nat) (hp : a.Pairwise (· < ·)) (ha : ∀ t ∈ a, t / 256 = w) : ∀ t ∈ a, t % 256 / 8 ≤ lastAt a := by
  intro t ht
  unfold lastAt
  obtain ⟨i, hi, rfl⟩ := List.getElem_of_mem ht
  have hne : a ≠ [] := fun e => by rw [e] at hi; simp at hi
  have hl : a.getLast? = some (a[a.length - 1]'(by omega)) := by rw [List.getLast?_eq_getElem?, List.getElem?_eq_getElem (by omega)]
  rw [hl]
  simp only
  have h1 := ha _ (List.getElem_mem hi)
  have h2 := ha _ (List.getElem_mem (show a.length - 1 < a.length by omega))
  by_cases h : i = a.length - 1
  · subst h; exact Nat.le_refl _
  · have := List.pairwise_iff_getElem.1 hp i (a.length - 1) hi (by omega) (by omega)
    omega
theorem lastAt_mem (a : List Nat) (hne : a ≠ []) : ∃ t ∈ a, t % 256 / 8 = lastAt a := by
  unfold lastAt
  rw [List.getLast?_eq_some_getLast hne]
  exact ⟨_, List.getLast_mem hne, rfl⟩
set_option maxRecDepth 100000 in
/-- A window that was put down is read as it was. -/
theorem win_on (last : Int) (w : Nat) (a : List Nat) (X : List UInt8) (hw : w < 256) (hl : last < (w : Int)) (hne : a ≠ []) (hp : a.Pairwise (· < ·)) (ha : ∀ t ∈ a, t / 256 = w) :
    takeWin last (toB (blkOf w a ++ X)) = some ((w, a), toB X) := by
  have hla := lastAt_lt a
  have hlen : ((bm a).take (lastAt a + 1)).length = lastAt a + 1 := by rw [List.length_take, bm_length]; omega
  have e : blkOf w a ++ X = be (w : Int) 1 ++ (be ((lastAt a + 1 : Nat) : Int) 1 ++ ((bm a).take (lastAt a + 1) ++ X)) := by unfold blkOf; simp only [List.append_assoc]
  have hz : (toB ((bm a).take (lastAt a + 1))).size = lastAt a + 1 := by rw [toB_size, hlen]
  have hbits : bitsTo w (toB ((bm a).take (lastAt a + 1))) (8 * (lastAt a + 1)) = a := by
    refine sorted_same _ _ (bits_sorted _ _ _) hp (fun x => ?_)
    constructor
    · intro hx
      unfold bitsTo at hx
      obtain ⟨k, hk, rfl⟩ := List.mem_map.1 hx
      obtain ⟨h1, h2⟩ := List.mem_filter.1 hk
      exact (bit_in w a _ k (by omega) (List.mem_range.1 h1) ha).1 h2
    · intro hx
      have h1 := ha x hx
      have h2 := lastAt_ge a w hp ha x hx
      have hk : x % 256 < 8 * (lastAt a + 1) := by omega
      unfold bitsTo
      refine List.mem_map.2 ⟨x % 256, List.mem_filter.2 ⟨List.mem_range.2 hk, ?_⟩, by omega⟩
      rw [bit_in w a _ _ (by omega) hk ha]
      rw [show 256 * w + x % 256 = x by omega]; exact hx
  have hlastb : bN (toB ((bm a).take (lastAt a + 1))) (lastAt a + 1 - 1) ≠ 0 := by
    obtain ⟨t, ht, hta⟩ := lastAt_mem a hne
    have h1 := ha t ht
    have hk : t % 256 < 8 * (lastAt a + 1) := by omega
    have hb := (bit_in w a (lastAt a + 1) (t % 256) (by omega) hk ha).2 (by rw [show 256 * w + t % 256 = t by omega]; exact ht)
    intro h0
    unfold bitAt at hb
    rw [show t % 256 / 8 = lastAt a + 1 - 1 by omega, h0] at hb
    simp at hb
  have hok : winOk last w (lastAt a + 1) (toB ((bm a).take (lastAt a + 1))) = true := by
    simp only [winOk, Bool.and_eq_true, decide_eq_true_eq, bne_iff_ne]
    exact ⟨⟨⟨hl, by omega⟩, by omega⟩, hlastb⟩
  unfold takeWin
  rw [e, num_on 1 w _ (by omega)]
  simp only
  rw [num_on 1 (lastAt a + 1) _ (by omega)]
  simp only
  rw [bytes_on _ _ hlen]
  show (if winOk last w (lastAt a + 1) (toB ((bm a).take (lastAt a + 1))) = true then some ((w, bitsTo w (toB ((bm a).take (lastAt a + 1))) (8 * (lastAt a + 1))), toB X) else none) = _
  rw [if_pos hok, hbits]
theorem split_win (l : List Nat) (w : Nat) (hp : l.Pairwise (· < ·)) (h0 : ∀ t ∈ l, w ≤ t / 256) : l = win w l ++ l.filter (fun t => decide (w < t / 256)) := by
  induction l with
  | nil => rfl
  | cons x r ih =>
    rw [List.pairwise_cons] at hp
    have ih' := ih hp.2 (fun t ht => h0 t (by simp [ht]))
    have hx := h0 x (by simp)
    by_cases hxw : x / 256 = w
    · have h1 : win w (x :: r) = x :: win w r := by simp [win, hxw]
      have h2 : (x :: r).filter (fun t => decide (w < t / 256)) = r.filter (fun t => decide (w < t / 256)) := by simp [hxw]
      rw [h1, h2, List.cons_append, ← ih']
    · have hno : win w (x :: r) = [] := by
        rw [win, List.filter_eq_nil_iff]
        intro t ht
        rcases List.mem_cons.1 ht with rfl | h
        · simpa using hxw
        · have := hp.1 t h
          simp; omega
      have hall : (x :: r).filter (fun t => decide (w < t / 256)) = x :: r := by
        rw [List.filter_eq_self]
        intro t ht
        rcases List.mem_cons.1 ht with rfl | h
        · simp; omega
        · have := hp.1 t h
          simp; omega
      rw [hno, hall]; rfl
theorem types_on_nil (k : Nat) (last : Int) : takeTypes k last (toB (typesL [])) = some [] := by
  have h : (toB (typesL [])).size = 0 := by rw [toB_size, typesL_nil]; rfl
  cases k with
  | zero => rw [takeTypes, if_pos h]
  | succ k => rw [takeTypes, if_pos h]
theorem types_on (k : Nat) : ∀ (last : Int) (l : List Nat), (typesL l).length ≤ k → l.Pairwise (· < ·) → (∀ t ∈ l, last < ((t / 256 : Nat) : Int) ∧ t < 65536) → takeTypes k last (toB (typesL l)) = some l := by
  induction k with
  | zero =>
    intro last l hk hp hb
    cases l with
    | nil => exact types_on_nil 0 last
    | cons x r =>
      exfalso
      have h0 : ∀ t ∈ x :: r, x / 256 ≤ t / 256 := by
        intro t ht
        rw [List.pairwise_cons] at hp
        rcases List.mem_cons.1 ht with rfl | h
        · exact Nat.le_refl _
        · have := hp.1 t h; omega
      have hs := split_win (x :: r) (x / 256) hp h0
      have hne : win (x / 256) (x :: r) ≠ [] := by simp [win]
      have hwa : ∀ t ∈ win (x / 256) (x :: r), t / 256 = x / 256 := by
        intro t ht
        have := (List.mem_filter.1 ht).2
        simpa using this
      have hwl : ∀ t ∈ (x :: r).filter (fun t => decide (x / 256 < t / 256)), x / 256 < t / 256 := by
        intro t ht
        have := (List.mem_filter.1 ht).2
        simpa using this
      have hx := hb x (by simp)
      have ht := typesL_ahead _ _ (x / 256) (by omega) hwa hwl hne
      rw [← hs] at ht
      have hlen := blkOf_length (x / 256) (win (x / 256) (x :: r))
      rw [ht, List.length_append] at hk
      omega
  | succ k ih =>
    intro last l hk hp hb
    cases l with
    | nil => exact types_on_nil (k + 1) last
    | cons x r =>
      have hx := hb x (by simp)
      have h0 : ∀ t ∈ x :: r, x / 256 ≤ t / 256 := by
        intro t ht
        rw [List.pairwise_cons] at hp
        rcases List.mem_cons.1 ht with rfl | h
        · exact Nat.le_refl _
        · have := hp.1 t h; omega
      have hs := split_win (x :: r) (x / 256) hp h0
      have hne : win (x / 256) (x :: r) ≠ [] := by simp [win]
      have hwa : ∀ t ∈ win (x / 256) (x :: r), t / 256 = x / 256 := by
        intro t ht
        have := (List.mem_filter.1 ht).2
        simpa using this
      have hwl : ∀ t ∈ (x :: r).filter (fun t => decide (x / 256 < t / 256)), x / 256 < t / 256 := by
        intro t ht
        have := (List.mem_filter.1 ht).2
        simpa using this
      have ht := typesL_ahead _ _ (x / 256) (by omega) hwa hwl hne
      rw [← hs] at ht
      have hlen := blkOf_length (x / 256) (win (x / 256) (x :: r))
      rw [ht, List.length_append] at hk
      have ih' := ih ((x / 256 : Nat) : Int) ((x :: r).filter (fun t => decide (x / 256 < t / 256))) (by omega) (hp.filter _) (fun t htm => ⟨by have := hwl t htm; omega, (hb t (List.mem_filter.1 htm).1).2⟩)
      rw [ht, takeTypes, if_neg (by rw [toB_size, List.length_append]; omega), win_on last (x / 256) _ _ (by omega) hx.1 hne (hp.filter _) hwa]
      simp only
      rw [ih', Option.map_some, ← hs]
end Gp
