/- Plain law: what is taken apart is put together again: no program in sight. -/
import Derived.Test.YtnllofjjffflkaaGreatDoorK1
set_option linter.unusedSimpArgs false
set_option linter.unusedVariables false
namespace Gp
theorem natsOf_intsOf (l : List Nat) : natsOf (intsOf l) = l := by
  unfold natsOf intsOf
  rw [List.map_map]
  conv => rhs; rw [← List.map_id l]
  rfl
theorem byteAt_zero (v b : Nat) (hb : b < 256) : byteAt ((v * 256 + b : Nat) : Int) 0 = UInt8.ofNat b := by
  unfold byteAt
  congr 1
  simp
  omega
theorem byteAt_next (v b k : Nat) (hb : b < 256) : byteAt ((v * 256 + b : Nat) : Int) (k + 1) = byteAt (v : Int) k := by
  unfold byteAt
  congr 3
  have e : (2 : Int) ^ (8 * (k + 1)) = 256 * 2 ^ (8 * k) := by
    rw [show 8 * (k + 1) = 8 + 8 * k by omega, Int.pow_add]; rfl
  rw [e, ← Int.ediv_ediv_of_nonneg (by omega)]
  congr 1
  omega
theorem be_snoc (v b : Nat) (hb : b < 256) : ∀ k, be ((v * 256 + b : Nat) : Int) (k + 1) = be (v : Int) k ++ [UInt8.ofNat b]
  | 0 => by simp only [be]; rw [byteAt_zero v b hb]; rfl
  | k + 1 => by
    rw [be, be_snoc v b hb k, byteAt_next v b k hb]
    rfl
theorem bN_byte (s : ByteArray) (k : Nat) (h : k < s.size) : s.data.toList[k]? = some (UInt8.ofNat (bN s k)) := by
  have h' : k < s.data.toList.length := by rw [Array.length_toList]; exact h
  rw [List.getElem?_eq_getElem h']
  unfold bN
  rw [List.getD_eq_getElem?_getD, List.getElem?_eq_getElem h']
  simp
theorem be_num (s : ByteArray) : ∀ k, k ≤ s.size → be (numB s k : Int) k = s.data.toList.take k
  | 0, _ => rfl
  | k + 1, h => by
    rw [numB, be_snoc _ _ (bN_lt s k), be_num s k (by omega)]
    have := bN_byte s k (by omega)
    obtain ⟨hlt, hv⟩ := List.getElem?_eq_some_iff.1 this
    rw [List.take_succ_eq_append_getElem hlt, hv]
theorem ext_split (s : ByteArray) (n : Nat) (h : n ≤ s.size) : (s.extract 0 n).data.toList = s.data.toList.take n ∧ (s.extract n s.size).data.toList = s.data.toList.drop n := by
  constructor
  · rw [ByteArray.data_extract]; simp
  · rw [ByteArray.data_extract]
    have : s.data.toList.length = s.size := by rw [Array.length_toList]; rfl
    simp [List.take_of_length_le, this]
theorem num_back {n v : Nat} {s r : ByteArray} (h : takeNum n s = some (v, r)) : be (v : Int) n ++ r.data.toList = s.data.toList ∧ badNum (v : Int) n = false := by
  unfold takeNum at h
  split at h
  · rename_i hn
    simp only [Option.some.injEq, Prod.mk.injEq] at h
    obtain ⟨rfl, rfl⟩ := h
    refine ⟨by rw [be_num s n hn, (ext_split s n hn).2, List.take_append_drop], ?_⟩
    have h1 := numB_lt s n
    have e : (256 : Nat) ^ n = 2 ^ (8 * n) := by rw [Nat.pow_mul]
    rw [e] at h1
    have h2 : (numB s n : Int) / 2 ^ (8 * n) = 0 := by
      refine Int.ediv_eq_zero_of_lt (by omega) ?_
      exact_mod_cast h1
    have h3 : decide ((numB s n : Int) < 0) = false := by simp
    rw [badNum, h2, h3]; rfl
  · cases h
theorem bytes_back {n : Nat} {s b r : ByteArray} (h : takeBytes n s = some (b, r)) : b.data.toList ++ r.data.toList = s.data.toList := by
  unfold takeBytes at h
  split at h
  · rename_i hn
    simp only [Option.some.injEq, Prod.mk.injEq] at h
    obtain ⟨rfl, rfl⟩ := h
    rw [(ext_split s n hn).1, (ext_split s n hn).2, List.take_append_drop]
  · cases h
theorem name_back {s b r : ByteArray} (h : takeName s = some (b, r)) : b.data.toList ++ r.data.toList = s.data.toList ∧ rightB b = true := by
  unfold takeName at h
  split at h
  · rename_i hn
    simp only [Option.some.injEq, Prod.mk.injEq] at h
    obtain ⟨rfl, rfl⟩ := h
    exact ⟨by rw [(ext_split s _ hn.1).1, (ext_split s _ hn.1).2, List.take_append_drop], hn.2⟩
  · cases h
theorem rest_back {s b r : ByteArray} (h : takeRest s = some (b, r)) : b = s ∧ r.data.toList = [] ∧ decide ((b.size : Int) < 1) = false := by
  unfold takeRest at h
  split at h
  · rename_i hn
    simp only [Option.some.injEq, Prod.mk.injEq] at h
    obtain ⟨rfl, rfl⟩ := h
    exact ⟨rfl, rfl, by simp; omega⟩
  · cases h
/-- The highest t bits of a byte. -/
def mask (x t : Nat) : Nat := x / 2 ^ (8 - t) * 2 ^ (8 - t)
theorem mask_zero (x : Nat) (h : x < 256) : mask x 0 = 0 := by unfold mask; simp; omega
theorem mask_all (x : Nat) : mask x 8 = x := by unfold mask; simp
theorem mask_step (x k : Nat) (hk : k < 8) : mask x (k + 1) = mask x k + x / 2 ^ (7 - k) % 2 * 2 ^ (7 - k) := by
  unfold mask
  have e1 : 8 - (k + 1) = 7 - k := by omega
  have e2 : 8 - k = (7 - k) + 1 := by omega
  rw [e1, e2, Nat.pow_succ, ← Nat.div_div_eq_div_mul]
  have := Nat.div_add_mod (x / 2 ^ (7 - k)) 2
  generalize hq : x / 2 ^ (7 - k) = q at *
  generalize 2 ^ (7 - k) = p
  have h2 : q * p = (2 * (q / 2) + q % 2) * p := by rw [this]
  rw [h2, Nat.add_mul, Nat.mul_comm 2 (q / 2), Nat.mul_assoc, Nat.mul_comm 2 p]
theorem mask_or (x k : Nat) (hk : k < 8) (hb : x / 2 ^ (7 - k) % 2 = 1) : mask x k ||| 128 / 2 ^ k = mask x (k + 1) := by
  have e : 128 / 2 ^ k = 2 ^ (7 - k) := by
    match k, hk with
    | 0, _ | 1, _ | 2, _ | 3, _ | 4, _ | 5, _ | 6, _ | 7, _ => rfl
  rw [mask_step x k hk, hb, Nat.one_mul, e]
  unfold mask
  have hlt : 2 ^ (7 - k) < 2 ^ (8 - k) := Nat.pow_lt_pow_right (by omega) (by omega)
  rw [Nat.mul_comm, ← Nat.two_pow_add_eq_or_of_lt hlt]
theorem bm_byte (w : Nat) (b : ByteArray) (hn : b.size ≤ 32) : ∀ m, m ≤ 8 * b.size → ∀ j, j < 32 → ((bm (bitsTo w b m)).getD j 0).toNat = mask (bN b j) (min 8 (m - 8 * j))
  | 0, _, j, hj => by
    have : bitsTo w b 0 = [] := rfl
    rw [this, show min 8 (0 - 8 * j) = 0 by omega, mask_zero _ (bN_lt b j)]
    rw [show bm [] = List.replicate 32 0 from rfl, List.getD_eq_getElem?_getD, List.getElem?_replicate, if_pos hj]; rfl
  | m + 1, hm, j, hj => by
    have ih := bm_byte w b hn m (by omega)
    have hb := bN_lt b (m / 8)
    cases hbit : bitAt b m with
    | true =>
      have hb1 : bN b (m / 8) / 2 ^ (7 - m % 8) % 2 = 1 := by unfold bitAt at hbit; simpa using hbit
      rw [bitsTo_yes hbit, bm_snoc]
      have e1 : (256 * w + m) % 256 / 8 = m / 8 := by omega
      have e2 : (256 * w + m) % 8 = m % 8 := by omega
      unfold bmSet bitOf
      rw [e1, e2]
      have hl : m / 8 < (bm (bitsTo w b m)).length := by rw [bm_length]; omega
      by_cases hjm : j = m / 8
      · subst hjm
        rw [List.getD_eq_getElem?_getD, List.getElem?_set_self hl, Option.getD_some, UInt8.toNat_or, ih (m / 8) hj]
        have e3 : (UInt8.ofNat (128 / 2 ^ (m % 8))).toNat = 128 / 2 ^ (m % 8) := by
          have : 128 / 2 ^ (m % 8) ≤ 128 := Nat.div_le_self _ _
          rw [UInt8.toNat_ofNat', Nat.mod_eq_of_lt (by omega)]
        have e4 : min 8 (m - 8 * (m / 8)) = m % 8 := by omega
        have e5 : min 8 (m + 1 - 8 * (m / 8)) = m % 8 + 1 := by omega
        rw [e3, e4, e5]
        exact mask_or _ _ (by omega) hb1
      · rw [List.getD_eq_getElem?_getD, List.getElem?_set_ne (by omega), ← List.getD_eq_getElem?_getD, ih j hj]
        congr 1
        omega
    | false =>
      have hb0 : bN b (m / 8) / 2 ^ (7 - m % 8) % 2 = 0 := by
        unfold bitAt at hbit
        have : ¬ bN b (m / 8) / 2 ^ (7 - m % 8) % 2 = 1 := by simpa using hbit
        omega
      rw [bitsTo_no hbit, ih j hj]
      by_cases hjm : j = m / 8
      · subst hjm
        have e4 : min 8 (m - 8 * (m / 8)) = m % 8 := by omega
        have e5 : min 8 (m + 1 - 8 * (m / 8)) = m % 8 + 1 := by omega
        rw [e4, e5, mask_step _ _ (by omega), hb0]; simp
      · congr 1
        omega
theorem bm_take (w : Nat) (b : ByteArray) (hn : b.size ≤ 32) : (bm (bitsTo w b (8 * b.size))).take b.size = b.data.toList := by
  have hl : b.data.toList.length = b.size := by rw [Array.length_toList]; rfl
  apply List.ext_getElem?
  intro j
  by_cases hj : j < b.size
  · have h := bm_byte w b hn (8 * b.size) (Nat.le_refl _) j (by omega)
    rw [show min 8 (8 * b.size - 8 * j) = 8 by omega, mask_all] at h
    rw [List.getElem?_take, if_pos hj, bN_byte b j hj]
    have hl2 : j < (bm (bitsTo w b (8 * b.size))).length := by rw [bm_length]; omega
    rw [List.getElem?_eq_getElem hl2]
    rw [List.getD_eq_getElem?_getD, List.getElem?_eq_getElem hl2, Option.getD_some] at h
    rw [← h]; simp
  · rw [List.getElem?_eq_none (by rw [List.length_take, bm_length]; omega), List.getElem?_eq_none (by omega)]
theorem last_bit (w : Nat) (b : ByteArray) (m0 : Nat) (h : bitAt b m0 = true) : ∀ j, ∃ mx, m0 ≤ mx ∧ mx < m0 + 1 + j ∧ (bitsTo w b (m0 + 1 + j)).getLast? = some (256 * w + mx)
  | 0 => ⟨m0, Nat.le_refl _, by omega, by rw [Nat.add_zero, bitsTo_yes h]; simp⟩
  | j + 1 => by
    obtain ⟨mx, h1, h2, h3⟩ := last_bit w b m0 h j
    rw [show m0 + 1 + (j + 1) = (m0 + 1 + j) + 1 by omega]
    cases hb : bitAt b (m0 + 1 + j) with
    | true => exact ⟨m0 + 1 + j, by omega, by omega, by rw [bitsTo_yes hb]; simp⟩
    | false => exact ⟨mx, h1, by omega, by rw [bitsTo_no hb]; exact h3⟩
theorem some_bit (x : Nat) (hx : x < 256) (h0 : x ≠ 0) : ∃ k, k < 8 ∧ x / 2 ^ (7 - k) % 2 = 1 := by
  false_or_by_contra
  rename_i hno
  have h : ∀ k, k ≤ 8 → mask x k = 0 := by
    intro k
    induction k with
    | zero => intro _; exact mask_zero x hx
    | succ k ih =>
      intro hk
      rw [mask_step x k (by omega), ih (by omega)]
      have : ¬ x / 2 ^ (7 - k) % 2 = 1 := fun e => hno ⟨k, by omega, e⟩
      have e : x / 2 ^ (7 - k) % 2 = 0 := by omega
      rw [e]; simp
  have := h 8 (Nat.le_refl _)
  rw [mask_all] at this
  exact h0 this
theorem lastAt_bits (w : Nat) (b : ByteArray) (h0 : 0 < b.size) (hn : b.size ≤ 32) (hz : bN b (b.size - 1) ≠ 0) : lastAt (bitsTo w b (8 * b.size)) + 1 = b.size ∧ bitsTo w b (8 * b.size) ≠ [] := by
  obtain ⟨k, hk, hb⟩ := some_bit _ (bN_lt b (b.size - 1)) hz
  have hbit : bitAt b (8 * (b.size - 1) + k) = true := by
    unfold bitAt
    rw [show (8 * (b.size - 1) + k) / 8 = b.size - 1 by omega, show (8 * (b.size - 1) + k) % 8 = k by omega, hb]; rfl
  obtain ⟨mx, h1, h2, h3⟩ := last_bit w b _ hbit (8 * b.size - (8 * (b.size - 1) + k + 1))
  rw [show 8 * (b.size - 1) + k + 1 + (8 * b.size - (8 * (b.size - 1) + k + 1)) = 8 * b.size by omega] at h2 h3
  refine ⟨?_, ?_⟩
  · unfold lastAt; rw [h3]; simp only; omega
  · intro e; rw [e] at h3; cases h3
theorem bits_mem {w : Nat} {b : ByteArray} {m t : Nat} (h : t ∈ bitsTo w b m) : ∃ k, k < m ∧ t = 256 * w + k := by
  unfold bitsTo at h
  obtain ⟨k, hk, rfl⟩ := List.mem_map.1 h
  exact ⟨k, List.mem_range.1 (List.mem_filter.1 hk).1, rfl⟩
theorem bits_sorted (w : Nat) (b : ByteArray) (m : Nat) : (bitsTo w b m).Pairwise (· < ·) := by
  unfold bitsTo
  rw [List.pairwise_map]
  exact (List.pairwise_lt_range.filter _).imp (fun h => by omega)
/-- A window ahead of the others. -/
theorem typesL_ahead (a l : List Nat) (w : Nat) (hw : w < 256) (ha : ∀ x ∈ a, x / 256 = w) (hl : ∀ x ∈ l, w < x / 256) (hne : a ≠ []) : typesL (a ++ l) = blkOf w a ++ typesL l := by
  have h0 : ∀ j, j ≤ w → blks j (a ++ l) = [] := by
    intro j
    induction j with
    | zero => intro _; rfl
    | succ j ih =>
      intro hj
      rw [blks_succ, ih (by omega), blk, win_append, win_none j a (fun x hx => by rw [ha x hx]; omega), win_none j l (fun x hx => by have := hl x hx; omega)]; rfl
  have h0' : ∀ j, j ≤ w + 1 → blks j l = [] := by
    intro j
    induction j with
    | zero => intro _; rfl
    | succ j ih =>
      intro hj
      rw [blks_succ, ih (by omega), blk, win_none j l (fun x hx => by have := hl x hx; omega)]; rfl
  have h1 : blks (w + 1) (a ++ l) = blkOf w a := by
    rw [blks_succ, h0 w (Nat.le_refl _), blk, win_append, win_all w a ha, win_none w l (fun x hx => by have := hl x hx; omega), List.append_nil, if_neg hne]; rfl
  have h2 : ∀ j, blks (w + 1 + j) (a ++ l) = blkOf w a ++ blks (w + 1 + j) l := by
    intro j
    induction j with
    | zero => rw [Nat.add_zero, h1, h0' (w + 1) (Nat.le_refl _), List.append_nil]
    | succ j ih =>
      rw [← Nat.add_assoc, blks_succ, blks_succ, ih, List.append_assoc]
      congr 2
      unfold blk
      rw [win_append, win_none (w + 1 + j) a (fun x hx => by rw [ha x hx]; omega), List.nil_append]
  have := h2 (256 - (w + 1))
  rw [show w + 1 + (256 - (w + 1)) = 256 by omega] at this
  exact this
theorem types_back : ∀ (k : Nat) (last : Int) (s : ByteArray) (l : List Nat), takeTypes k last s = some l →
    (∀ t ∈ l, last < ((t / 256 : Nat) : Int) ∧ t < 65536) ∧ l.Pairwise (· < ·) ∧ typesL l = s.data.toList
  | 0, last, s, l, h => by
    unfold takeTypes at h
    split at h
    · rename_i h0
      cases h
      refine ⟨by simp, List.Pairwise.nil, ?_⟩
      rw [typesL_nil]
      exact (List.eq_nil_of_length_eq_zero (by rw [Array.length_toList]; exact h0)).symm
    · cases h
  | k + 1, last, s, l, h => by
    unfold takeTypes at h
    split at h
    · rename_i h0
      cases h
      refine ⟨by simp, List.Pairwise.nil, ?_⟩
      rw [typesL_nil]
      exact (List.eq_nil_of_length_eq_zero (by rw [Array.length_toList]; exact h0)).symm
    · unfold takeWin at h
      cases h1 : takeNum 1 s with
      | none => rw [h1] at h; cases h
      | some x =>
        obtain ⟨w, s1⟩ := x
        rw [h1] at h
        simp only at h
        cases h2 : takeNum 1 s1 with
        | none => rw [h2] at h; cases h
        | some x =>
          obtain ⟨n, s2⟩ := x
          rw [h2] at h
          simp only at h
          cases h3 : takeBytes n s2 with
          | none => rw [h3] at h; cases h
          | some x =>
            obtain ⟨b, s3⟩ := x
            rw [h3] at h
            simp only at h
            by_cases hok : winOk last w n b = true
            · rw [if_pos hok] at h
              simp only [Option.map_eq_some_iff] at h
              obtain ⟨l', hl', rfl⟩ := h
              obtain ⟨i1, i2, i3⟩ := types_back k _ s3 l' hl'
              have hn := (takeBytes_size h3).2
              subst hn
              simp only [winOk, Bool.and_eq_true, decide_eq_true_eq, bne_iff_ne] at hok
              obtain ⟨⟨⟨o1, o2⟩, o3⟩, o4⟩ := hok
              have hw : w < 256 := by
                unfold takeNum at h1
                split at h1
                · have e := (Prod.mk.inj (Option.some.inj h1)).1
                  have := numB_lt s 1
                  omega
                · cases h1
              obtain ⟨g1, g2⟩ := lastAt_bits w b o2 o3 o4
              have hts : ∀ t ∈ bitsTo w b (8 * b.size), t / 256 = w ∧ t < 65536 := by
                intro t ht
                obtain ⟨m, hm, rfl⟩ := bits_mem ht
                omega
              refine ⟨?_, ?_, ?_⟩
              · intro t ht
                rcases List.mem_append.1 ht with h | h
                · have := hts t h
                  rw [this.1]; exact ⟨o1, this.2⟩
                · have := i1 t h
                  exact ⟨by omega, this.2⟩
              · rw [List.pairwise_append]
                refine ⟨bits_sorted _ _ _, i2, fun x hx y hy => ?_⟩
                have h4 := (hts x hx).1
                have h5 := (i1 y hy).1
                omega
              · rw [typesL_ahead _ _ w hw (fun x hx => (hts x hx).1) (fun x hx => by have := (i1 x hx).1; omega) g2, i3, blkOf, g1, bm_take w b o3,
                  ← (num_back h1).1, ← (num_back h2).1, ← bytes_back h3]
                simp only [List.append_assoc]
            · rw [if_neg hok] at h; cases h
theorem iAt_intsOf (l : List Nat) (i : Nat) (h : i < l.length) : iAt (intsOf l) i = (l[i] : Int) := by
  unfold iAt intsOf
  rw [List.getD_eq_getElem?_getD, List.getElem?_map, List.getElem?_eq_getElem h]; rfl
theorem tysBad_no (l : List Int) : ∀ k, (∀ i, i < k → tyBad l i = false) → tysBad l k = false
  | 0, _ => rfl
  | k + 1, h => by rw [tysBad, tysBad_no l k (fun i hi => h i (by omega)), h k (by omega)]; rfl
theorem types_fine {l : List Nat} (hb : ∀ t ∈ l, t < 65536) (hp : l.Pairwise (· < ·)) : typesBad (intsOf l) = false := by
  refine tysBad_no _ _ (fun i hi => ?_)
  have hi' : i < l.length := by simpa [intsOf] using hi
  unfold tyBad
  rw [iAt_intsOf l i hi']
  have h1 := hb l[i] (List.getElem_mem hi')
  have e1 : decide ((0 : Int) ≤ (l[i] : Int)) = true := by simp
  have e2 : decide ((l[i] : Int) < 65536) = true := by simp; omega
  rw [e1, e2]
  by_cases h0 : 0 < i
  · rw [iAt_intsOf l (i - 1) (by omega)]
    have h2 := List.pairwise_iff_getElem.1 hp (i - 1) i (by omega) hi' (by omega)
    have e3 : decide ((l[i] : Int) ≤ (l[i - 1] : Int)) = false := by simp; omega
    rw [e3]; simp
  · have e3 : decide (0 < i) = false := by simpa using h0
    rw [e3]; rfl
theorem typesS_back {k : Nat} {last : Int} {s : ByteArray} {l : List Nat} (h : takeTypes k last s = some l) : typesBad (intsOf l) = false ∧ typesS (intsOf l) = s.data.toList := by
  obtain ⟨h1, h2, h3⟩ := types_back k last s l h
  have hf := types_fine (fun t ht => (h1 t ht).2) h2
  refine ⟨hf, ?_⟩
  unfold typesS
  rw [hf, natsOf_intsOf]
  exact h3
theorem whole_all {α : Type} {s : ByteArray} {x : Option (α × ByteArray)} {a : α} (h : wholeOf s x = some a) : s.size ≤ 2000 ∧ ∃ r, x = some (a, r) ∧ r.data.toList = [] := by
  unfold wholeOf at h
  split at h
  · rename_i h2
    cases x with
    | none => cases h
    | some y =>
      obtain ⟨b, r⟩ := y
      simp only at h
      split at h
      · rename_i h0
        cases h; exact ⟨h2, r, rfl, List.eq_nil_of_length_eq_zero (by rw [Array.length_toList]; exact h0)⟩
      · cases h
  · cases h
theorem doneV_back {s : ByteArray} {l : List UInt8} {bad : Bool} (h2 : s.size ≤ 2000) (hb : bad = false) (hl : l = s.data.toList) : doneV l bad = (s, 0) := by
  subst hb hl
  have hz : s.data.toList.length = s.size := by rw [Array.length_toList]; rfl
  unfold doneV
  rw [if_neg (by simp; omega)]
theorem key_back {s : ByteArray} {a : Key} (h : wholeOf s (takeKey s) = some a) : doneV (keyL a) (keyBad a) = (s, 0) := by
  obtain ⟨h2, r, hx, hr⟩ := whole_all h
  unfold takeKey at hx
  simp only [Option.bind_eq_bind, Option.bind_eq_some_iff] at hx
  obtain ⟨⟨a1, r1⟩, h1, ⟨a2, r2⟩, h3, ⟨a3, r3⟩, h4, ⟨a4, r4⟩, h5, h6⟩ := hx
  simp only [Option.some.injEq, Prod.mk.injEq] at h6
  obtain ⟨rfl, rfl⟩ := h6
  obtain ⟨e1, b1⟩ := num_back h1
  obtain ⟨e2, b2⟩ := num_back h3
  obtain ⟨e3, b3⟩ := num_back h4
  obtain ⟨e4, _, b4⟩ := rest_back h5
  subst e4
  refine doneV_back h2 (by simp only [keyBad, b1, b2, b3, b4]; rfl) ?_
  rw [← e1, ← e2, ← e3]; simp [keyL]
theorem ds_back {s : ByteArray} {a : Ds} (h : wholeOf s (takeDs s) = some a) : doneV (dsL a) (dsBad a) = (s, 0) := by
  obtain ⟨h2, r, hx, hr⟩ := whole_all h
  unfold takeDs at hx
  simp only [Option.bind_eq_bind, Option.bind_eq_some_iff] at hx
  obtain ⟨⟨a1, r1⟩, h1, ⟨a2, r2⟩, h3, ⟨a3, r3⟩, h4, ⟨a4, r4⟩, h5, h6⟩ := hx
  simp only [Option.some.injEq, Prod.mk.injEq] at h6
  obtain ⟨rfl, rfl⟩ := h6
  obtain ⟨e1, b1⟩ := num_back h1
  obtain ⟨e2, b2⟩ := num_back h3
  obtain ⟨e3, b3⟩ := num_back h4
  obtain ⟨e4, _, b4⟩ := rest_back h5
  subst e4
  refine doneV_back h2 (by simp only [dsBad, b1, b2, b3, b4]; rfl) ?_
  rw [← e1, ← e2, ← e3]; simp [dsL]
theorem sig_back {s : ByteArray} {a : Sig} (h : wholeOf s (takeSig s) = some a) : doneV (sigL a) (sigBad a) = (s, 0) := by
  obtain ⟨h2, r, hx, hr⟩ := whole_all h
  unfold takeSig at hx
  simp only [Option.bind_eq_bind, Option.bind_eq_some_iff] at hx
  obtain ⟨⟨a1, r1⟩, h1, ⟨a2, r2⟩, h3, ⟨a3, r3⟩, h4, ⟨a4, r4⟩, h5, ⟨a5, r5⟩, h6, ⟨a6, r6⟩, h7, ⟨a7, r7⟩, h8, ⟨a8, r8⟩, h9, ⟨a9, r9⟩, h10, h11⟩ := hx
  simp only [Option.some.injEq, Prod.mk.injEq] at h11
  obtain ⟨rfl, rfl⟩ := h11
  obtain ⟨e1, b1⟩ := num_back h1
  obtain ⟨e2, b2⟩ := num_back h3
  obtain ⟨e3, b3⟩ := num_back h4
  obtain ⟨e4, b4⟩ := num_back h5
  obtain ⟨e5, b5⟩ := num_back h6
  obtain ⟨e6, b6⟩ := num_back h7
  obtain ⟨e7, b7⟩ := num_back h8
  obtain ⟨e8, b8⟩ := name_back h9
  obtain ⟨e9, _, b9⟩ := rest_back h10
  subst e9
  refine doneV_back h2 (by simp only [sigBad, b1, b2, b3, b4, b5, b6, b7, b8, b9]; rfl) ?_
  rw [← e1, ← e2, ← e3, ← e4, ← e5, ← e6, ← e7, ← e8]; simp [sigL]
theorem soa_back {s : ByteArray} {a : Soa} (h : wholeOf s (takeSoa s) = some a) : doneV (soaL a) (soaBad a) = (s, 0) := by
  obtain ⟨h2, r, hx, hr⟩ := whole_all h
  unfold takeSoa at hx
  simp only [Option.bind_eq_bind, Option.bind_eq_some_iff] at hx
  obtain ⟨⟨a1, r1⟩, h1, ⟨a2, r2⟩, h3, ⟨a3, r3⟩, h4, ⟨a4, r4⟩, h5, ⟨a5, r5⟩, h6, ⟨a6, r6⟩, h7, ⟨a7, r7⟩, h8, h11⟩ := hx
  simp only [Option.some.injEq, Prod.mk.injEq] at h11
  obtain ⟨rfl, rfl⟩ := h11
  obtain ⟨e1, b1⟩ := name_back h1
  obtain ⟨e2, b2⟩ := name_back h3
  obtain ⟨e3, b3⟩ := num_back h4
  obtain ⟨e4, b4⟩ := num_back h5
  obtain ⟨e5, b5⟩ := num_back h6
  obtain ⟨e6, b6⟩ := num_back h7
  obtain ⟨e7, b7⟩ := num_back h8
  refine doneV_back h2 (by simp only [soaBad, b1, b2, b3, b4, b5, b6, b7]; rfl) ?_
  rw [hr] at e7
  rw [← e1, ← e2, ← e3, ← e4, ← e5, ← e6, ← e7]; simp [soaL]
theorem nsec_back {s : ByteArray} {a : Nsec} (h : wholeOf s (takeNsec s) = some a) : doneV (nsecL a) (nsecBad a) = (s, 0) := by
  obtain ⟨h2, r, hx, hr⟩ := whole_all h
  unfold takeNsec at hx
  simp only [Option.bind_eq_bind, Option.bind_eq_some_iff] at hx
  obtain ⟨⟨a1, r1⟩, h1, l, h3, h11⟩ := hx
  simp only [Option.some.injEq, Prod.mk.injEq] at h11
  obtain ⟨rfl, rfl⟩ := h11
  obtain ⟨e1, b1⟩ := name_back h1
  obtain ⟨b2, e2⟩ := typesS_back h3
  simp only at e2
  refine doneV_back h2 (by simp only [nsecBad, b1, b2]; rfl) ?_
  rw [← e1, ← e2]; simp [nsecL]
theorem nsec3_back {s : ByteArray} {a : Nsec3} (h : wholeOf s (takeNsec3 s) = some a) : doneV (nsec3L a) (nsec3Bad a) = (s, 0) := by
  obtain ⟨h2, r, hx, hr⟩ := whole_all h
  unfold takeNsec3 takeShort at hx
  simp only [Option.bind_eq_bind, Option.bind_eq_some_iff] at hx
  obtain ⟨⟨a1, r1⟩, h1, ⟨a2, r2⟩, h3, ⟨a3, r3⟩, h4, ⟨a4, r4⟩, ⟨⟨n1, q1⟩, g1, g2⟩, ⟨a5, r5⟩, ⟨⟨n2, q2⟩, g3, g4⟩, h6⟩ := hx
  obtain ⟨e1, b1⟩ := num_back h1
  obtain ⟨e2, b2⟩ := num_back h3
  obtain ⟨e3, b3⟩ := num_back h4
  obtain ⟨e4, b4⟩ := num_back g1
  have e5 := bytes_back g2
  have z5 := (takeBytes_size g2).2
  obtain ⟨e6, b6⟩ := num_back g3
  have e7 := bytes_back g4
  have z7 := (takeBytes_size g4).2
  simp only at z5 z7 e5 e7
  subst z5 z7
  split at h6
  · cases h6
  · rename_i hne
    simp only [Option.bind_eq_some_iff] at h6
    obtain ⟨l, h7, h8⟩ := h6
    simp only [Option.some.injEq, Prod.mk.injEq] at h8
    obtain ⟨rfl, rfl⟩ := h8
    obtain ⟨b8, e8⟩ := typesS_back h7
    have hne' : ¬ a5.size = 0 := hne
    have b9 : decide ((a5.size : Int) < 1) = false := decide_eq_false (by omega)
    refine doneV_back h2 (by simp only [nsec3Bad, b1, b2, b3, b4, b6, b8, b9]; rfl) ?_
    rw [← e1, ← e2, ← e3, ← e4, ← e5, ← e6, ← e7, ← e8]; simp [nsec3L]
theorem num_rng {n v : Nat} {s r : ByteArray} (h : takeNum n s = some (v, r)) (h4 : n ≤ 4) : (0 : Int) ≤ (v : Int) ∧ (v : Int) < 4294967296 := by
  unfold takeNum at h
  split at h
  · simp only [Option.some.injEq, Prod.mk.injEq] at h
    obtain ⟨rfl, _⟩ := h
    have h1 := numB_lt s n
    have h2 : 256 ^ n ≤ 256 ^ 4 := Nat.pow_le_pow_right (by omega) h4
    have h3 : (256 : Nat) ^ 4 = 4294967296 := by decide
    omega
  · cases h
theorem num_sz {n v : Nat} {s r : ByteArray} (h : takeNum n s = some (v, r)) : r.size ≤ s.size := by have := takeNum_size h; omega
theorem name_sz {s b r : ByteArray} (h : takeName s = some (b, r)) : r.size ≤ s.size ∧ b.size ≤ s.size := by
  have e := congrArg List.length (name_back h).1
  have h1 : ∀ x : ByteArray, x.data.toList.length = x.size := fun x => by rw [Array.length_toList]; rfl
  rw [List.length_append, h1, h1, h1] at e; omega
theorem rest_sz {s b r : ByteArray} (h : takeRest s = some (b, r)) : b.size ≤ s.size := by rw [(rest_back h).1]; exact Nat.le_refl _
theorem key_rng {s : ByteArray} {a : Key} (h : wholeOf s (takeKey s) = some a) : (∀ n ∈ ([a.flags, a.protocol, a.alg] : List Int), 0 ≤ n ∧ n < 4294967296) ∧ a.pub.size ≤ 2000 := by
  obtain ⟨h2, r, hx, hr⟩ := whole_all h
  unfold takeKey at hx
  simp only [Option.bind_eq_bind, Option.bind_eq_some_iff] at hx
  obtain ⟨⟨a1, r1⟩, h1, ⟨a2, r2⟩, h3, ⟨a3, r3⟩, h4, ⟨a4, r4⟩, h5, h6⟩ := hx
  simp only [Option.some.injEq, Prod.mk.injEq] at h6
  obtain ⟨rfl, rfl⟩ := h6
  have q1 := num_rng h1 (by decide)
  have q2 := num_rng h3 (by decide)
  have q3 := num_rng h4 (by decide)
  have z1 := num_sz h1
  have z2 := num_sz h3
  have z3 := num_sz h4
  have z4 := rest_sz h5
  simp only at z2 z3 z4
  refine ⟨?_, by dsimp only; omega⟩
  intro n hn
  simp only [List.mem_cons, List.not_mem_nil, or_false] at hn
  rcases hn with rfl | rfl | rfl <;> assumption
theorem ds_rng {s : ByteArray} {a : Ds} (h : wholeOf s (takeDs s) = some a) : (∀ n ∈ ([a.tag, a.alg, a.kind] : List Int), 0 ≤ n ∧ n < 4294967296) ∧ a.digest.size ≤ 2000 := by
  obtain ⟨h2, r, hx, hr⟩ := whole_all h
  unfold takeDs at hx
  simp only [Option.bind_eq_bind, Option.bind_eq_some_iff] at hx
  obtain ⟨⟨a1, r1⟩, h1, ⟨a2, r2⟩, h3, ⟨a3, r3⟩, h4, ⟨a4, r4⟩, h5, h6⟩ := hx
  simp only [Option.some.injEq, Prod.mk.injEq] at h6
  obtain ⟨rfl, rfl⟩ := h6
  have q1 := num_rng h1 (by decide)
  have q2 := num_rng h3 (by decide)
  have q3 := num_rng h4 (by decide)
  have z1 := num_sz h1
  have z2 := num_sz h3
  have z3 := num_sz h4
  have z4 := rest_sz h5
  simp only at z2 z3 z4
  refine ⟨?_, by dsimp only; omega⟩
  intro n hn
  simp only [List.mem_cons, List.not_mem_nil, or_false] at hn
  rcases hn with rfl | rfl | rfl <;> assumption
theorem sig_rng {s : ByteArray} {a : Sig} (h : wholeOf s (takeSig s) = some a) : (∀ n ∈ ([a.covered, a.alg, a.labels, a.ttl, a.fin, a.start, a.tag] : List Int), 0 ≤ n ∧ n < 4294967296) ∧ a.signer.size ≤ 2000 ∧ a.sign.size ≤ 2000 := by
  obtain ⟨h2, r, hx, hr⟩ := whole_all h
  unfold takeSig at hx
  simp only [Option.bind_eq_bind, Option.bind_eq_some_iff] at hx
  obtain ⟨⟨a1, r1⟩, h1, ⟨a2, r2⟩, h3, ⟨a3, r3⟩, h4, ⟨a4, r4⟩, h5, ⟨a5, r5⟩, h6, ⟨a6, r6⟩, h7, ⟨a7, r7⟩, h8, ⟨a8, r8⟩, h9, ⟨a9, r9⟩, h10, h11⟩ := hx
  simp only [Option.some.injEq, Prod.mk.injEq] at h11
  obtain ⟨rfl, rfl⟩ := h11
  have q1 := num_rng h1 (by decide)
  have q2 := num_rng h3 (by decide)
  have q3 := num_rng h4 (by decide)
  have q4 := num_rng h5 (by decide)
  have q5 := num_rng h6 (by decide)
  have q6 := num_rng h7 (by decide)
  have q7 := num_rng h8 (by decide)
  have z1 := num_sz h1
  have z2 := num_sz h3
  have z3 := num_sz h4
  have z4 := num_sz h5
  have z5 := num_sz h6
  have z6 := num_sz h7
  have z7 := num_sz h8
  have z8 := name_sz h9
  have z9 := rest_sz h10
  simp only at z2 z3 z4 z5 z6 z7 z8 z9
  refine ⟨?_, by dsimp only; omega, by dsimp only; omega⟩
  intro n hn
  simp only [List.mem_cons, List.not_mem_nil, or_false] at hn
  rcases hn with rfl | rfl | rfl | rfl | rfl | rfl | rfl <;> assumption
theorem soa_rng {s : ByteArray} {a : Soa} (h : wholeOf s (takeSoa s) = some a) : (∀ n ∈ ([a.serial, a.refresh, a.retry, a.expire, a.minimum] : List Int), 0 ≤ n ∧ n < 4294967296) ∧ a.primary.size ≤ 2000 ∧ a.mail.size ≤ 2000 := by
  obtain ⟨h2, r, hx, hr⟩ := whole_all h
  unfold takeSoa at hx
  simp only [Option.bind_eq_bind, Option.bind_eq_some_iff] at hx
  obtain ⟨⟨a1, r1⟩, h1, ⟨a2, r2⟩, h3, ⟨a3, r3⟩, h4, ⟨a4, r4⟩, h5, ⟨a5, r5⟩, h6, ⟨a6, r6⟩, h7, ⟨a7, r7⟩, h8, h11⟩ := hx
  simp only [Option.some.injEq, Prod.mk.injEq] at h11
  obtain ⟨rfl, rfl⟩ := h11
  have q3 := num_rng h4 (by decide)
  have q4 := num_rng h5 (by decide)
  have q5 := num_rng h6 (by decide)
  have q6 := num_rng h7 (by decide)
  have q7 := num_rng h8 (by decide)
  have z1 := name_sz h1
  have z2 := name_sz h3
  simp only at z2
  refine ⟨?_, by dsimp only; omega, by dsimp only; omega⟩
  intro n hn
  simp only [List.mem_cons, List.not_mem_nil, or_false] at hn
  rcases hn with rfl | rfl | rfl | rfl | rfl <;> assumption
theorem nsec_rng {s : ByteArray} {a : Nsec} (h : wholeOf s (takeNsec s) = some a) : (∀ n ∈ ([] : List Int), 0 ≤ n ∧ n < 4294967296) ∧ a.next.size ≤ 2000 ∧ a.types.length ≤ 16000 := by
  obtain ⟨h2, r, hx, hr⟩ := whole_all h
  unfold takeNsec at hx
  simp only [Option.bind_eq_bind, Option.bind_eq_some_iff] at hx
  obtain ⟨⟨a1, r1⟩, h1, l, h3, h11⟩ := hx
  simp only [Option.some.injEq, Prod.mk.injEq] at h11
  obtain ⟨rfl, rfl⟩ := h11
  have z1 := name_sz h1
  have z2 := takeTypes_len _ _ _ _ h3
  simp only at z2
  refine ⟨by simp, by dsimp only; omega, ?_⟩
  simp only [intsOf, List.length_map]; omega
theorem nsec3_rng {s : ByteArray} {a : Nsec3} (h : wholeOf s (takeNsec3 s) = some a) : (∀ n ∈ ([a.alg, a.flags, a.rounds] : List Int), 0 ≤ n ∧ n < 4294967296) ∧ a.salt.size ≤ 2000 ∧ a.next.size ≤ 2000 ∧ a.types.length ≤ 16000 := by
  obtain ⟨h2, r, hx, hr⟩ := whole_all h
  unfold takeNsec3 takeShort at hx
  simp only [Option.bind_eq_bind, Option.bind_eq_some_iff] at hx
  obtain ⟨⟨a1, r1⟩, h1, ⟨a2, r2⟩, h3, ⟨a3, r3⟩, h4, ⟨a4, r4⟩, ⟨⟨n1, q1'⟩, g1, g2⟩, ⟨a5, r5⟩, ⟨⟨n2, q2'⟩, g3, g4⟩, h6⟩ := hx
  have q1 := num_rng h1 (by decide)
  have q2 := num_rng h3 (by decide)
  have q3 := num_rng h4 (by decide)
  have z1 := num_sz h1
  have z2 := num_sz h3
  have z3 := num_sz h4
  have z4 := num_sz g1
  have z5 := takeBytes_size g2
  have z6 := num_sz g3
  have z7 := takeBytes_size g4
  simp only at z2 z3 z4 z5 z6 z7
  split at h6
  · cases h6
  · simp only [Option.bind_eq_some_iff] at h6
    obtain ⟨l, h7, h8⟩ := h6
    have z8 := takeTypes_len _ _ _ _ h7
    simp only [Option.some.injEq, Prod.mk.injEq] at h8
    obtain ⟨rfl, rfl⟩ := h8
    refine ⟨?_, by dsimp only; omega, by dsimp only; omega, ?_⟩
    · intro n hn
      simp only [List.mem_cons, List.not_mem_nil, or_false] at hn
      rcases hn with rfl | rfl | rfl <;> assumption
    · simp only [intsOf, List.length_map]; omega
end Gp
