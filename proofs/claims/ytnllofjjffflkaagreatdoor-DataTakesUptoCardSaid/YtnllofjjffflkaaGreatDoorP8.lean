/- Plain law: lists of types as bytes: no program in sight. -/
import Derived.Test.YtnllofjjffflkaaGreatDoorP3
set_option linter.unusedSimpArgs false
set_option linter.unusedVariables false
namespace Gp
/-- The bit of a type in its byte. -/
def bitOf (t : Nat) : UInt8 := UInt8.ofNat (128 / 2 ^ (t % 8))
/-- A type's bit set among 32 bytes. -/
def bmSet (b : List UInt8) (t : Nat) : List UInt8 := b.set (t % 256 / 8) (b.getD (t % 256 / 8) 0 ||| bitOf t)
/-- The bits of some types. -/
def bm (seg : List Nat) : List UInt8 := seg.foldl bmSet (List.replicate 32 0)
theorem bmSet_length (b : List UInt8) (t : Nat) : (bmSet b t).length = b.length := by simp [bmSet]
theorem foldl_bm_length : ∀ (seg : List Nat) (b : List UInt8), (seg.foldl bmSet b).length = b.length
  | [], b => rfl
  | t :: r, b => by rw [List.foldl_cons, foldl_bm_length r, bmSet_length]
theorem bm_length (seg : List Nat) : (bm seg).length = 32 := by rw [bm, foldl_bm_length, List.length_replicate]
theorem bm_snoc (seg : List Nat) (t : Nat) : bm (seg ++ [t]) = bmSet (bm seg) t := by simp [bm]
/-- The place of the last type's byte. -/
def lastAt (seg : List Nat) : Nat := match seg.getLast? with | none => 0 | some t => t % 256 / 8
theorem lastAt_snoc (seg : List Nat) (t : Nat) : lastAt (seg ++ [t]) = t % 256 / 8 := by simp [lastAt]
theorem lastAt_lt (seg : List Nat) : lastAt seg < 32 := by unfold lastAt; split <;> omega
/-- What a window's types are put down as. -/
def blkOf (w : Nat) (seg : List Nat) : List UInt8 := be (w : Int) 1 ++ be ((lastAt seg + 1 : Nat) : Int) 1 ++ (bm seg).take (lastAt seg + 1)
theorem blkOf_length (w : Nat) (seg : List Nat) : (blkOf w seg).length = lastAt seg + 3 := by
  have := lastAt_lt seg
  simp only [blkOf, List.length_append, be_length, List.length_take, bm_length]; omega
def win (w : Nat) (l : List Nat) : List Nat := l.filter (fun t => t / 256 == w)
def blk (w : Nat) (l : List Nat) : List UInt8 := if win w l = [] then [] else blkOf w (win w l)
theorem blk_length (w : Nat) (l : List Nat) : (blk w l).length ≤ 34 := by
  unfold blk; split
  · simp
  · rw [blkOf_length]; have := lastAt_lt (win w l); omega
/-- The first windows of a list of types, as bytes. -/
def blks (k : Nat) (l : List Nat) : List UInt8 := (List.range k).flatMap (blk · l)
theorem blks_succ (k : Nat) (l : List Nat) : blks (k + 1) l = blks k l ++ blk k l := by simp [blks, List.range_succ]
theorem blks_length (l : List Nat) : ∀ k, (blks k l).length ≤ 34 * k
  | 0 => by simp [blks]
  | k + 1 => by rw [blks_succ, List.length_append]; have := blks_length l k; have := blk_length k l; omega
def typesL (l : List Nat) : List UInt8 := blks 256 l
theorem typesL_length (l : List Nat) : (typesL l).length ≤ 8704 := blks_length l 256
theorem win_append (w : Nat) (a b : List Nat) : win w (a ++ b) = win w a ++ win w b := by simp [win]
theorem win_none (w : Nat) (a : List Nat) (h : ∀ x ∈ a, x / 256 ≠ w) : win w a = [] := by
  rw [win, List.filter_eq_nil_iff]; intro x hx; simpa using h x hx
theorem win_all (w : Nat) (a : List Nat) (h : ∀ x ∈ a, x / 256 = w) : win w a = a := by
  rw [win, List.filter_eq_self]; intro x hx; simpa using h x hx
theorem blks_none (a : List Nat) (w : Nat) (h : ∀ x ∈ a, x / 256 < w) : ∀ j, blks (w + j) a = blks w a
  | 0 => rfl
  | j + 1 => by
    rw [← Nat.add_assoc, blks_succ, blks_none a w h j, blk, win_none _ _ (fun x hx => by have := h x hx; omega)]; simp
theorem blks_same (a b : List Nat) (w : Nat) (h : ∀ x ∈ b, w ≤ x / 256) : ∀ j, j ≤ w → blks j (a ++ b) = blks j a
  | 0, _ => rfl
  | j + 1, hj => by
    rw [blks_succ, blks_succ, blks_same a b w h j (by omega), blk, blk, win_append, win_none j b (fun x hx => by have := h x hx; omega), List.append_nil]
theorem typesL_step (a seg : List Nat) (w : Nat) (hw : w < 256) (ha : ∀ x ∈ a, x / 256 < w) (hs : ∀ x ∈ seg, x / 256 = w) (hne : seg ≠ []) :
    typesL (a ++ seg) = typesL a ++ blkOf w seg := by
  have e1 : typesL a = blks w a := by
    have := blks_none a w ha (256 - w)
    rw [show w + (256 - w) = 256 from by omega] at this; exact this
  have hall : ∀ x ∈ a ++ seg, x / 256 < w + 1 := by
    intro x hx
    rcases List.mem_append.1 hx with h | h
    · have := ha x h; omega
    · have := hs x h; omega
  have e2 : typesL (a ++ seg) = blks (w + 1) (a ++ seg) := by
    have := blks_none (a ++ seg) (w + 1) hall (256 - (w + 1))
    rw [show w + 1 + (256 - (w + 1)) = 256 from by omega] at this; exact this
  rw [e1, e2, blks_succ, blks_same a seg w (fun x hx => by rw [hs x hx]; exact Nat.le_refl _) w (Nat.le_refl _), blk, win_append,
    win_none w a (fun x hx => by have := ha x hx; omega), List.nil_append, win_all w seg hs, if_neg hne]
/-- A number of a list; 0 beyond its end. -/
def iAt (l : List Int) (i : Nat) : Int := l.getD i 0
/-- Is the type at i none, or not above the one ahead? -/
def tyBad (l : List Int) (i : Nat) : Bool := !(decide (0 ≤ iAt l i) && decide (iAt l i < 65536)) || (decide (0 < i) && decide (iAt l i ≤ iAt l (i - 1)))
/-- Are the first k of some numbers no types that rise? -/
def tysBad (l : List Int) : Nat → Bool
  | 0 => false
  | k + 1 => tysBad l k || tyBad l k
def typesBad (l : List Int) : Bool := tysBad l l.length
theorem tysBad_le (l : List Int) {i k : Nat} (h : tysBad l k = false) (hi : i < k) : tyBad l i = false := by
  induction k with
  | zero => omega
  | succ k ih =>
    simp only [tysBad, Bool.or_eq_false_iff] at h
    rcases Nat.lt_succ_iff_lt_or_eq.1 hi with h1 | rfl
    · exact ih h.1 h1
    · exact h.2
theorem tysBad_mono (l : List Int) {i k : Nat} (h : tyBad l i = true) (hi : i < k) : tysBad l k = true := by
  cases hk : tysBad l k with
  | true => rfl
  | false => rw [tysBad_le l hk hi] at h; cases h
/-- The types of a list of numbers. -/
def natsOf (l : List Int) : List Nat := l.map Int.toNat
theorem natsOf_length (l : List Int) : (natsOf l).length = l.length := by simp [natsOf]
theorem natsOf_get (l : List Int) (i : Nat) (h : i < l.length) : (natsOf l)[i]? = some (iAt l i).toNat := by
  simp [natsOf, iAt, List.getElem?_eq_getElem h, List.getD_eq_getElem?_getD]
theorem ty_range {l : List Int} (h : typesBad l = false) {i : Nat} (hi : i < l.length) : 0 ≤ iAt l i ∧ iAt l i < 65536 := by
  have := tysBad_le l h hi
  simp only [tyBad, Bool.or_eq_false_iff, Bool.not_eq_false', Bool.and_eq_true, decide_eq_true_eq] at this
  exact this.1
theorem ty_next {l : List Int} (h : typesBad l = false) {i : Nat} (hi : i + 1 < l.length) : iAt l i < iAt l (i + 1) := by
  have := tysBad_le l h hi
  simp only [tyBad, Bool.or_eq_false_iff, Bool.and_eq_false_iff, decide_eq_false_iff_not] at this
  rcases this.2 with h1 | h1
  · omega
  · rw [Nat.add_sub_cancel] at h1; omega
theorem ty_lt {l : List Int} (h : typesBad l = false) : ∀ {j i : Nat}, i < j → j < l.length → iAt l i < iAt l j := by
  intro j
  induction j with
  | zero => intro i hi; omega
  | succ j ih =>
    intro i hi hj
    have h1 := ty_next h hj
    rcases Nat.lt_succ_iff_lt_or_eq.1 hi with h2 | rfl
    · have := ih h2 (by omega); omega
    · exact h1
/-- A type of a list; the first ones; those between two places. -/
def tN (l : List Int) (i : Nat) : Nat := (iAt l i).toNat
def pre (l : List Int) (i : Nat) : List Nat := (natsOf l).take i
def seg (l : List Int) (i j : Nat) : List Nat := ((natsOf l).take j).drop i
theorem tN_eq {l : List Int} (h : typesBad l = false) {i : Nat} (hi : i < l.length) : iAt l i = (tN l i : Int) ∧ tN l i < 65536 := by
  have := ty_range h hi
  unfold tN; omega
theorem tN_lt {l : List Int} (h : typesBad l = false) {i j : Nat} (hij : i < j) (hj : j < l.length) : tN l i < tN l j := by
  have h1 := ty_lt h hij hj
  have h2 := ty_range h hj
  have h3 := ty_range h (show i < l.length by omega)
  unfold tN; omega
theorem pre_seg (l : List Int) {i j : Nat} (h : i ≤ j) : pre l j = pre l i ++ seg l i j := by
  unfold pre seg
  have : (natsOf l).take i = ((natsOf l).take j).take i := by rw [List.take_take, Nat.min_eq_left h]
  rw [this, List.take_append_drop]
theorem seg_self (l : List Int) (i : Nat) : seg l i i = [] := by
  unfold seg; rw [List.drop_eq_nil_iff, List.length_take]; exact Nat.min_le_left _ _
theorem seg_succ (l : List Int) {i j : Nat} (h : i ≤ j) (hj : j < l.length) : seg l i (j + 1) = seg l i j ++ [tN l j] := by
  unfold seg
  have e := natsOf_get l j hj
  obtain ⟨hlt, hv⟩ := List.getElem?_eq_some_iff.1 e
  rw [List.take_succ_eq_append_getElem hlt, List.drop_append_of_le_length (by rw [List.length_take, natsOf_length]; omega), hv]; rfl
theorem pre_all (l : List Int) : pre l l.length = natsOf l := by
  unfold pre; rw [List.take_of_length_le (by rw [natsOf_length]; exact Nat.le_refl _)]
theorem pre_mem {l : List Int} {i x : Nat} (hi : i ≤ l.length) (h : x ∈ pre l i) : ∃ j, j < i ∧ x = tN l j := by
  unfold pre at h
  obtain ⟨j, hj, rfl⟩ := List.getElem_of_mem h
  rw [List.length_take] at hj
  refine ⟨j, by omega, ?_⟩
  have e := natsOf_get l j (by omega)
  rw [List.getElem_take]
  obtain ⟨hlt, hv⟩ := List.getElem?_eq_some_iff.1 e
  exact hv
/-- Are all types ahead of a place in windows ahead of its own? -/
def Ahead (l : List Int) (i : Nat) : Prop := i < l.length → ∀ x ∈ pre l i, x / 256 < tN l i / 256
theorem ahead_zero (l : List Int) : Ahead l 0 := fun _ x hx => by simp [pre] at hx
theorem ahead_next {l : List Int} (h : typesBad l = false) {j : Nat} (hj0 : 0 < j) (hn : j < l.length → tN l j / 256 ≠ tN l (j - 1) / 256) : Ahead l j := fun hj x hx => by
  obtain ⟨k, hk, rfl⟩ := pre_mem (Nat.le_of_lt hj) hx
  have h1 := hn hj
  have h2 := tN_lt h (show j - 1 < j by omega) hj
  rcases Nat.lt_or_ge k (j - 1) with h3 | h3
  · have h4 := tN_lt h h3 (by omega)
    omega
  · obtain rfl : k = j - 1 := by omega
    omega
theorem typesL_seg {l : List Int} (h : typesBad l = false) {i j : Nat} (hij : i < j) (hj : j ≤ l.length) (ha : Ahead l i) (hs : ∀ x ∈ seg l i j, x / 256 = tN l i / 256) :
    typesL (pre l j) = typesL (pre l i) ++ blkOf (tN l i / 256) (seg l i j) := by
  rw [pre_seg l (Nat.le_of_lt hij)]
  refine typesL_step _ _ _ ?_ (ha (by omega)) hs ?_
  · have := (tN_eq h (show i < l.length by omega)).2; omega
  · intro e
    have := congrArg List.length e
    rw [seg, List.length_drop, List.length_take, natsOf_length, List.length_nil] at this; omega
/-- A list of types as bytes; none, if they are no types that rise. -/
def typesS (l : List Int) : List UInt8 := if typesBad l = true then [] else typesL (natsOf l)
theorem typesS_length (l : List Int) : (typesS l).length ≤ 8704 := by
  unfold typesS; split
  · simp
  · exact typesL_length _
/-- What types put down, behind what may be wrong already. -/
def typesE (bad : Bool) (l : List Int) : List UInt8 := if bad = true then [] else typesS l
theorem typesE_no {bad : Bool} {l : List Int} (h : true = (bad || typesBad l)) : typesE bad l = [] := by
  unfold typesE typesS
  cases bad with
  | true => rfl
  | false =>
    rw [Bool.false_or] at h
    rw [← h]; rfl
theorem typesE_yes {l : List Int} (h : typesBad l = false) : typesE false l = typesL (natsOf l) := by unfold typesE typesS; rw [h]; rfl
theorem typesL_nil : typesL [] = [] := by
  unfold typesL blks
  rw [List.flatMap_eq_nil_iff]
  intro w _; rfl
theorem pre_zero (l : List Int) : pre l 0 = [] := rfl
structure Nsec where
  next : ByteArray
  types : List Int
structure Nsec3 where
  alg : Int
  flags : Int
  rounds : Int
  salt : ByteArray
  next : ByteArray
  types : List Int
def nsecL (x : Nsec) : List UInt8 := x.next.data.toList ++ typesS x.types
def nsecBad (x : Nsec) : Bool := !rightB x.next || typesBad x.types
def nsec3L (x : Nsec3) : List UInt8 := be x.alg 1 ++ be x.flags 1 ++ be x.rounds 2 ++ be (x.salt.size : Int) 1 ++ x.salt.data.toList ++ be (x.next.size : Int) 1 ++ x.next.data.toList ++ typesS x.types
def nsec3Bad (x : Nsec3) : Bool := badNum x.alg 1 || badNum x.flags 1 || badNum x.rounds 2 || badNum (x.salt.size : Int) 1 || badNum (x.next.size : Int) 1 || decide ((x.next.size : Int) < 1) || typesBad x.types
end Gp
