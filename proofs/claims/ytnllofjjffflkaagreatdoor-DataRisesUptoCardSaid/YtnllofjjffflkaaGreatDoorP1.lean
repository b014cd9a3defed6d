/- Plain laws of names, numbers, bytes and types: no program in sight. -/
import Init
set_option linter.unusedSimpArgs false
set_option linter.unusedVariables false
namespace Gp
/-- A byte of a text, as a number; 0 beyond its end. -/
def bN (s : ByteArray) (i : Nat) : Nat := (s.data.toList.getD i 0).toNat
theorem bN_get (s : ByteArray) (i : Nat) (h : i < s.size) : (s[i]'h).toNat = bN s i := by
  have h' : i < s.data.size := h
  unfold bN
  have e : s[i]'h = s.data[i]'h' := rfl
  rw [e, List.getD_eq_getElem?_getD, Array.getElem?_toList, Array.getElem?_eq_getElem h']
  rfl
theorem bN_lt (s : ByteArray) (i : Nat) : bN s i < 256 := by unfold bN; exact UInt8.toNat_lt _

/-- A label begins at i, and lies in the text. -/
def okAt (s : ByteArray) (i : Nat) : Prop := i < s.size ∧ bN s i ≠ 0 ∧ bN s i ≤ 63 ∧ i + 1 + bN s i ≤ s.size
instance (s : ByteArray) (i : Nat) : Decidable (okAt s i) := by unfold okAt; infer_instance

/-- Where labels begin, from i on, at most k of them. -/
def starts (s : ByteArray) : Nat → Nat → List Nat
  | 0, _ => []
  | k + 1, i => if okAt s i then i :: starts s k (i + 1 + bN s i) else []
/-- Where the last of them ends. -/
def endOf (s : ByteArray) : Nat → Nat → Nat
  | 0, i => i
  | k + 1, i => if okAt s i then endOf s k (i + 1 + bN s i) else i
theorem starts_ok {s : ByteArray} {k i : Nat} (h : okAt s i) : starts s (k + 1) i = i :: starts s k (i + 1 + bN s i) := by simp [starts, h]
theorem starts_no {s : ByteArray} {k i : Nat} (h : ¬ okAt s i) : starts s k i = [] := by cases k <;> simp [starts, h]
theorem starts_more {s : ByteArray} : ∀ (k i j : Nat), s.size ≤ i + k → starts s (k + j) i = starts s k i
  | 0, i, j, h => by
    have : ¬ okAt s i := fun ⟨h', _⟩ => by omega
    rw [starts_no this, starts_no this]
  | k + 1, i, j, h => by
    by_cases o : okAt s i
    · rw [show k + 1 + j = (k + j) + 1 from by omega, starts_ok o, starts_ok o, starts_more k _ j (by omega)]
    · rw [starts_no o, starts_no o]
theorem starts_size {s : ByteArray} {k i : Nat} (h : s.size ≤ i + k) (h2 : i ≤ s.size) : starts s k i = starts s (s.size - i) i := by
  have := starts_more (s := s) (s.size - i) i (k - (s.size - i)) (by omega)
  rw [← this]; congr 1; omega
/-- All of the text's. -/
def labs (s : ByteArray) : List Nat := starts s s.size 0
/-- Is a text a name? -/
def rightB (s : ByteArray) : Bool := decide (s.size ≠ 0) && decide (s.size ≤ 255) && decide (endOf s s.size 0 = s.size - 1) && decide (bN s (s.size - 1) = 0)
theorem endOf_eq (s : ByteArray) : ∀ (k i : Nat), endOf s k i = (match (starts s k i).getLast? with | some j => j + 1 + bN s j | none => i)
  | 0, i => by simp [endOf, starts]
  | k + 1, i => by
    by_cases o : okAt s i
    · simp only [endOf, starts, o, if_true]
      rw [endOf_eq s k]
      cases h : starts s k (i + 1 + bN s i) with
      | nil => simp
      | cons a r => simp [List.getLast?_cons]
    · simp [endOf, starts, o]
theorem endOf_le (s : ByteArray) : ∀ (k i : Nat), i ≤ s.size → endOf s k i ≤ s.size
  | 0, i, h => by simpa [endOf] using h
  | k + 1, i, h => by
    by_cases o : okAt s i
    · simp only [endOf, o, if_true]; exact endOf_le s k _ o.2.2.2
    · simpa [endOf, o] using h
/-- The number of the first k bytes. -/
def numB (s : ByteArray) : Nat → Nat
  | 0 => 0
  | k + 1 => numB s k * 256 + bN s k
theorem numB_lt (s : ByteArray) : ∀ k, numB s k < 256 ^ k
  | 0 => by simp [numB]
  | k + 1 => by
    have h1 := numB_lt s k
    have h2 := bN_lt s k
    simp only [numB, Nat.pow_succ]
    omega
/-- How far a name goes that is taken: up to a 0, or the end. -/
def scan (s : ByteArray) : Nat → Nat → Nat
  | 0, i => i
  | k + 1, i => if i < s.size ∧ 0 < bN s i then scan s k (i + 1 + bN s i) else i
theorem scan_stop {s : ByteArray} {k i : Nat} (h : ¬ (i < s.size ∧ 0 < bN s i)) : scan s k i = i := by cases k <;> simp [scan, h]
theorem scan_go {s : ByteArray} {k i : Nat} (h : i < s.size ∧ 0 < bN s i) : scan s (k + 1) i = scan s k (i + 1 + bN s i) := by simp [scan, h]
theorem scan_more {s : ByteArray} : ∀ (k i j : Nat), s.size ≤ i + k → scan s (k + j) i = scan s k i
  | 0, i, j, h => by
    have : ¬ (i < s.size ∧ 0 < bN s i) := fun ⟨h', _⟩ => by omega
    rw [scan_stop this, scan_stop this]
  | k + 1, i, j, h => by
    by_cases o : i < s.size ∧ 0 < bN s i
    · rw [show k + 1 + j = (k + j) + 1 from by omega, scan_go o, scan_go o, scan_more k _ j (by omega)]
    · rw [scan_stop o, scan_stop o]
theorem scan_size {s : ByteArray} {k i : Nat} (h : s.size ≤ i + k) : scan s k i = scan s (s.size - i) i := by
  have := scan_more (s := s) (s.size - i) i (k - (s.size - i)) (by omega)
  rw [← this]; congr 1; omega
theorem scan_ge (s : ByteArray) : ∀ (k i : Nat), i ≤ scan s k i
  | 0, i => Nat.le_refl _
  | k + 1, i => by
    by_cases o : i < s.size ∧ 0 < bN s i
    · rw [scan_go o]; have := scan_ge s k (i + 1 + bN s i); omega
    · rw [scan_stop o]; omega
theorem scan_le (s : ByteArray) : ∀ (k i : Nat), i ≤ s.size + 256 → scan s k i ≤ s.size + 256
  | 0, i, h => h
  | k + 1, i, h => by
    by_cases o : i < s.size ∧ 0 < bN s i
    · rw [scan_go o]; exact scan_le s k _ (by have := bN_lt s i; omega)
    · rw [scan_stop o]; exact h
/-- A number of n bytes, a name, the rest, taken from a text. -/
def takeNum (n : Nat) (s : ByteArray) : Option (Nat × ByteArray) := if n ≤ s.size then some (numB s n, s.extract n s.size) else none
def takeBytes (n : Nat) (s : ByteArray) : Option (ByteArray × ByteArray) := if n ≤ s.size then some (s.extract 0 n, s.extract n s.size) else none
def nameEnd (s : ByteArray) : Nat := scan s s.size 0
def takeName (s : ByteArray) : Option (ByteArray × ByteArray) :=
  if nameEnd s + 1 ≤ s.size ∧ rightB (s.extract 0 (nameEnd s + 1)) = true then some (s.extract 0 (nameEnd s + 1), s.extract (nameEnd s + 1) s.size) else none
def takeRest (s : ByteArray) : Option (ByteArray × ByteArray) := if s.size ≠ 0 then some (s, ⟨#[]⟩) else none
end Gp
namespace Gp
/-- A byte of a number: the one at 256 ^ k. -/
def byteAt (v : Int) (k : Nat) : UInt8 := UInt8.ofNat ((v / 2 ^ (8 * k)) % 256).toNat
theorem byteAt_val (v : Int) (k : Nat) : ((byteAt v k).toNat : Int) = (v / 2 ^ (8 * k)) % 256 := by
  unfold byteAt
  have h0 : 0 ≤ (v / 2 ^ (8 * k)) % 256 := Int.emod_nonneg _ (by decide)
  have h1 : (v / 2 ^ (8 * k)) % 256 < 256 := Int.emod_lt_of_pos _ (by decide)
  rw [UInt8.toNat_ofNat', Nat.mod_eq_of_lt (by omega)]
  omega
/-- The n bytes of a number. -/
def be (v : Int) : Nat → List UInt8
  | 0 => []
  | n + 1 => byteAt v n :: be v n
theorem be_length (v : Int) : ∀ n, (be v n).length = n
  | 0 => rfl
  | n + 1 => by simp [be, be_length v n]
/-- Is it no number of n bytes? -/
def badNum (v : Int) (n : Nat) : Bool := decide (v < 0) || (v / 2 ^ (8 * n) != 0)
end Gp
namespace Gp
/-- What is handed back of what was put together: it, or an error's number. -/
def doneV (l : List UInt8) (bad : Bool) : ByteArray × Int := if bad = true ∨ 2000 < l.length then (⟨#[]⟩, 6) else (⟨l.toArray⟩, 0)
structure Soa where
  primary : ByteArray
  mail : ByteArray
  serial : Int
  refresh : Int
  retry : Int
  expire : Int
  minimum : Int
structure Sig where
  covered : Int
  alg : Int
  labels : Int
  ttl : Int
  fin : Int
  start : Int
  tag : Int
  signer : ByteArray
  sign : ByteArray
structure Key where
  flags : Int
  protocol : Int
  alg : Int
  pub : ByteArray
structure Ds where
  tag : Int
  alg : Int
  kind : Int
  digest : ByteArray
def keyL (x : Key) : List UInt8 := be x.flags 2 ++ be x.protocol 1 ++ be x.alg 1 ++ x.pub.data.toList
def keyBad (x : Key) : Bool := badNum x.flags 2 || badNum x.protocol 1 || badNum x.alg 1 || decide ((x.pub.size : Int) < 1)
def dsL (x : Ds) : List UInt8 := be x.tag 2 ++ be x.alg 1 ++ be x.kind 1 ++ x.digest.data.toList
def dsBad (x : Ds) : Bool := badNum x.tag 2 || badNum x.alg 1 || badNum x.kind 1 || decide ((x.digest.size : Int) < 1)
def soaL (x : Soa) : List UInt8 := x.primary.data.toList ++ x.mail.data.toList ++ be x.serial 4 ++ be x.refresh 4 ++ be x.retry 4 ++ be x.expire 4 ++ be x.minimum 4
def soaBad (x : Soa) : Bool := !rightB x.primary || !rightB x.mail || badNum x.serial 4 || badNum x.refresh 4 || badNum x.retry 4 || badNum x.expire 4 || badNum x.minimum 4
def sigL (x : Sig) : List UInt8 := be x.covered 2 ++ be x.alg 1 ++ be x.labels 1 ++ be x.ttl 4 ++ be x.fin 4 ++ be x.start 4 ++ be x.tag 2 ++ x.signer.data.toList ++ x.sign.data.toList
def sigBad (x : Sig) : Bool := badNum x.covered 2 || badNum x.alg 1 || badNum x.labels 1 || badNum x.ttl 4 || badNum x.fin 4 || badNum x.start 4 || badNum x.tag 2 || !rightB x.signer || decide ((x.sign.size : Int) < 1)
end Gp
namespace Gp
theorem endOf_stop {s : ByteArray} {k i : Nat} (h : ¬ okAt s i) : endOf s k i = i := by cases k <;> simp [endOf, h]
theorem endOf_ok {s : ByteArray} {k i : Nat} (h : okAt s i) : endOf s (k + 1) i = endOf s k (i + 1 + bN s i) := by simp [endOf, h]
theorem endOf_more {s : ByteArray} : ∀ (k i j : Nat), s.size ≤ i + k → endOf s (k + j) i = endOf s k i
  | 0, i, j, h => by
    have : ¬ okAt s i := fun ⟨h', _⟩ => by omega
    rw [endOf_stop this, endOf_stop this]
  | k + 1, i, j, h => by
    by_cases o : okAt s i
    · rw [show k + 1 + j = (k + j) + 1 from by omega, endOf_ok o, endOf_ok o, endOf_more k _ j (by omega)]
    · rw [endOf_stop o, endOf_stop o]
theorem endOf_size {s : ByteArray} {k i : Nat} (h : s.size ≤ i + k) : endOf s k i = endOf s (s.size - i) i := by
  have := endOf_more (s := s) (s.size - i) i (k - (s.size - i)) (by omega)
  rw [← this]; congr 1; omega
/-- What is known of a name at a place that its labels lead to. -/
theorem right_yes {s : ByteArray} {i : Nat} (h255 : s.size ≤ 255) (he : endOf s s.size 0 = endOf s (s.size - i) i) (hi : i + 1 = s.size) (h0 : bN s i = 0) : rightB s = true := by
  have hn : ¬ okAt s i := fun h => h.2.1 h0
  rw [endOf_stop hn] at he
  have h1 : s.size - 1 = i := by omega
  simp only [rightB, Bool.and_eq_true, decide_eq_true_eq]
  refine ⟨⟨⟨by omega, h255⟩, by omega⟩, by rw [h1]; exact h0⟩
theorem right_not {s : ByteArray} {i : Nat} (he : endOf s s.size 0 = endOf s (s.size - i) i) (hn : ¬ okAt s i) (h : ¬ (i + 1 = s.size ∧ bN s i = 0)) : rightB s = false := by
  rw [endOf_stop hn] at he
  by_cases h0 : s.size = 0
  · simp [rightB, h0]
  · by_cases h1 : i + 1 = s.size
    · have h2 : s.size - 1 = i := by omega
      have h3 : bN s i ≠ 0 := fun e => h ⟨h1, e⟩
      simp [rightB, h2, h3]
    · have : endOf s s.size 0 ≠ s.size - 1 := by omega
      simp [rightB, this]
theorem right_255 {s : ByteArray} (h : 255 < s.size) : rightB s = false := by
  have : ¬ s.size ≤ 255 := by omega
  simp [rightB, this]
end Gp
namespace Gp
/-- The letters of digits. -/
def letters : List UInt8 := [48, 49, 50, 51, 52, 53, 54, 55, 56, 57, 97, 98, 99, 100, 101, 102, 103, 104, 105, 106, 107, 108, 109, 110, 111, 112, 113, 114, 115, 116, 117, 118]
def letter (n : Nat) : UInt8 := letters.getD n 0
/-- Whole digits of k bits at the head of h bits. -/
def emit (k v : Nat) : Nat → Nat → List UInt8
  | 0, _ => []
  | n + 1, h => if k ≤ h then letter (v / 2 ^ (h - k) % 2 ^ k) :: emit k v n (h - k) else []
/-- What is left of the bits, and their number, and the letters, behind some bytes. -/
def grp (k : Nat) (s : ByteArray) : Nat → Nat × Nat × List UInt8
  | 0 => (0, 0, [])
  | n + 1 => let (h, v, out) := grp k s n; ((h + 8) % k, (v * 256 + bN s n) % 2 ^ ((h + 8) % k), out ++ emit k (v * 256 + bN s n) 8 (h + 8))
def groupedL (k : Nat) (s : ByteArray) : List UInt8 := let (h, v, out) := grp k s s.size; if 0 < h then out ++ [letter (v * 2 ^ (k - h))] else out
theorem grp_succ (k : Nat) (s : ByteArray) (n : Nat) : grp k s (n + 1) = (((grp k s n).1 + 8) % k, ((grp k s n).2.1 * 256 + bN s n) % 2 ^ (((grp k s n).1 + 8) % k), (grp k s n).2.2 ++ emit k ((grp k s n).2.1 * 256 + bN s n) 8 ((grp k s n).1 + 8)) := rfl
theorem grp_h (k : Nat) (hk : 1 ≤ k) (s : ByteArray) : ∀ n, (grp k s n).1 < k
  | 0 => by simp [grp]; omega
  | n + 1 => by rw [grp_succ]; exact Nat.mod_lt _ (by omega)
theorem grp_v (k : Nat) (s : ByteArray) : ∀ n, (grp k s n).2.1 < 2 ^ (grp k s n).1
  | 0 => by simp [grp]
  | n + 1 => by rw [grp_succ]; exact Nat.mod_lt _ (Nat.pow_pos (by decide))
end Gp
namespace Gp
/-- Texts with their lengths ahead of them, to the end. -/
def takeTexts : Nat → ByteArray → Option (List ByteArray)
  | 0, s => if s.size = 0 then some [] else none
  | k + 1, s => if s.size = 0 then some [] else match takeNum 1 s with
    | none => none
    | some (n, r) => match takeBytes n r with
      | none => none
      | some (b, t) => (takeTexts k t).map (b :: ·)
theorem takeNum_size {k n : Nat} {s r : ByteArray} (h : takeNum k s = some (n, r)) : r.size + k = s.size := by
  unfold takeNum at h
  split at h
  · have e := congrArg ByteArray.size (Prod.mk.inj (Option.some.inj h)).2
    rw [ByteArray.size_extract] at e; omega
  · cases h
theorem takeBytes_size {n : Nat} {s r b : ByteArray} (h : takeBytes n s = some (b, r)) : r.size + n = s.size ∧ b.size = n := by
  unfold takeBytes at h
  split at h
  · have e := congrArg ByteArray.size (Prod.mk.inj (Option.some.inj h)).2
    have e2 := congrArg ByteArray.size (Prod.mk.inj (Option.some.inj h)).1
    rw [ByteArray.size_extract] at e e2; omega
  · cases h
theorem takeTexts_more : ∀ (k j : Nat) (s : ByteArray), s.size ≤ k → takeTexts (k + j) s = takeTexts k s
  | 0, j, s, h => by
    have h0 : s.size = 0 := by omega
    cases j <;> simp [takeTexts, h0]
  | k + 1, j, s, h => by
    rw [show k + 1 + j = (k + j) + 1 from by omega]
    simp only [takeTexts]
    split
    · rfl
    · cases hn : takeNum 1 s with
      | none => rfl
      | some x =>
        obtain ⟨n, r⟩ := x
        have h1 := takeNum_size hn
        simp only
        cases hb : takeBytes n r with
        | none => rfl
        | some y =>
          obtain ⟨b, t⟩ := y
          have h2 := takeBytes_size hb
          simp only
          rw [takeTexts_more k j t (by omega)]
def textsP (s : ByteArray) : Option (List ByteArray) := if s.size = 0 then none else takeTexts s.size s
theorem takeTexts_len : ∀ (k : Nat) (s : ByteArray) (l : List ByteArray), takeTexts k s = some l → l.length ≤ s.size
  | 0, s, l, h => by
    unfold takeTexts at h
    split at h
    · cases h; simp
    · cases h
  | k + 1, s, l, h => by
    unfold takeTexts at h
    split at h
    · cases h; simp
    · cases hn : takeNum 1 s with
      | none => rw [hn] at h; cases h
      | some x =>
        obtain ⟨n, r⟩ := x
        have h1 := takeNum_size hn
        rw [hn] at h
        simp only at h
        cases hb : takeBytes n r with
        | none => rw [hb] at h; cases h
        | some y =>
          obtain ⟨b, t⟩ := y
          have h2 := takeBytes_size hb
          rw [hb] at h
          simp only [Option.map_eq_some_iff] at h
          obtain ⟨m, hm, rfl⟩ := h
          have := takeTexts_len k t m hm
          simp only [List.length_cons]; omega
/-- One text off the head. -/
theorem takeTexts_step {s : ByteArray} (hs : s.size ≠ 0) : takeTexts s.size s = match takeNum 1 s with
    | none => none
    | some (n, r) => match takeBytes n r with
      | none => none
      | some (b, t) => (takeTexts t.size t).map (b :: ·) := by
  obtain ⟨k, hk⟩ : ∃ k, s.size = k + 1 := ⟨s.size - 1, by omega⟩
  rw [hk, takeTexts, if_neg hs]
  cases hn : takeNum 1 s with
  | none => rfl
  | some x =>
    obtain ⟨n, r⟩ := x
    have h1 := takeNum_size hn
    simp only
    cases hb : takeBytes n r with
    | none => rfl
    | some y =>
      obtain ⟨b, t⟩ := y
      have h2 := takeBytes_size hb
      simp only
      obtain ⟨j, hj⟩ : ∃ j, k = t.size + j := ⟨k - t.size, by omega⟩
      rw [hj, takeTexts_more t.size j t (Nat.le_refl _)]
end Gp
namespace Gp
/-- A byte of a text, told. -/
def quoteB (c : UInt8) : List UInt8 :=
  if c.toNat = 34 ∨ c.toNat = 92 then [92, c]
  else if c.toNat < 32 ∨ 126 < c.toNat then [92, UInt8.ofNat (48 + c.toNat / 100), UInt8.ofNat (48 + c.toNat / 10 % 10), UInt8.ofNat (48 + c.toNat % 10)]
  else [c]
theorem quoteB_len (c : UInt8) : (quoteB c).length ≤ 4 := by unfold quoteB; split; simp; split <;> simp
def quoteL (s : ByteArray) : List UInt8 := s.data.toList.flatMap quoteB
theorem quote_len : ∀ (l : List UInt8), (l.flatMap quoteB).length ≤ 4 * l.length
  | [] => by simp
  | c :: r => by
    have := quote_len r
    have := quoteB_len c
    simp only [List.flatMap_cons, List.length_append, List.length_cons]; omega
theorem quote_take (l : List UInt8) (k : Nat) (h : k < l.length) : (l.take (k + 1)).flatMap quoteB = (l.take k).flatMap quoteB ++ quoteB (l.getD k 0) := by
  rw [List.take_succ_eq_append_getElem h, List.flatMap_append, List.getD_eq_getElem?_getD, List.getElem?_eq_getElem h]
  simp
theorem takeTexts_mem : ∀ (k : Nat) (s : ByteArray) (l : List ByteArray), takeTexts k s = some l → ∀ x ∈ l, x.size ≤ 255
  | 0, s, l, h => by
    unfold takeTexts at h
    split at h
    · cases h; simp
    · cases h
  | k + 1, s, l, h => by
    unfold takeTexts at h
    split at h
    · cases h; simp
    · cases hn : takeNum 1 s with
      | none => rw [hn] at h; cases h
      | some x =>
        obtain ⟨n, r⟩ := x
        have h1 : n < 256 := by
          unfold takeNum at hn
          split at hn
          · rw [← (Prod.mk.inj (Option.some.inj hn)).1]
            have := numB_lt s 1
            omega
          · cases hn
        rw [hn] at h
        simp only at h
        cases hb : takeBytes n r with
        | none => rw [hb] at h; cases h
        | some y =>
          obtain ⟨b, t⟩ := y
          have h2 := takeBytes_size hb
          rw [hb] at h
          simp only [Option.map_eq_some_iff] at h
          obtain ⟨m, hm, rfl⟩ := h
          intro x hx
          rcases List.mem_cons.1 hx with rfl | hx
          · omega
          · exact takeTexts_mem k t m hm x hx
theorem textsP_mem {s : ByteArray} {l : List ByteArray} (h : textsP s = some l) : l.length ≤ s.size ∧ ∀ x ∈ l, x.size ≤ 255 := by
  unfold textsP at h
  split at h
  · cases h
  · exact ⟨takeTexts_len _ _ _ h, takeTexts_mem _ _ _ h⟩
end Gp
namespace Gp
/-- The bit of a type in its byte. -/
def bitOf (t : Nat) : UInt8 := UInt8.ofNat (128 / 2 ^ (t % 8))
/-- A type's bit set among 32 bytes. -/
def bmSet (b : List UInt8) (t : Nat) : List UInt8 := b.set (t % 256 / 8) (b.getD (t % 256 / 8) 0 ||| bitOf t)
/-- The bits of some types. -/
def bm (seg : List Nat) : List UInt8 := seg.foldl bmSet (List.replicate 32 0)
theorem bmSet_length (b : List UInt8) (t : Nat) : (bmSet b t).length = b.length := by simp [bmSet]
theorem foldl_bm_length : ∀ (seg : List Nat) (b : List UInt8), (seg.foldl bmSet b).length = b.length
  | [], b => rfl
  | t :: r, b => by rw [List.foldl_cons, foldl_bm_length r, bmSet_length]
theorem bm_length (seg : List Nat) : (bm seg).length = 32 := by rw [bm, foldl_bm_length, List.length_replicate]
theorem bm_snoc (seg : List Nat) (t : Nat) : bm (seg ++ [t]) = bmSet (bm seg) t := by simp [bm]
/-- The place of the last type's byte. -/
def lastAt (seg : List Nat) : Nat := match seg.getLast? with | none => 0 | some t => t % 256 / 8
theorem lastAt_snoc (seg : List Nat) (t : Nat) : lastAt (seg ++ [t]) = t % 256 / 8 := by simp [lastAt]
theorem lastAt_lt (seg : List Nat) : lastAt seg < 32 := by unfold lastAt; split <;> omega
/-- What a window's types are put down as. -/
def blkOf (w : Nat) (seg : List Nat) : List UInt8 := be (w : Int) 1 ++ be ((lastAt seg + 1 : Nat) : Int) 1 ++ (bm seg).take (lastAt seg + 1)
theorem blkOf_length (w : Nat) (seg : List Nat) : (blkOf w seg).length = lastAt seg + 3 := by
  have := lastAt_lt seg
  simp only [blkOf, List.length_append, be_length, List.length_take, bm_length]; omega
def win (w : Nat) (l : List Nat) : List Nat := l.filter (fun t => t / 256 == w)
def blk (w : Nat) (l : List Nat) : List UInt8 := if win w l = [] then [] else blkOf w (win w l)
theorem blk_length (w : Nat) (l : List Nat) : (blk w l).length ≤ 34 := by
  unfold blk; split
  · simp
  · rw [blkOf_length]; have := lastAt_lt (win w l); omega
/-- The first windows of a list of types, as bytes. -/
def blks (k : Nat) (l : List Nat) : List UInt8 := (List.range k).flatMap (blk · l)
theorem blks_succ (k : Nat) (l : List Nat) : blks (k + 1) l = blks k l ++ blk k l := by simp [blks, List.range_succ]
theorem blks_length (l : List Nat) : ∀ k, (blks k l).length ≤ 34 * k
  | 0 => by simp [blks]
  | k + 1 => by rw [blks_succ, List.length_append]; have := blks_length l k; have := blk_length k l; omega
def typesL (l : List Nat) : List UInt8 := blks 256 l
theorem typesL_length (l : List Nat) : (typesL l).length ≤ 8704 := blks_length l 256
theorem win_append (w : Nat) (a b : List Nat) : win w (a ++ b) = win w a ++ win w b := by simp [win]
theorem win_none (w : Nat) (a : List Nat) (h : ∀ x ∈ a, x / 256 ≠ w) : win w a = [] := by
  rw [win, List.filter_eq_nil_iff]; intro x hx; simpa using h x hx
theorem win_all (w : Nat) (a : List Nat) (h : ∀ x ∈ a, x / 256 = w) : win w a = a := by
  rw [win, List.filter_eq_self]; intro x hx; simpa using h x hx
theorem blks_none (a : List Nat) (w : Nat) (h : ∀ x ∈ a, x / 256 < w) : ∀ j, blks (w + j) a = blks w a
  | 0 => rfl
  | j + 1 => by
    rw [← Nat.add_assoc, blks_succ, blks_none a w h j, blk, win_none _ _ (fun x hx => by have := h x hx; omega)]; simp
theorem blks_same (a b : List Nat) (w : Nat) (h : ∀ x ∈ b, w ≤ x / 256) : ∀ j, j ≤ w → blks j (a ++ b) = blks j a
  | 0, _ => rfl
  | j + 1, hj => by
    rw [blks_succ, blks_succ, blks_same a b w h j (by omega), blk, blk, win_append, win_none j b (fun x hx => by have := h x hx; omega), List.append_nil]
theorem typesL_step (a seg : List Nat) (w : Nat) (hw : w < 256) (ha : ∀ x ∈ a, x / 256 < w) (hs : ∀ x ∈ seg, x / 256 = w) (hne : seg ≠ []) :
    typesL (a ++ seg) = typesL a ++ blkOf w seg := by
  have e1 : typesL a = blks w a := by
    have := blks_none a w ha (256 - w)
    rw [show w + (256 - w) = 256 from by omega] at this; exact this
  have hall : ∀ x ∈ a ++ seg, x / 256 < w + 1 := by
    intro x hx
    rcases List.mem_append.1 hx with h | h
    · have := ha x h; omega
    · have := hs x h; omega
  have e2 : typesL (a ++ seg) = blks (w + 1) (a ++ seg) := by
    have := blks_none (a ++ seg) (w + 1) hall (256 - (w + 1))
    rw [show w + 1 + (256 - (w + 1)) = 256 from by omega] at this; exact this
  rw [e1, e2, blks_succ, blks_same a seg w (fun x hx => by rw [hs x hx]; exact Nat.le_refl _) w (Nat.le_refl _), blk, win_append,
    win_none w a (fun x hx => by have := ha x hx; omega), List.nil_append, win_all w seg hs, if_neg hne]
/-- A number of a list; 0 beyond its end. -/
def iAt (l : List Int) (i : Nat) : Int := l.getD i 0
/-- Is the type at i none, or not above the one ahead? -/
def tyBad (l : List Int) (i : Nat) : Bool := !(decide (0 ≤ iAt l i) && decide (iAt l i < 65536)) || (decide (0 < i) && decide (iAt l i ≤ iAt l (i - 1)))
/-- Are the first k of some numbers no types that rise? -/
def tysBad (l : List Int) : Nat → Bool
  | 0 => false
  | k + 1 => tysBad l k || tyBad l k
def typesBad (l : List Int) : Bool := tysBad l l.length
theorem tysBad_le (l : List Int) {i k : Nat} (h : tysBad l k = false) (hi : i < k) : tyBad l i = false := by
  induction k with
  | zero => omega
  | succ k ih =>
    simp only [tysBad, Bool.or_eq_false_iff] at h
    rcases Nat.lt_succ_iff_lt_or_eq.1 hi with h1 | rfl
    · exact ih h.1 h1
    · exact h.2
theorem tysBad_mono (l : List Int) {i k : Nat} (h : tyBad l i = true) (hi : i < k) : tysBad l k = true := by
  cases hk : tysBad l k with
  | true => rfl
  | false => rw [tysBad_le l hk hi] at h; cases h
/-- The types of a list of numbers. -/
def natsOf (l : List Int) : List Nat := l.map Int.toNat
theorem natsOf_length (l : List Int) : (natsOf l).length = l.length := by simp [natsOf]
theorem natsOf_get (l : List Int) (i : Nat) (h : i < l.length) : (natsOf l)[i]? = some (iAt l i).toNat := by
  simp [natsOf, iAt, List.getElem?_eq_getElem h, List.getD_eq_getElem?_getD]
theorem ty_range {l : List Int} (h : typesBad l = false) {i : Nat} (hi : i < l.length) : 0 ≤ iAt l i ∧ iAt l i < 65536 := by
  have := tysBad_le l h hi
  simp only [tyBad, Bool.or_eq_false_iff, Bool.not_eq_false', Bool.and_eq_true, decide_eq_true_eq] at this
  exact this.1
theorem ty_next {l : List Int} (h : typesBad l = false) {i : Nat} (hi : i + 1 < l.length) : iAt l i < iAt l (i + 1) := by
  have := tysBad_le l h hi
  simp only [tyBad, Bool.or_eq_false_iff, Bool.and_eq_false_iff, decide_eq_false_iff_not] at this
  rcases this.2 with h1 | h1
  · omega
  · rw [Nat.add_sub_cancel] at h1; omega
theorem ty_lt {l : List Int} (h : typesBad l = false) : ∀ {j i : Nat}, i < j → j < l.length → iAt l i < iAt l j := by
  intro j
  induction j with
  | zero => intro i hi; omega
  | succ j ih =>
    intro i hi hj
    have h1 := ty_next h hj
    rcases Nat.lt_succ_iff_lt_or_eq.1 hi with h2 | rfl
    · have := ih h2 (by omega); omega
    · exact h1
/-- A type of a list; the first ones; those between two places. -/
def tN (l : List Int) (i : Nat) : Nat := (iAt l i).toNat
def pre (l : List Int) (i : Nat) : List Nat := (natsOf l).take i
def seg (l : List Int) (i j : Nat) : List Nat := ((natsOf l).take j).drop i
theorem tN_eq {l : List Int} (h : typesBad l = false) {i : Nat} (hi : i < l.length) : iAt l i = (tN l i : Int) ∧ tN l i < 65536 := by
  have := ty_range h hi
  unfold tN; omega
theorem tN_lt {l : List Int} (h : typesBad l = false) {i j : Nat} (hij : i < j) (hj : j < l.length) : tN l i < tN l j := by
  have h1 := ty_lt h hij hj
  have h2 := ty_range h hj
  have h3 := ty_range h (show i < l.length by omega)
  unfold tN; omega
theorem pre_seg (l : List Int) {i j : Nat} (h : i ≤ j) : pre l j = pre l i ++ seg l i j := by
  unfold pre seg
  have : (natsOf l).take i = ((natsOf l).take j).take i := by rw [List.take_take, Nat.min_eq_left h]
  rw [this, List.take_append_drop]
theorem seg_self (l : List Int) (i : Nat) : seg l i i = [] := by
  unfold seg; rw [List.drop_eq_nil_iff, List.length_take]; exact Nat.min_le_left _ _
theorem seg_succ (l : List Int) {i j : Nat} (h : i ≤ j) (hj : j < l.length) : seg l i (j + 1) = seg l i j ++ [tN l j] := by
  unfold seg
  have e := natsOf_get l j hj
  obtain ⟨hlt, hv⟩ := List.getElem?_eq_some_iff.1 e
  rw [List.take_succ_eq_append_getElem hlt, List.drop_append_of_le_length (by rw [List.length_take, natsOf_length]; omega), hv]; rfl
theorem pre_all (l : List Int) : pre l l.length = natsOf l := by
  unfold pre; rw [List.take_of_length_le (by rw [natsOf_length]; exact Nat.le_refl _)]
theorem pre_mem {l : List Int} {i x : Nat} (hi : i ≤ l.length) (h : x ∈ pre l i) : ∃ j, j < i ∧ x = tN l j := by
  unfold pre at h
  obtain ⟨j, hj, rfl⟩ := List.getElem_of_mem h
  rw [List.length_take] at hj
  refine ⟨j, by omega, ?_⟩
  have e := natsOf_get l j (by omega)
  rw [List.getElem_take]
  obtain ⟨hlt, hv⟩ := List.getElem?_eq_some_iff.1 e
  exact hv
/-- Are all types ahead of a place in windows ahead of its own? -/
def Ahead (l : List Int) (i : Nat) : Prop := i < l.length → ∀ x ∈ pre l i, x / 256 < tN l i / 256
theorem ahead_zero (l : List Int) : Ahead l 0 := fun _ x hx => by simp [pre] at hx
theorem ahead_next {l : List Int} (h : typesBad l = false) {j : Nat} (hj0 : 0 < j) (hn : j < l.length → tN l j / 256 ≠ tN l (j - 1) / 256) : Ahead l j := fun hj x hx => by
  obtain ⟨k, hk, rfl⟩ := pre_mem (Nat.le_of_lt hj) hx
  have h1 := hn hj
  have h2 := tN_lt h (show j - 1 < j by omega) hj
  rcases Nat.lt_or_ge k (j - 1) with h3 | h3
  · have h4 := tN_lt h h3 (by omega)
    omega
  · obtain rfl : k = j - 1 := by omega
    omega
theorem typesL_seg {l : List Int} (h : typesBad l = false) {i j : Nat} (hij : i < j) (hj : j ≤ l.length) (ha : Ahead l i) (hs : ∀ x ∈ seg l i j, x / 256 = tN l i / 256) :
    typesL (pre l j) = typesL (pre l i) ++ blkOf (tN l i / 256) (seg l i j) := by
  rw [pre_seg l (Nat.le_of_lt hij)]
  refine typesL_step _ _ _ ?_ (ha (by omega)) hs ?_
  · have := (tN_eq h (show i < l.length by omega)).2; omega
  · intro e
    have := congrArg List.length e
    rw [seg, List.length_drop, List.length_take, natsOf_length, List.length_nil] at this; omega
/-- A list of types as bytes; none, if they are no types that rise. -/
def typesS (l : List Int) : List UInt8 := if typesBad l = true then [] else typesL (natsOf l)
theorem typesS_length (l : List Int) : (typesS l).length ≤ 8704 := by
  unfold typesS; split
  · simp
  · exact typesL_length _
/-- What types put down, behind what may be wrong already. -/
def typesE (bad : Bool) (l : List Int) : List UInt8 := if bad = true then [] else typesS l
theorem typesE_no {bad : Bool} {l : List Int} (h : true = (bad || typesBad l)) : typesE bad l = [] := by
  unfold typesE typesS
  cases bad with
  | true => rfl
  | false =>
    rw [Bool.false_or] at h
    rw [← h]; rfl
theorem typesE_yes {l : List Int} (h : typesBad l = false) : typesE false l = typesL (natsOf l) := by unfold typesE typesS; rw [h]; rfl
theorem typesL_nil : typesL [] = [] := by
  unfold typesL blks
  rw [List.flatMap_eq_nil_iff]
  intro w _; rfl
theorem pre_zero (l : List Int) : pre l 0 = [] := rfl
structure Nsec where
  next : ByteArray
  types : List Int
structure Nsec3 where
  alg : Int
  flags : Int
  rounds : Int
  salt : ByteArray
  next : ByteArray
  types : List Int
def nsecL (x : Nsec) : List UInt8 := x.next.data.toList ++ typesS x.types
def nsecBad (x : Nsec) : Bool := !rightB x.next || typesBad x.types
def nsec3L (x : Nsec3) : List UInt8 := be x.alg 1 ++ be x.flags 1 ++ be x.rounds 2 ++ be (x.salt.size : Int) 1 ++ x.salt.data.toList ++ be (x.next.size : Int) 1 ++ x.next.data.toList ++ typesS x.types
def nsec3Bad (x : Nsec3) : Bool := badNum x.alg 1 || badNum x.flags 1 || badNum x.rounds 2 || badNum (x.salt.size : Int) 1 || badNum (x.next.size : Int) 1 || decide ((x.next.size : Int) < 1) || typesBad x.types
end Gp
