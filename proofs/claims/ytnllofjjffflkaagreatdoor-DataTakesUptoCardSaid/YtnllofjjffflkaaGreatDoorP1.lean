/- Plain law of names and numbers in bytes: no program in sight. -/
import Init
set_option linter.unusedSimpArgs false
set_option linter.unusedVariables false
namespace Gp
/-- A byte of a text, as a number; 0 beyond its end. -/
def bN (s : ByteArray) (i : Nat) : Nat := (s.data.toList.getD i 0).toNat
theorem bN_get (s : ByteArray) (i : Nat) (h : i < s.size) : (s[i]'h).toNat = bN s i := by
  have h' : i < s.data.size := h
  unfold bN
  have e : s[i]'h = s.data[i]'h' := rfl
  rw [e, List.getD_eq_getElem?_getD, Array.getElem?_toList, Array.getElem?_eq_getElem h']
  rfl
theorem bN_lt (s : ByteArray) (i : Nat) : bN s i < 256 := by unfold bN; exact UInt8.toNat_lt _

/-- A label begins at i, and lies in the text. -/
def okAt (s : ByteArray) (i : Nat) : Prop := i < s.size ∧ bN s i ≠ 0 ∧ bN s i ≤ 63 ∧ i + 1 + bN s i ≤ s.size
instance (s : ByteArray) (i : Nat) : Decidable (okAt s i) := by unfold okAt; infer_instance

/-- Where labels begin, from i on, at most k of them. -/
def starts (s : ByteArray) : Nat → Nat → List Nat
  | 0, _ => []
  | k + 1, i => if okAt s i then i :: starts s k (i + 1 + bN s i) else []
/-- Where the last of them ends. -/
def endOf (s : ByteArray) : Nat → Nat → Nat
  | 0, i => i
  | k + 1, i => if okAt s i then endOf s k (i + 1 + bN s i) else i
theorem starts_ok {s : ByteArray} {k i : Nat} (h : okAt s i) : starts s (k + 1) i = i :: starts s k (i + 1 + bN s i) := by simp [starts, h]
theorem starts_no {s : ByteArray} {k i : Nat} (h : ¬ okAt s i) : starts s k i = [] := by cases k <;> simp [starts, h]
theorem starts_more {s : ByteArray} : ∀ (k i j : Nat), s.size ≤ i + k → starts s (k + j) i = starts s k i
  | 0, i, j, h => by
    have : ¬ okAt s i := fun ⟨h', _⟩ => by omega
    rw [starts_no this, starts_no this]
  | k + 1, i, j, h => by
    by_cases o : okAt s i
    · rw [show k + 1 + j = (k + j) + 1 from by omega, starts_ok o, starts_ok o, starts_more k _ j (by omega)]
    · rw [starts_no o, starts_no o]
theorem starts_size {s : ByteArray} {k i : Nat} (h : s.size ≤ i + k) (h2 : i ≤ s.size) : starts s k i = starts s (s.size - i) i := by
  have := starts_more (s := s) (s.size - i) i (k - (s.size - i)) (by omega)
  rw [← this]; congr 1; omega
/-- All of the text's. -/
def labs (s : ByteArray) : List Nat := starts s s.size 0
/-- Is a text a name? -/
def rightB (s : ByteArray) : Bool := decide (s.size ≠ 0) && decide (s.size ≤ 255) && decide (endOf s s.size 0 = s.size - 1) && decide (bN s (s.size - 1) = 0)
theorem endOf_eq (s : ByteArray) : ∀ (k i : Nat), endOf s k i = (match (starts s k i).getLast? with | some j => j + 1 + bN s j | none => i)
  | 0, i => by simp [endOf, starts]
  | k + 1, i => by
    by_cases o : okAt s i
    · simp only [endOf, starts, o, if_true]
      rw [endOf_eq s k]
      cases h : starts s k (i + 1 + bN s i) with
      | nil => simp
      | cons a r => simp [List.getLast?_cons]
    · simp [endOf, starts, o]
theorem endOf_le (s : ByteArray) : ∀ (k i : Nat), i ≤ s.size → endOf s k i ≤ s.size
  | 0, i, h => by simpa [endOf] using h
  | k + 1, i, h => by
    by_cases o : okAt s i
    · simp only [endOf, o, if_true]; exact endOf_le s k _ o.2.2.2
    · simpa [endOf, o] using h
/-- The number of the first k bytes. -/
def numB (s : ByteArray) : Nat → Nat
  | 0 => 0
  | k + 1 => numB s k * 256 + bN s k
theorem numB_lt (s : ByteArray) : ∀ k, numB s k < 256 ^ k
  | 0 => by simp [numB]
  | k + 1 => by
    have h1 := numB_lt s k
    have h2 := bN_lt s k
    simp only [numB, Nat.pow_succ]
    omega
/-- How far a name goes that is taken: up to a 0, or the end. -/
def scan (s : ByteArray) : Nat → Nat → Nat
  | 0, i => i
  | k + 1, i => if i < s.size ∧ 0 < bN s i then scan s k (i + 1 + bN s i) else i
theorem scan_stop {s : ByteArray} {k i : Nat} (h : ¬ (i < s.size ∧ 0 < bN s i)) : scan s k i = i := by cases k <;> simp [scan, h]
theorem scan_go {s : ByteArray} {k i : Nat} (h : i < s.size ∧ 0 < bN s i) : scan s (k + 1) i = scan s k (i + 1 + bN s i) := by simp [scan, h]
theorem scan_more {s : ByteArray} : ∀ (k i j : Nat), s.size ≤ i + k → scan s (k + j) i = scan s k i
  | 0, i, j, h => by
    have : ¬ (i < s.size ∧ 0 < bN s i) := fun ⟨h', _⟩ => by omega
    rw [scan_stop this, scan_stop this]
  | k + 1, i, j, h => by
    by_cases o : i < s.size ∧ 0 < bN s i
    · rw [show k + 1 + j = (k + j) + 1 from by omega, scan_go o, scan_go o, scan_more k _ j (by omega)]
    · rw [scan_stop o, scan_stop o]
theorem scan_size {s : ByteArray} {k i : Nat} (h : s.size ≤ i + k) : scan s k i = scan s (s.size - i) i := by
  have := scan_more (s := s) (s.size - i) i (k - (s.size - i)) (by omega)
  rw [← this]; congr 1; omega
theorem scan_ge (s : ByteArray) : ∀ (k i : Nat), i ≤ scan s k i
  | 0, i => Nat.le_refl _
  | k + 1, i => by
    by_cases o : i < s.size ∧ 0 < bN s i
    · rw [scan_go o]; have := scan_ge s k (i + 1 + bN s i); omega
    · rw [scan_stop o]; omega
theorem scan_le (s : ByteArray) : ∀ (k i : Nat), i ≤ s.size + 256 → scan s k i ≤ s.size + 256
  | 0, i, h => h
  | k + 1, i, h => by
    by_cases o : i < s.size ∧ 0 < bN s i
    · rw [scan_go o]; exact scan_le s k _ (by have := bN_lt s i; omega)
    · rw [scan_stop o]; exact h
/-- A number of n bytes, a name, the rest, taken from a text. -/
def takeNum (n : Nat) (s : ByteArray) : Option (Nat × ByteArray) := if n ≤ s.size then some (numB s n, s.extract n s.size) else none
def takeBytes (n : Nat) (s : ByteArray) : Option (ByteArray × ByteArray) := if n ≤ s.size then some (s.extract 0 n, s.extract n s.size) else none
def nameEnd (s : ByteArray) : Nat := scan s s.size 0
def takeName (s : ByteArray) : Option (ByteArray × ByteArray) :=
  if nameEnd s + 1 ≤ s.size ∧ rightB (s.extract 0 (nameEnd s + 1)) = true then some (s.extract 0 (nameEnd s + 1), s.extract (nameEnd s + 1) s.size) else none
def takeRest (s : ByteArray) : Option (ByteArray × ByteArray) := if s.size ≠ 0 then some (s, ⟨#[]⟩) else none
end Gp
