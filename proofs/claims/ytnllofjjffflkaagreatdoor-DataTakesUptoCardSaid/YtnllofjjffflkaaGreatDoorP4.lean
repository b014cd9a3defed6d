/- Plain law: when bytes are a name: no program in sight. -/
import Derived.Test.YtnllofjjffflkaaGreatDoorP3
set_option linter.unusedSimpArgs false
set_option linter.unusedVariables false
namespace Gp
theorem endOf_stop {s : ByteArray} {k i : Nat} (h : ¬ okAt s i) : endOf s k i = i := by cases k <;> simp [endOf, h]
theorem endOf_ok {s : ByteArray} {k i : Nat} (h : okAt s i) : endOf s (k + 1) i = endOf s k (i + 1 + bN s i) := by simp [endOf, h]
theorem endOf_more {s : ByteArray} : ∀ (k i j : Nat), s.size ≤ i + k → endOf s (k + j) i = endOf s k i
  | 0, i, j, h => by
    have : ¬ okAt s i := fun ⟨h', _⟩ => by omega
    rw [endOf_stop this, endOf_stop this]
  | k + 1, i, j, h => by
    by_cases o : okAt s i
    · rw [show k + 1 + j = (k + j) + 1 from by omega, endOf_ok o, endOf_ok o, endOf_more k _ j (by omega)]
    · rw [endOf_stop o, endOf_stop o]
theorem endOf_size {s : ByteArray} {k i : Nat} (h : s.size ≤ i + k) : endOf s k i = endOf s (s.size - i) i := by
  have := endOf_more (s := s) (s.size - i) i (k - (s.size - i)) (by omega)
  rw [← this]; congr 1; omega
/-- What is known of a name at a place that its labels lead to. -/
theorem right_yes {s : ByteArray} {i : Nat} (h255 : s.size ≤ 255) (he : endOf s s.size 0 = endOf s (s.size - i) i) (hi : i + 1 = s.size) (h0 : bN s i = 0) : rightB s = true := by
  have hn : ¬ okAt s i := fun h => h.2.1 h0
  rw [endOf_stop hn] at he
  have h1 : s.size - 1 = i := by omega
  simp only [rightB, Bool.and_eq_true, decide_eq_true_eq]
  refine ⟨⟨⟨by omega, h255⟩, by omega⟩, by rw [h1]; exact h0⟩
theorem right_not {s : ByteArray} {i : Nat} (he : endOf s s.size 0 = endOf s (s.size - i) i) (hn : ¬ okAt s i) (h : ¬ (i + 1 = s.size ∧ bN s i = 0)) : rightB s = false := by
  rw [endOf_stop hn] at he
  by_cases h0 : s.size = 0
  · simp [rightB, h0]
  · by_cases h1 : i + 1 = s.size
    · have h2 : s.size - 1 = i := by omega
      have h3 : bN s i ≠ 0 := fun e => h ⟨h1, e⟩
      simp [rightB, h2, h3]
    · have : endOf s s.size 0 ≠ s.size - 1 := by omega
      simp [rightB, this]
theorem right_255 {s : ByteArray} (h : 255 < s.size) : rightB s = false := by
  have : ¬ s.size ≤ 255 := by omega
  simp [rightB, this]
end Gp
