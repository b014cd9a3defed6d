/- Plain law: texts with their lengths ahead of them: no program in sight. -/
import Derived.Test.YtnllofjjffflkaaGreatDoorP5
set_option linter.unusedSimpArgs false
set_option linter.unusedVariables false
namespace Gp
/-- Texts with their lengths ahead of them, to the end. -/
def takeTexts : Nat → ByteArray → Option (List ByteArray)
  | 0, s => if s.size = 0 then some [] else none
  | k + 1, s => if s.size = 0 then some [] else match takeNum 1 s with
    | none => none
    | some (n, r) => match takeBytes n r with
      | none => none
      | some (b, t) => (takeTexts k t).map (b :: ·)
theorem takeNum_size {k n : Nat} {s r : ByteArray} (h : takeNum k s = some (n, r)) : r.size + k = s.size := by
  unfold takeNum at h
  split at h
  · have e := congrArg ByteArray.size (Prod.mk.inj (Option.some.inj h)).2
    rw [ByteArray.size_extract] at e; omega
  · cases h
theorem takeBytes_size {n : Nat} {s r b : ByteArray} (h : takeBytes n s = some (b, r)) : r.size + n = s.size ∧ b.size = n := by
  unfold takeBytes at h
  split at h
  · have e := congrArg ByteArray.size (Prod.mk.inj (Option.some.inj h)).2
    have e2 := congrArg ByteArray.size (Prod.mk.inj (Option.some.inj h)).1
    rw [ByteArray.size_extract] at e e2; omega
  · cases h
theorem takeTexts_more : ∀ (k j : Nat) (s : ByteArray), s.size ≤ k → takeTexts (k + j) s = takeTexts k s
  | 0, j, s, h => by
    have h0 : s.size = 0 := by omega
    cases j <;> simp [takeTexts, h0]
  | k + 1, j, s, h => by
    rw [show k + 1 + j = (k + j) + 1 from by omega]
    simp only [takeTexts]
    split
    · rfl
    · cases hn : takeNum 1 s with
      | none => rfl
      | some x =>
        obtain ⟨n, r⟩ := x
        have h1 := takeNum_size hn
        simp only
        cases hb : takeBytes n r with
        | none => rfl
        | some y =>
          obtain ⟨b, t⟩ := y
          have h2 := takeBytes_size hb
          simp only
          rw [takeTexts_more k j t (by omega)]
def textsP (s : ByteArray) : Option (List ByteArray) := if s.size = 0 then none else takeTexts s.size s
theorem takeTexts_len : ∀ (k : Nat) (s : ByteArray) (l : List ByteArray), takeTexts k s = some l → l.length ≤ s.size
  | 0, s, l, h => by
    unfold takeTexts at h
    split at h
    · cases h; simp
    · cases h
  | k + 1, s, l, h => by
    unfold takeTexts at h
    split at h
    · cases h; simp
    · cases hn : takeNum 1 s with
      | none => rw [hn] at h; cases h
      | some x =>
        obtain ⟨n, r⟩ := x
        have h1 := takeNum_size hn
        rw [hn] at h
        simp only at h
        cases hb : takeBytes n r with
        | none => rw [hb] at h; cases h
        | some y =>
          obtain ⟨b, t⟩ := y
          have h2 := takeBytes_size hb
          rw [hb] at h
          simp only [Option.map_eq_some_iff] at h
          obtain ⟨m, hm, rfl⟩ := h
          have := takeTexts_len k t m hm
          simp only [List.length_cons]; omega
/-- One text off the head. -/
theorem takeTexts_step {s : ByteArray} (hs : s.size ≠ 0) : takeTexts s.size s = match takeNum 1 s with
    | none => none
    | some (n, r) => match takeBytes n r with
      | none => none
      | some (b, t) => (takeTexts t.size t).map (b :: ·) := by
  obtain ⟨k, hk⟩ : ∃ k, s.size = k + 1 := ⟨s.size - 1, by omega⟩
  rw [hk, takeTexts, if_neg hs]
  cases hn : takeNum 1 s with
  | none => rfl
  | some x =>
    obtain ⟨n, r⟩ := x
    have h1 := takeNum_size hn
    simp only
    cases hb : takeBytes n r with
    | none => rfl
    | some y =>
      obtain ⟨b, t⟩ := y
      have h2 := takeBytes_size hb
      simp only
      obtain ⟨j, hj⟩ : ∃ j, k = t.size + j := ⟨k - t.size, by omega⟩
      rw [hj, takeTexts_more t.size j t (Nat.le_refl _)]
end Gp
