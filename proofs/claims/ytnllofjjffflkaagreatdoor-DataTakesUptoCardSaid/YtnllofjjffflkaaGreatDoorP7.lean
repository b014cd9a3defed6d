/- Plain law: how a text is quoted: no program in sight. -/
import Derived.Test.YtnllofjjffflkaaGreatDoorP6
set_option linter.unusedSimpArgs false
set_option linter.unusedVariables false
namespace Gp
/-- A byte of a text, told. -/
def quoteB (c : UInt8) : List UInt8 :=
  if c.toNat = 34 ∨ c.toNat = 92 then [92, c]
  else if c.toNat < 32 ∨ 126 < c.toNat then [92, UInt8.ofNat (48 + c.toNat / 100), UInt8.ofNat (48 + c.toNat / 10 % 10), UInt8.ofNat (48 + c.toNat % 10)]
  else [c]
theorem quoteB_len (c : UInt8) : (quoteB c).length ≤ 4 := by unfold quoteB; split; simp; split <;> simp
def quoteL (s : ByteArray) : List UInt8 := s.data.toList.flatMap quoteB
theorem quote_len : ∀ (l : List UInt8), (l.flatMap quoteB).length ≤ 4 * l.length
  | [] => by simp
  | c :: r => by
    have := quote_len r
    have := quoteB_len c
    simp only [List.flatMap_cons, List.length_append, List.length_cons]; omega
theorem quote_take (l : List UInt8) (k : Nat) (h : k < l.length) : (l.take (k + 1)).flatMap quoteB = (l.take k).flatMap quoteB ++ quoteB (l.getD k 0) := by
  rw [List.take_succ_eq_append_getElem h, List.flatMap_append, List.getD_eq_getElem?_getD, List.getElem?_eq_getElem h]
  simp
theorem takeTexts_mem : ∀ (k : Nat) (s : ByteArray) (l : List ByteArray), takeTexts k s = some l → ∀ x ∈ l, x.size ≤ 255
  | 0, s, l, h => by
    unfold takeTexts at h
    split at h
    · cases h; simp
    · cases h
  | k + 1, s, l, h => by
    unfold takeTexts at h
    split at h
    · cases h; simp
    · cases hn : takeNum 1 s with
      | none => rw [hn] at h; cases h
      | some x =>
        obtain ⟨n, r⟩ := x
        have h1 : n < 256 := by
          unfold takeNum at hn
          split at hn
          · rw [← (Prod.mk.inj (Option.some.inj hn)).1]
            have := numB_lt s 1
            omega
          · cases hn
        rw [hn] at h
        simp only at h
        cases hb : takeBytes n r with
        | none => rw [hb] at h; cases h
        | some y =>
          obtain ⟨b, t⟩ := y
          have h2 := takeBytes_size hb
          rw [hb] at h
          simp only [Option.map_eq_some_iff] at h
          obtain ⟨m, hm, rfl⟩ := h
          intro x hx
          rcases List.mem_cons.1 hx with rfl | hx
          · omega
          · exact takeTexts_mem k t m hm x hx
theorem textsP_mem {s : ByteArray} {l : List ByteArray} (h : textsP s = some l) : l.length ≤ s.size ∧ ∀ x ∈ l, x.size ≤ 255 := by
  unfold textsP at h
  split at h
  · cases h
  · exact ⟨takeTexts_len _ _ _ h, takeTexts_mem _ _ _ h⟩
end Gp
