/- Contracts of Soa to Nsec3 in one form; for every text. -/
import Derived.Test.YtnllofjjffflkaaGreatDoorK6
set_option linter.unusedSimpArgs false
set_option linter.unusedVariables false
namespace Go.Proofs.YtnllofjjffflkaaGreatDoor
open Go.RowKit Gp
/-- The number of the error, if any. -/
def errOf (b : Bool) : Int := if b = true then 0 else 6
theorem Blk.step {H : Nat} {cs : Array Value} {t : TypeId} {w w' : World} (h : Blk H cs t w) (hb : Below w.heap.size w w') : Blk H cs t w' := (hb.block H (Array.getElem?_eq_some_iff.1 h).1).trans h
theorem types_len {s : ByteArray} {r : ByteArray} {l : List Nat} (h : takeTypes r.size (-1) r = some l) : l.length ≤ 8 * r.size := takeTypes_len _ _ _ _ h
theorem whole_some {α : Type} {s : ByteArray} {x : Option (α × ByteArray)} {a : α} (h : wholeOf s x = some a) : s.size ≤ 2000 ∧ ∃ r, x = some (a, r) := by
  unfold wholeOf at h
  split at h
  · rename_i h2
    cases x with
    | none => cases h
    | some y =>
      obtain ⟨b, r⟩ := y
      simp only at h
      split at h
      · cases h; exact ⟨h2, r, rfl⟩
      · cases h
  · cases h
theorem nsec_len {s r : ByteArray} {a : Nsec} (h : takeNsec s = some (a, r)) : a.types.length ≤ 8 * s.size := by
  unfold takeNsec at h
  simp only [Option.bind_eq_bind, Option.bind_eq_some_iff] at h
  obtain ⟨⟨n, r1⟩, h1, l, h2, h3⟩ := h
  have z := size_name h1
  have hl := takeTypes_len _ _ _ _ h2
  simp only at hl
  simp only [Option.some.injEq, Prod.mk.injEq] at h3
  obtain ⟨rfl, _⟩ := h3
  simp only [intsOf, List.length_map]; omega
theorem nsec3_len {s r : ByteArray} {a : Nsec3} (h : takeNsec3 s = some (a, r)) : a.types.length ≤ 8 * s.size := by
  unfold takeNsec3 takeShort at h
  simp only [Option.bind_eq_bind, Option.bind_eq_some_iff] at h
  obtain ⟨⟨a1, r1⟩, h1, ⟨a2, r2⟩, h2, ⟨a3, r3⟩, h3, ⟨a4, r4⟩, ⟨⟨n1, q1⟩, g1, g2⟩, ⟨a5, r5⟩, ⟨⟨n2, q2⟩, g3, g4⟩, h6⟩ := h
  have z1 := size_num h1
  have z2 := size_num h2
  have z3 := size_num h3
  have z4 := size_num g1
  have z5 := size_bytes g2
  have z6 := size_num g3
  have z7 := size_bytes g4
  split at h6
  · cases h6
  · simp only [Option.bind_eq_some_iff] at h6
    obtain ⟨l, h7, h8⟩ := h6
    have hl := takeTypes_len _ _ _ _ h7
    simp only at hl z1 z2 z3 z4 z5 z6 z7
    simp only [Option.some.injEq, Prod.mk.injEq] at h8
    obtain ⟨rfl, _⟩ := h8
    simp only [intsOf, List.length_map]; omega
def getSoa (s : ByteArray) : Soa := (wholeOf s (takeSoa s)).getD ⟨⟨#[]⟩, ⟨#[]⟩, 0, 0, 0, 0, 0⟩
def okSoa (s : ByteArray) : Bool := (wholeOf s (takeSoa s)).isSome
theorem soa_c (s : ByteArray) (w : World) : Calls Tryz.prog 15 #[.string s] w fun e w' => e = .returned (.tuple #[soaV (getSoa s), .int .i64 (errOf (okSoa s))]) ∧ Below w.heap.size w w' := by
  refine (soa_any s w).mono ?_
  intro e w' h
  unfold getSoa okSoa
  cases hx : wholeOf s (takeSoa s) with
  | none => rw [hx] at h; obtain ⟨rfl, hb⟩ := h; exact ⟨rfl, hb⟩
  | some a => rw [hx] at h; obtain ⟨⟨v, rfl, rfl⟩, hb⟩ := h; exact ⟨rfl, hb⟩
def getSig (s : ByteArray) : Sig := (wholeOf s (takeSig s)).getD ⟨0, 0, 0, 0, 0, 0, 0, ⟨#[]⟩, ⟨#[]⟩⟩
def okSig (s : ByteArray) : Bool := (wholeOf s (takeSig s)).isSome
theorem sig_c (s : ByteArray) (w : World) : Calls Tryz.prog 17 #[.string s] w fun e w' => e = .returned (.tuple #[sigV (getSig s), .int .i64 (errOf (okSig s))]) ∧ Below w.heap.size w w' := by
  refine (sig_any s w).mono ?_
  intro e w' h
  unfold getSig okSig
  cases hx : wholeOf s (takeSig s) with
  | none => rw [hx] at h; obtain ⟨rfl, hb⟩ := h; exact ⟨rfl, hb⟩
  | some a => rw [hx] at h; obtain ⟨⟨v, rfl, rfl⟩, hb⟩ := h; exact ⟨rfl, hb⟩
def getKey (s : ByteArray) : Key := (wholeOf s (takeKey s)).getD ⟨0, 0, 0, ⟨#[]⟩⟩
def okKey (s : ByteArray) : Bool := (wholeOf s (takeKey s)).isSome
theorem key_c (s : ByteArray) (w : World) : Calls Tryz.prog 19 #[.string s] w fun e w' => e = .returned (.tuple #[keyV (getKey s), .int .i64 (errOf (okKey s))]) ∧ Below w.heap.size w w' := by
  refine (key_any s w).mono ?_
  intro e w' h
  unfold getKey okKey
  cases hx : wholeOf s (takeKey s) with
  | none => rw [hx] at h; obtain ⟨rfl, hb⟩ := h; exact ⟨rfl, hb⟩
  | some a => rw [hx] at h; obtain ⟨⟨v, rfl, rfl⟩, hb⟩ := h; exact ⟨rfl, hb⟩
def getDs (s : ByteArray) : Ds := (wholeOf s (takeDs s)).getD ⟨0, 0, 0, ⟨#[]⟩⟩
def okDs (s : ByteArray) : Bool := (wholeOf s (takeDs s)).isSome
theorem ds_c (s : ByteArray) (w : World) : Calls Tryz.prog 21 #[.string s] w fun e w' => e = .returned (.tuple #[dsV (getDs s), .int .i64 (errOf (okDs s))]) ∧ Below w.heap.size w w' := by
  refine (ds_any s w).mono ?_
  intro e w' h
  unfold getDs okDs
  cases hx : wholeOf s (takeDs s) with
  | none => rw [hx] at h; obtain ⟨rfl, hb⟩ := h; exact ⟨rfl, hb⟩
  | some a => rw [hx] at h; obtain ⟨⟨v, rfl, rfl⟩, hb⟩ := h; exact ⟨rfl, hb⟩
def getNsec (s : ByteArray) : Nsec := (wholeOf s (takeNsec s)).getD ⟨⟨#[]⟩, []⟩
def okNsec (s : ByteArray) : Bool := (wholeOf s (takeNsec s)).isSome
theorem nsec_c (s : ByteArray) (w : World) : Calls Tryz.prog 23 #[.string s] w fun e w' => ∃ A c, e = .returned (.tuple #[.agg #[.string (getNsec s).next, .slice A (getNsec s).types.length c], .int .i64 (errOf (okNsec s))]) ∧ Ints w' w'.heap.size A (getNsec s).types ∧ Below w.heap.size w w' := by
  refine (nsec_any s w).mono ?_
  intro e w' h
  unfold getNsec okNsec
  cases hx : wholeOf s (takeNsec s) with
  | none => rw [hx] at h; obtain ⟨rfl, hb⟩ := h; exact ⟨none, 0, rfl, fun k hk => absurd hk (by simp), hb⟩
  | some a => rw [hx] at h; obtain ⟨⟨v, rfl, A, c, rfl, ho⟩, hb⟩ := h; exact ⟨A, c, rfl, Ints.of_own ho, hb⟩
def getNsec3 (s : ByteArray) : Nsec3 := (wholeOf s (takeNsec3 s)).getD ⟨0, 0, 0, ⟨#[]⟩, ⟨#[]⟩, []⟩
def okNsec3 (s : ByteArray) : Bool := (wholeOf s (takeNsec3 s)).isSome
theorem nsec3_c (s : ByteArray) (w : World) : Calls Tryz.prog 25 #[.string s] w fun e w' => ∃ A c, e = .returned (.tuple #[.agg #[.int .i64 (getNsec3 s).alg, .int .i64 (getNsec3 s).flags, .int .i64 (getNsec3 s).rounds, .string (getNsec3 s).salt, .string (getNsec3 s).next, .slice A (getNsec3 s).types.length c], .int .i64 (errOf (okNsec3 s))]) ∧ Ints w' w'.heap.size A (getNsec3 s).types ∧ Below w.heap.size w w' := by
  refine (nsec3_any s w).mono ?_
  intro e w' h
  unfold getNsec3 okNsec3
  cases hx : wholeOf s (takeNsec3 s) with
  | none => rw [hx] at h; obtain ⟨rfl, hb⟩ := h; exact ⟨none, 0, rfl, fun k hk => absurd hk (by simp), hb⟩
  | some a => rw [hx] at h; obtain ⟨⟨v, rfl, A, c, rfl, ho⟩, hb⟩ := h; exact ⟨A, c, rfl, Ints.of_own ho, hb⟩
theorem len_nsec (s : ByteArray) : (getNsec s).types.length ≤ 1073741824 := by
  unfold getNsec
  cases hx : wholeOf s (takeNsec s) with
  | none => simp
  | some a =>
    obtain ⟨h2, r, h⟩ := whole_some hx
    have := nsec_len h
    rw [Option.getD_some]; omega
theorem len_nsec3 (s : ByteArray) : (getNsec3 s).types.length ≤ 1073741824 := by
  unfold getNsec3
  cases hx : wholeOf s (takeNsec3 s) with
  | none => simp
  | some a =>
    obtain ⟨h2, r, h⟩ := whole_some hx
    have := nsec3_len h
    rw [Option.getD_some]; omega
end Go.Proofs.YtnllofjjffflkaaGreatDoor
