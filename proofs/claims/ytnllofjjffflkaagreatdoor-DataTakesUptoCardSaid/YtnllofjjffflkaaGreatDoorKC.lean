/- Walk and contract of DataTakes; for texts of at most 2^20 bytes. -/
import Derived.Test.YtnllofjjffflkaaGreatDoorKB
import Derived.Test.YtnllofjjffflkaaGreatDoorG1
import Derived.Test.YtnllofjjffflkaaGreatDoorC1
import Derived.ChangeMaps5
set_option linter.unusedSimpArgs false
set_option linter.unusedVariables false
namespace Go.Proofs.YtnllofjjffflkaaGreatDoor
open Go.RowKit Gp
/-- The number of the error, if any. -/
def errOf (b : Bool) : Int := if b = true then 0 else 6
theorem Blk.step {H : Nat} {cs : Array Value} {t : TypeId} {w w' : World} (h : Blk H cs t w) (hb : Below w.heap.size w w') : Blk H cs t w' := (hb.block H (Array.getElem?_eq_some_iff.1 h).1).trans h
theorem types_len {s : ByteArray} {r : ByteArray} {l : List Nat} (h : takeTypes r.size (-1) r = some l) : l.length ≤ 8 * r.size := takeTypes_len _ _ _ _ h
theorem whole_some {α : Type} {s : ByteArray} {x : Option (α × ByteArray)} {a : α} (h : wholeOf s x = some a) : s.size ≤ 2000 ∧ ∃ r, x = some (a, r) := by
  unfold wholeOf at h
  split at h
  · rename_i h2
    cases x with
    | none => cases h
    | some y =>
      obtain ⟨b, r⟩ := y
      simp only at h
      split at h
      · cases h; exact ⟨h2, r, rfl⟩
      · cases h
  · cases h
theorem nsec_len {s r : ByteArray} {a : Nsec} (h : takeNsec s = some (a, r)) : a.types.length ≤ 8 * s.size := by
  unfold takeNsec at h
  simp only [Option.bind_eq_bind, Option.bind_eq_some_iff] at h
  obtain ⟨⟨n, r1⟩, h1, l, h2, h3⟩ := h
  have z := size_name h1
  have hl := takeTypes_len _ _ _ _ h2
  simp only at hl
  simp only [Option.some.injEq, Prod.mk.injEq] at h3
  obtain ⟨rfl, _⟩ := h3
  simp only [intsOf, List.length_map]; omega
theorem nsec3_len {s r : ByteArray} {a : Nsec3} (h : takeNsec3 s = some (a, r)) : a.types.length ≤ 8 * s.size := by
  unfold takeNsec3 takeShort at h
  simp only [Option.bind_eq_bind, Option.bind_eq_some_iff] at h
  obtain ⟨⟨a1, r1⟩, h1, ⟨a2, r2⟩, h2, ⟨a3, r3⟩, h3, ⟨a4, r4⟩, ⟨⟨n1, q1⟩, g1, g2⟩, ⟨a5, r5⟩, ⟨⟨n2, q2⟩, g3, g4⟩, h6⟩ := h
  have z1 := size_num h1
  have z2 := size_num h2
  have z3 := size_num h3
  have z4 := size_num g1
  have z5 := size_bytes g2
  have z6 := size_num g3
  have z7 := size_bytes g4
  split at h6
  · cases h6
  · simp only [Option.bind_eq_some_iff] at h6
    obtain ⟨l, h7, h8⟩ := h6
    have hl := takeTypes_len _ _ _ _ h7
    simp only at hl z1 z2 z3 z4 z5 z6 z7
    simp only [Option.some.injEq, Prod.mk.injEq] at h8
    obtain ⟨rfl, _⟩ := h8
    simp only [intsOf, List.length_map]; omega
def getSoa (s : ByteArray) : Soa := (wholeOf s (takeSoa s)).getD ⟨⟨#[]⟩, ⟨#[]⟩, 0, 0, 0, 0, 0⟩
def okSoa (s : ByteArray) : Bool := (wholeOf s (takeSoa s)).isSome
theorem soa_c (s : ByteArray) (w : World) : Calls Tryz.prog 15 #[.string s] w fun e w' => e = .returned (.tuple #[soaV (getSoa s), .int .i64 (errOf (okSoa s))]) ∧ Below w.heap.size w w' := by
  refine (soa_any s w).mono ?_
  intro e w' h
  unfold getSoa okSoa
  cases hx : wholeOf s (takeSoa s) with
  | none => rw [hx] at h; obtain ⟨rfl, hb⟩ := h; exact ⟨rfl, hb⟩
  | some a => rw [hx] at h; obtain ⟨⟨v, rfl, rfl⟩, hb⟩ := h; exact ⟨rfl, hb⟩
theorem ref_soa_c (s : ByteArray) (w : World) (hs : s.size ≤ 1073741824) : Calls Tryz.prog 16 #[.string s] w fun e w' => e = .returned (.tuple #[soaV (getSoa s), .bool (okSoa s)]) ∧ Below w.heap.size w w' := by
  refine (ref_soa s w hs).mono ?_
  intro e w' h
  unfold getSoa okSoa
  cases hx : wholeOf s (takeSoa s) with
  | none => rw [hx] at h; obtain ⟨rfl, hb⟩ := h; exact ⟨rfl, hb⟩
  | some a => rw [hx] at h; obtain ⟨⟨v, rfl, rfl⟩, hb⟩ := h; exact ⟨rfl, hb⟩
def getSig (s : ByteArray) : Sig := (wholeOf s (takeSig s)).getD ⟨0, 0, 0, 0, 0, 0, 0, ⟨#[]⟩, ⟨#[]⟩⟩
def okSig (s : ByteArray) : Bool := (wholeOf s (takeSig s)).isSome
theorem sig_c (s : ByteArray) (w : World) : Calls Tryz.prog 17 #[.string s] w fun e w' => e = .returned (.tuple #[sigV (getSig s), .int .i64 (errOf (okSig s))]) ∧ Below w.heap.size w w' := by
  refine (sig_any s w).mono ?_
  intro e w' h
  unfold getSig okSig
  cases hx : wholeOf s (takeSig s) with
  | none => rw [hx] at h; obtain ⟨rfl, hb⟩ := h; exact ⟨rfl, hb⟩
  | some a => rw [hx] at h; obtain ⟨⟨v, rfl, rfl⟩, hb⟩ := h; exact ⟨rfl, hb⟩
theorem ref_sig_c (s : ByteArray) (w : World) (hs : s.size ≤ 1073741824) : Calls Tryz.prog 18 #[.string s] w fun e w' => e = .returned (.tuple #[sigV (getSig s), .bool (okSig s)]) ∧ Below w.heap.size w w' := by
  refine (ref_sig s w hs).mono ?_
  intro e w' h
  unfold getSig okSig
  cases hx : wholeOf s (takeSig s) with
  | none => rw [hx] at h; obtain ⟨rfl, hb⟩ := h; exact ⟨rfl, hb⟩
  | some a => rw [hx] at h; obtain ⟨⟨v, rfl, rfl⟩, hb⟩ := h; exact ⟨rfl, hb⟩
def getKey (s : ByteArray) : Key := (wholeOf s (takeKey s)).getD ⟨0, 0, 0, ⟨#[]⟩⟩
def okKey (s : ByteArray) : Bool := (wholeOf s (takeKey s)).isSome
theorem key_c (s : ByteArray) (w : World) : Calls Tryz.prog 19 #[.string s] w fun e w' => e = .returned (.tuple #[keyV (getKey s), .int .i64 (errOf (okKey s))]) ∧ Below w.heap.size w w' := by
  refine (key_any s w).mono ?_
  intro e w' h
  unfold getKey okKey
  cases hx : wholeOf s (takeKey s) with
  | none => rw [hx] at h; obtain ⟨rfl, hb⟩ := h; exact ⟨rfl, hb⟩
  | some a => rw [hx] at h; obtain ⟨⟨v, rfl, rfl⟩, hb⟩ := h; exact ⟨rfl, hb⟩
theorem ref_key_c (s : ByteArray) (w : World) (hs : s.size ≤ 1073741824) : Calls Tryz.prog 20 #[.string s] w fun e w' => e = .returned (.tuple #[keyV (getKey s), .bool (okKey s)]) ∧ Below w.heap.size w w' := by
  refine (ref_key s w hs).mono ?_
  intro e w' h
  unfold getKey okKey
  cases hx : wholeOf s (takeKey s) with
  | none => rw [hx] at h; obtain ⟨rfl, hb⟩ := h; exact ⟨rfl, hb⟩
  | some a => rw [hx] at h; obtain ⟨⟨v, rfl, rfl⟩, hb⟩ := h; exact ⟨rfl, hb⟩
def getDs (s : ByteArray) : Ds := (wholeOf s (takeDs s)).getD ⟨0, 0, 0, ⟨#[]⟩⟩
def okDs (s : ByteArray) : Bool := (wholeOf s (takeDs s)).isSome
theorem ds_c (s : ByteArray) (w : World) : Calls Tryz.prog 21 #[.string s] w fun e w' => e = .returned (.tuple #[dsV (getDs s), .int .i64 (errOf (okDs s))]) ∧ Below w.heap.size w w' := by
  refine (ds_any s w).mono ?_
  intro e w' h
  unfold getDs okDs
  cases hx : wholeOf s (takeDs s) with
  | none => rw [hx] at h; obtain ⟨rfl, hb⟩ := h; exact ⟨rfl, hb⟩
  | some a => rw [hx] at h; obtain ⟨⟨v, rfl, rfl⟩, hb⟩ := h; exact ⟨rfl, hb⟩
theorem ref_ds_c (s : ByteArray) (w : World) (hs : s.size ≤ 1073741824) : Calls Tryz.prog 22 #[.string s] w fun e w' => e = .returned (.tuple #[dsV (getDs s), .bool (okDs s)]) ∧ Below w.heap.size w w' := by
  refine (ref_ds s w hs).mono ?_
  intro e w' h
  unfold getDs okDs
  cases hx : wholeOf s (takeDs s) with
  | none => rw [hx] at h; obtain ⟨rfl, hb⟩ := h; exact ⟨rfl, hb⟩
  | some a => rw [hx] at h; obtain ⟨⟨v, rfl, rfl⟩, hb⟩ := h; exact ⟨rfl, hb⟩
def getNsec (s : ByteArray) : Nsec := (wholeOf s (takeNsec s)).getD ⟨⟨#[]⟩, []⟩
def okNsec (s : ByteArray) : Bool := (wholeOf s (takeNsec s)).isSome
theorem nsec_c (s : ByteArray) (w : World) : Calls Tryz.prog 23 #[.string s] w fun e w' => ∃ A c, e = .returned (.tuple #[.agg #[.string (getNsec s).next, .slice A (getNsec s).types.length c], .int .i64 (errOf (okNsec s))]) ∧ Ints w' w'.heap.size A (getNsec s).types ∧ Below w.heap.size w w' := by
  refine (nsec_any s w).mono ?_
  intro e w' h
  unfold getNsec okNsec
  cases hx : wholeOf s (takeNsec s) with
  | none => rw [hx] at h; obtain ⟨rfl, hb⟩ := h; exact ⟨none, 0, rfl, fun k hk => absurd hk (by simp), hb⟩
  | some a => rw [hx] at h; obtain ⟨⟨v, rfl, A, c, rfl, ho⟩, hb⟩ := h; exact ⟨A, c, rfl, Ints.of_own ho, hb⟩
theorem ref_nsec_c (s : ByteArray) (w : World) (hs : s.size ≤ 1073741824) : Calls Tryz.prog 24 #[.string s] w fun e w' => ∃ A c, e = .returned (.tuple #[.agg #[.string (getNsec s).next, .slice A (getNsec s).types.length c], .bool (okNsec s)]) ∧ Ints w' w'.heap.size A (getNsec s).types ∧ Below w.heap.size w w' := by
  refine (ref_nsec s w hs).mono ?_
  intro e w' h
  unfold getNsec okNsec
  cases hx : wholeOf s (takeNsec s) with
  | none => rw [hx] at h; obtain ⟨rfl, hb⟩ := h; exact ⟨none, 0, rfl, fun k hk => absurd hk (by simp), hb⟩
  | some a => rw [hx] at h; obtain ⟨⟨v, rfl, A, c, rfl, ho⟩, hb⟩ := h; exact ⟨A, c, rfl, Ints.of_own ho, hb⟩
def getNsec3 (s : ByteArray) : Nsec3 := (wholeOf s (takeNsec3 s)).getD ⟨0, 0, 0, ⟨#[]⟩, ⟨#[]⟩, []⟩
def okNsec3 (s : ByteArray) : Bool := (wholeOf s (takeNsec3 s)).isSome
theorem nsec3_c (s : ByteArray) (w : World) : Calls Tryz.prog 25 #[.string s] w fun e w' => ∃ A c, e = .returned (.tuple #[.agg #[.int .i64 (getNsec3 s).alg, .int .i64 (getNsec3 s).flags, .int .i64 (getNsec3 s).rounds, .string (getNsec3 s).salt, .string (getNsec3 s).next, .slice A (getNsec3 s).types.length c], .int .i64 (errOf (okNsec3 s))]) ∧ Ints w' w'.heap.size A (getNsec3 s).types ∧ Below w.heap.size w w' := by
  refine (nsec3_any s w).mono ?_
  intro e w' h
  unfold getNsec3 okNsec3
  cases hx : wholeOf s (takeNsec3 s) with
  | none => rw [hx] at h; obtain ⟨rfl, hb⟩ := h; exact ⟨none, 0, rfl, fun k hk => absurd hk (by simp), hb⟩
  | some a => rw [hx] at h; obtain ⟨⟨v, rfl, A, c, rfl, ho⟩, hb⟩ := h; exact ⟨A, c, rfl, Ints.of_own ho, hb⟩
theorem ref_nsec3_c (s : ByteArray) (w : World) (hs : s.size ≤ 1073741824) : Calls Tryz.prog 26 #[.string s] w fun e w' => ∃ A c, e = .returned (.tuple #[.agg #[.int .i64 (getNsec3 s).alg, .int .i64 (getNsec3 s).flags, .int .i64 (getNsec3 s).rounds, .string (getNsec3 s).salt, .string (getNsec3 s).next, .slice A (getNsec3 s).types.length c], .bool (okNsec3 s)]) ∧ Ints w' w'.heap.size A (getNsec3 s).types ∧ Below w.heap.size w w' := by
  refine (ref_nsec3 s w hs).mono ?_
  intro e w' h
  unfold getNsec3 okNsec3
  cases hx : wholeOf s (takeNsec3 s) with
  | none => rw [hx] at h; obtain ⟨rfl, hb⟩ := h; exact ⟨none, 0, rfl, fun k hk => absurd hk (by simp), hb⟩
  | some a => rw [hx] at h; obtain ⟨⟨v, rfl, A, c, rfl, ho⟩, hb⟩ := h; exact ⟨A, c, rfl, Ints.of_own ho, hb⟩
theorem len_nsec (s : ByteArray) : (getNsec s).types.length ≤ 1073741824 := by
  unfold getNsec
  cases hx : wholeOf s (takeNsec s) with
  | none => simp
  | some a =>
    obtain ⟨h2, r, h⟩ := whole_some hx
    have := nsec_len h
    rw [Option.getD_some]; omega
theorem len_nsec3 (s : ByteArray) : (getNsec3 s).types.length ≤ 1073741824 := by
  unfold getNsec3
  cases hx : wholeOf s (takeNsec3 s) with
  | none => simp
  | some a =>
    obtain ⟨h2, r, h⟩ := whole_some hx
    have := nsec3_len h
    rw [Option.getD_some]; omega
set_option maxRecDepth 100000 in
set_option maxHeartbeats 16000000 in
theorem takes_walk (s : ByteArray) (w : World) (hE : Env w) (hs : s.size ≤ 1073741824) : Calls Tryz.prog 4 #[.string s] w fun e w' => e = .returned (.bool true) ∧ Below w.heap.size w w' := by
  have q1 := Lib.hid (fun W => soa_c s W)
  have q2 := Lib.hid (fun W => ref_soa_c s W hs)
  have q3 := Lib.hid (fun W => sig_c s W)
  have q4 := Lib.hid (fun W => ref_sig_c s W hs)
  have q5 := Lib.hid (fun W => key_c s W)
  have q6 := Lib.hid (fun W => ref_key_c s W hs)
  have q7 := Lib.hid (fun W => ds_c s W)
  have q8 := Lib.hid (fun W => ref_ds_c s W hs)
  have q9 := Lib.hid (fun W => nsec_c s W)
  have q10 := Lib.hid (fun W => ref_nsec_c s W hs)
  have q11 := Lib.hid (fun W => nsec3_c s W)
  have q12 := Lib.hid (fun W => ref_nsec3_c s W hs)
  have l1 := Lib.hid (len_nsec s)
  have l2 := Lib.hid (len_nsec3 s)
  obtain ⟨g1, hg1⟩ : ∃ g, g = getSoa s := ⟨_, rfl⟩
  obtain ⟨b1, hb1⟩ : ∃ b, b = okSoa s := ⟨_, rfl⟩
  simp only [← hg1, ← hb1] at q1 q2
  clear hg1 hb1
  obtain ⟨g2, hg2⟩ : ∃ g, g = getSig s := ⟨_, rfl⟩
  obtain ⟨b2, hb2⟩ : ∃ b, b = okSig s := ⟨_, rfl⟩
  simp only [← hg2, ← hb2] at q3 q4
  clear hg2 hb2
  obtain ⟨g3, hg3⟩ : ∃ g, g = getKey s := ⟨_, rfl⟩
  obtain ⟨b3, hb3⟩ : ∃ b, b = okKey s := ⟨_, rfl⟩
  simp only [← hg3, ← hb3] at q5 q6
  clear hg3 hb3
  obtain ⟨g4, hg4⟩ : ∃ g, g = getDs s := ⟨_, rfl⟩
  obtain ⟨b4, hb4⟩ : ∃ b, b = okDs s := ⟨_, rfl⟩
  simp only [← hg4, ← hb4] at q7 q8
  clear hg4 hb4
  obtain ⟨g5, hg5⟩ : ∃ g, g = getNsec s := ⟨_, rfl⟩
  obtain ⟨b5, hb5⟩ : ∃ b, b = okNsec s := ⟨_, rfl⟩
  simp only [← hg5, ← hb5] at q9 q10 l1
  clear hg5 hb5
  obtain ⟨g6, hg6⟩ : ∃ g, g = getNsec3 s := ⟨_, rfl⟩
  obtain ⟨b6, hb6⟩ : ∃ b, b = okNsec3 s := ⟨_, rfl⟩
  simp only [← hg6, ← hb6] at q11 q12 l2
  clear hg6 hb6
  go_enter Tryz.func4, Tryz.ntmps4
  go_wp2_with fail
  refine (examples_any w hE).mono ?_
  rintro e v0 ⟨rfl, hB0⟩
  have HW := Lib.hid hB0; clear hB0
  go_wp2_with fail
  refine (q1.out v0).mono ?_
  rintro e u1 ⟨rfl, hB⟩
  obtain ⟨X1, hX⟩ : ∃ X, X = u1.heap.size := ⟨_, rfl⟩
  obtain ⟨v1, hV⟩ : ∃ V, V = u1.alloc (.cells #[.string g1.primary, .string g1.mail, .int .i64 g1.serial, .int .i64 g1.refresh, .int .i64 g1.retry, .int .i64 g1.expire, .int .i64 g1.minimum] 30) := ⟨_, rfl⟩
  have hBA : Below v0.heap.size v0 v1 := by rw [hV]; exact hB.alloc hB.size _
  have K1 := Lib.hid (show Blk X1 #[.string g1.primary, .string g1.mail, .int .i64 g1.serial, .int .i64 g1.refresh, .int .i64 g1.retry, .int .i64 g1.expire, .int .i64 g1.minimum] 30 v1 by rw [hV, hX]; exact Blk.new u1 _ _)
  replace HW := Lib.hid (HW.out.trans (hBA.mono HW.out.size))
  clear hB hBA q1
  go_wp2_with fail
  rw [← hV, ← hX]
  clear hV hX
  refine (q2.out v1).mono ?_
  rintro e u2 ⟨rfl, hB⟩
  obtain ⟨X2, hX⟩ : ∃ X, X = u2.heap.size := ⟨_, rfl⟩
  obtain ⟨v2, hV⟩ : ∃ V, V = u2.alloc (.cells #[.string g1.primary, .string g1.mail, .int .i64 g1.serial, .int .i64 g1.refresh, .int .i64 g1.retry, .int .i64 g1.expire, .int .i64 g1.minimum] 30) := ⟨_, rfl⟩
  have hBA : Below v1.heap.size v1 v2 := by rw [hV]; exact hB.alloc hB.size _
  replace K1 := Lib.hid (K1.out.step hBA)
  have K2 := Lib.hid (show Blk X2 #[.string g1.primary, .string g1.mail, .int .i64 g1.serial, .int .i64 g1.refresh, .int .i64 g1.retry, .int .i64 g1.expire, .int .i64 g1.minimum] 30 v2 by rw [hV, hX]; exact Blk.new u2 _ _)
  replace HW := Lib.hid (HW.out.trans (hBA.mono HW.out.size))
  clear hB hBA q2
  go_wp2_with fail
  rw [← hV, ← hX]
  clear hV hX
  refine (q3.out v2).mono ?_
  rintro e u3 ⟨rfl, hB⟩
  obtain ⟨X3, hX⟩ : ∃ X, X = u3.heap.size := ⟨_, rfl⟩
  obtain ⟨v3, hV⟩ : ∃ V, V = u3.alloc (.cells #[.int .i64 g2.covered, .int .i64 g2.alg, .int .i64 g2.labels, .int .i64 g2.ttl, .int .i64 g2.fin, .int .i64 g2.start, .int .i64 g2.tag, .string g2.signer, .string g2.sign] 36) := ⟨_, rfl⟩
  have hBA : Below v2.heap.size v2 v3 := by rw [hV]; exact hB.alloc hB.size _
  replace K1 := Lib.hid (K1.out.step hBA)
  replace K2 := Lib.hid (K2.out.step hBA)
  have K3 := Lib.hid (show Blk X3 #[.int .i64 g2.covered, .int .i64 g2.alg, .int .i64 g2.labels, .int .i64 g2.ttl, .int .i64 g2.fin, .int .i64 g2.start, .int .i64 g2.tag, .string g2.signer, .string g2.sign] 36 v3 by rw [hV, hX]; exact Blk.new u3 _ _)
  replace HW := Lib.hid (HW.out.trans (hBA.mono HW.out.size))
  clear hB hBA q3
  go_wp2_with fail
  rw [← hV, ← hX]
  clear hV hX
  refine (q4.out v3).mono ?_
  rintro e u4 ⟨rfl, hB⟩
  obtain ⟨X4, hX⟩ : ∃ X, X = u4.heap.size := ⟨_, rfl⟩
  obtain ⟨v4, hV⟩ : ∃ V, V = u4.alloc (.cells #[.int .i64 g2.covered, .int .i64 g2.alg, .int .i64 g2.labels, .int .i64 g2.ttl, .int .i64 g2.fin, .int .i64 g2.start, .int .i64 g2.tag, .string g2.signer, .string g2.sign] 36) := ⟨_, rfl⟩
  have hBA : Below v3.heap.size v3 v4 := by rw [hV]; exact hB.alloc hB.size _
  replace K1 := Lib.hid (K1.out.step hBA)
  replace K2 := Lib.hid (K2.out.step hBA)
  replace K3 := Lib.hid (K3.out.step hBA)
  have K4 := Lib.hid (show Blk X4 #[.int .i64 g2.covered, .int .i64 g2.alg, .int .i64 g2.labels, .int .i64 g2.ttl, .int .i64 g2.fin, .int .i64 g2.start, .int .i64 g2.tag, .string g2.signer, .string g2.sign] 36 v4 by rw [hV, hX]; exact Blk.new u4 _ _)
  replace HW := Lib.hid (HW.out.trans (hBA.mono HW.out.size))
  clear hB hBA q4
  go_wp2_with fail
  rw [← hV, ← hX]
  clear hV hX
  refine (q5.out v4).mono ?_
  rintro e u5 ⟨rfl, hB⟩
  obtain ⟨X5, hX⟩ : ∃ X, X = u5.heap.size := ⟨_, rfl⟩
  obtain ⟨v5, hV⟩ : ∃ V, V = u5.alloc (.cells #[.int .i64 g3.flags, .int .i64 g3.protocol, .int .i64 g3.alg, .string g3.pub] 42) := ⟨_, rfl⟩
  have hBA : Below v4.heap.size v4 v5 := by rw [hV]; exact hB.alloc hB.size _
  replace K1 := Lib.hid (K1.out.step hBA)
  replace K2 := Lib.hid (K2.out.step hBA)
  replace K3 := Lib.hid (K3.out.step hBA)
  replace K4 := Lib.hid (K4.out.step hBA)
  have K5 := Lib.hid (show Blk X5 #[.int .i64 g3.flags, .int .i64 g3.protocol, .int .i64 g3.alg, .string g3.pub] 42 v5 by rw [hV, hX]; exact Blk.new u5 _ _)
  replace HW := Lib.hid (HW.out.trans (hBA.mono HW.out.size))
  clear hB hBA q5
  go_wp2_with fail
  rw [← hV, ← hX]
  clear hV hX
  refine (q6.out v5).mono ?_
  rintro e u6 ⟨rfl, hB⟩
  obtain ⟨X6, hX⟩ : ∃ X, X = u6.heap.size := ⟨_, rfl⟩
  obtain ⟨v6, hV⟩ : ∃ V, V = u6.alloc (.cells #[.int .i64 g3.flags, .int .i64 g3.protocol, .int .i64 g3.alg, .string g3.pub] 42) := ⟨_, rfl⟩
  have hBA : Below v5.heap.size v5 v6 := by rw [hV]; exact hB.alloc hB.size _
  replace K1 := Lib.hid (K1.out.step hBA)
  replace K2 := Lib.hid (K2.out.step hBA)
  replace K3 := Lib.hid (K3.out.step hBA)
  replace K4 := Lib.hid (K4.out.step hBA)
  replace K5 := Lib.hid (K5.out.step hBA)
  have K6 := Lib.hid (show Blk X6 #[.int .i64 g3.flags, .int .i64 g3.protocol, .int .i64 g3.alg, .string g3.pub] 42 v6 by rw [hV, hX]; exact Blk.new u6 _ _)
  replace HW := Lib.hid (HW.out.trans (hBA.mono HW.out.size))
  clear hB hBA q6
  go_wp2_with fail
  rw [← hV, ← hX]
  clear hV hX
  refine (q7.out v6).mono ?_
  rintro e u7 ⟨rfl, hB⟩
  obtain ⟨X7, hX⟩ : ∃ X, X = u7.heap.size := ⟨_, rfl⟩
  obtain ⟨v7, hV⟩ : ∃ V, V = u7.alloc (.cells #[.int .i64 g4.tag, .int .i64 g4.alg, .int .i64 g4.kind, .string g4.digest] 48) := ⟨_, rfl⟩
  have hBA : Below v6.heap.size v6 v7 := by rw [hV]; exact hB.alloc hB.size _
  replace K1 := Lib.hid (K1.out.step hBA)
  replace K2 := Lib.hid (K2.out.step hBA)
  replace K3 := Lib.hid (K3.out.step hBA)
  replace K4 := Lib.hid (K4.out.step hBA)
  replace K5 := Lib.hid (K5.out.step hBA)
  replace K6 := Lib.hid (K6.out.step hBA)
  have K7 := Lib.hid (show Blk X7 #[.int .i64 g4.tag, .int .i64 g4.alg, .int .i64 g4.kind, .string g4.digest] 48 v7 by rw [hV, hX]; exact Blk.new u7 _ _)
  replace HW := Lib.hid (HW.out.trans (hBA.mono HW.out.size))
  clear hB hBA q7
  go_wp2_with fail
  rw [← hV, ← hX]
  clear hV hX
  refine (q8.out v7).mono ?_
  rintro e u8 ⟨rfl, hB⟩
  obtain ⟨X8, hX⟩ : ∃ X, X = u8.heap.size := ⟨_, rfl⟩
  obtain ⟨v8, hV⟩ : ∃ V, V = u8.alloc (.cells #[.int .i64 g4.tag, .int .i64 g4.alg, .int .i64 g4.kind, .string g4.digest] 48) := ⟨_, rfl⟩
  have hBA : Below v7.heap.size v7 v8 := by rw [hV]; exact hB.alloc hB.size _
  replace K1 := Lib.hid (K1.out.step hBA)
  replace K2 := Lib.hid (K2.out.step hBA)
  replace K3 := Lib.hid (K3.out.step hBA)
  replace K4 := Lib.hid (K4.out.step hBA)
  replace K5 := Lib.hid (K5.out.step hBA)
  replace K6 := Lib.hid (K6.out.step hBA)
  replace K7 := Lib.hid (K7.out.step hBA)
  have K8 := Lib.hid (show Blk X8 #[.int .i64 g4.tag, .int .i64 g4.alg, .int .i64 g4.kind, .string g4.digest] 48 v8 by rw [hV, hX]; exact Blk.new u8 _ _)
  replace HW := Lib.hid (HW.out.trans (hBA.mono HW.out.size))
  clear hB hBA q8
  go_wp2_with fail
  rw [← hV, ← hX]
  clear hV hX
  refine (q9.out v8).mono ?_
  rintro e u9 ⟨A9, c9, rfl, hI, hB⟩
  obtain ⟨X9, hX⟩ : ∃ X, X = u9.heap.size := ⟨_, rfl⟩
  obtain ⟨v9, hV⟩ : ∃ V, V = u9.alloc (.cells #[.string g5.next, .slice A9 g5.types.length c9] 55) := ⟨_, rfl⟩
  have hBA : Below v8.heap.size v8 v9 := by rw [hV]; exact hB.alloc hB.size _
  replace K1 := Lib.hid (K1.out.step hBA)
  replace K2 := Lib.hid (K2.out.step hBA)
  replace K3 := Lib.hid (K3.out.step hBA)
  replace K4 := Lib.hid (K4.out.step hBA)
  replace K5 := Lib.hid (K5.out.step hBA)
  replace K6 := Lib.hid (K6.out.step hBA)
  replace K7 := Lib.hid (K7.out.step hBA)
  replace K8 := Lib.hid (K8.out.step hBA)
  have K9 := Lib.hid (show Blk X9 #[.string g5.next, .slice A9 g5.types.length c9] 55 v9 by rw [hV, hX]; exact Blk.new u9 _ _)
  have I9 := Lib.hid (show Ints v9 v9.heap.size A9 g5.types by rw [hV]; exact (hI.below ((Below.refl _ _).alloc (Nat.le_refl _) _)).more (by simp))
  clear hI
  replace HW := Lib.hid (HW.out.trans (hBA.mono HW.out.size))
  clear hB hBA q9
  go_wp2_with fail
  rw [← hV, ← hX]
  clear hV hX
  refine (q10.out v9).mono ?_
  rintro e u10 ⟨A10, c10, rfl, hI, hB⟩
  obtain ⟨X10, hX⟩ : ∃ X, X = u10.heap.size := ⟨_, rfl⟩
  obtain ⟨v10, hV⟩ : ∃ V, V = u10.alloc (.cells #[.string g5.next, .slice A10 g5.types.length c10] 55) := ⟨_, rfl⟩
  have hBA : Below v9.heap.size v9 v10 := by rw [hV]; exact hB.alloc hB.size _
  replace K1 := Lib.hid (K1.out.step hBA)
  replace K2 := Lib.hid (K2.out.step hBA)
  replace K3 := Lib.hid (K3.out.step hBA)
  replace K4 := Lib.hid (K4.out.step hBA)
  replace K5 := Lib.hid (K5.out.step hBA)
  replace K6 := Lib.hid (K6.out.step hBA)
  replace K7 := Lib.hid (K7.out.step hBA)
  replace K8 := Lib.hid (K8.out.step hBA)
  replace K9 := Lib.hid (K9.out.step hBA)
  replace I9 := Lib.hid ((I9.out.below hBA).more hBA.size)
  have K10 := Lib.hid (show Blk X10 #[.string g5.next, .slice A10 g5.types.length c10] 55 v10 by rw [hV, hX]; exact Blk.new u10 _ _)
  have I10 := Lib.hid (show Ints v10 v10.heap.size A10 g5.types by rw [hV]; exact (hI.below ((Below.refl _ _).alloc (Nat.le_refl _) _)).more (by simp))
  clear hI
  replace HW := Lib.hid (HW.out.trans (hBA.mono HW.out.size))
  clear hB hBA q10
  go_wp2_with fail
  rw [← hV, ← hX]
  clear hV hX
  refine (q11.out v10).mono ?_
  rintro e u11 ⟨A11, c11, rfl, hI, hB⟩
  obtain ⟨X11, hX⟩ : ∃ X, X = u11.heap.size := ⟨_, rfl⟩
  obtain ⟨v11, hV⟩ : ∃ V, V = u11.alloc (.cells #[.int .i64 g6.alg, .int .i64 g6.flags, .int .i64 g6.rounds, .string g6.salt, .string g6.next, .slice A11 g6.types.length c11] 61) := ⟨_, rfl⟩
  have hBA : Below v10.heap.size v10 v11 := by rw [hV]; exact hB.alloc hB.size _
  replace K1 := Lib.hid (K1.out.step hBA)
  replace K2 := Lib.hid (K2.out.step hBA)
  replace K3 := Lib.hid (K3.out.step hBA)
  replace K4 := Lib.hid (K4.out.step hBA)
  replace K5 := Lib.hid (K5.out.step hBA)
  replace K6 := Lib.hid (K6.out.step hBA)
  replace K7 := Lib.hid (K7.out.step hBA)
  replace K8 := Lib.hid (K8.out.step hBA)
  replace K9 := Lib.hid (K9.out.step hBA)
  replace K10 := Lib.hid (K10.out.step hBA)
  replace I9 := Lib.hid ((I9.out.below hBA).more hBA.size)
  replace I10 := Lib.hid ((I10.out.below hBA).more hBA.size)
  have K11 := Lib.hid (show Blk X11 #[.int .i64 g6.alg, .int .i64 g6.flags, .int .i64 g6.rounds, .string g6.salt, .string g6.next, .slice A11 g6.types.length c11] 61 v11 by rw [hV, hX]; exact Blk.new u11 _ _)
  have I11 := Lib.hid (show Ints v11 v11.heap.size A11 g6.types by rw [hV]; exact (hI.below ((Below.refl _ _).alloc (Nat.le_refl _) _)).more (by simp))
  clear hI
  replace HW := Lib.hid (HW.out.trans (hBA.mono HW.out.size))
  clear hB hBA q11
  go_wp2_with fail
  rw [← hV, ← hX]
  clear hV hX
  refine (q12.out v11).mono ?_
  rintro e u12 ⟨A12, c12, rfl, hI, hB⟩
  obtain ⟨X12, hX⟩ : ∃ X, X = u12.heap.size := ⟨_, rfl⟩
  obtain ⟨v12, hV⟩ : ∃ V, V = u12.alloc (.cells #[.int .i64 g6.alg, .int .i64 g6.flags, .int .i64 g6.rounds, .string g6.salt, .string g6.next, .slice A12 g6.types.length c12] 61) := ⟨_, rfl⟩
  have hBA : Below v11.heap.size v11 v12 := by rw [hV]; exact hB.alloc hB.size _
  replace K1 := Lib.hid (K1.out.step hBA)
  replace K2 := Lib.hid (K2.out.step hBA)
  replace K3 := Lib.hid (K3.out.step hBA)
  replace K4 := Lib.hid (K4.out.step hBA)
  replace K5 := Lib.hid (K5.out.step hBA)
  replace K6 := Lib.hid (K6.out.step hBA)
  replace K7 := Lib.hid (K7.out.step hBA)
  replace K8 := Lib.hid (K8.out.step hBA)
  replace K9 := Lib.hid (K9.out.step hBA)
  replace K10 := Lib.hid (K10.out.step hBA)
  replace K11 := Lib.hid (K11.out.step hBA)
  replace I9 := Lib.hid ((I9.out.below hBA).more hBA.size)
  replace I10 := Lib.hid ((I10.out.below hBA).more hBA.size)
  replace I11 := Lib.hid ((I11.out.below hBA).more hBA.size)
  have K12 := Lib.hid (show Blk X12 #[.int .i64 g6.alg, .int .i64 g6.flags, .int .i64 g6.rounds, .string g6.salt, .string g6.next, .slice A12 g6.types.length c12] 61 v12 by rw [hV, hX]; exact Blk.new u12 _ _)
  have I12 := Lib.hid (show Ints v12 v12.heap.size A12 g6.types by rw [hV]; exact (hI.below ((Below.refl _ _).alloc (Nat.le_refl _) _)).more (by simp))
  clear hI
  replace HW := Lib.hid (HW.out.trans (hBA.mono HW.out.size))
  clear hB hBA q12
  have hXV : v12.heap.size = X12 + 1 := by rw [hV, hX, World.size_alloc]
  go_wp2_with fail
  rw [← hV, ← hX]
  clear hV hX
  obtain ⟨XE, hXE⟩ : ∃ X, X = X12 + 1 := ⟨_, rfl⟩
  obtain ⟨VE, hVE⟩ : ∃ V, V = (v12.alloc (.cells #[.int .i64 (errOf b1), .int .i64 (errOf b2), .int .i64 (errOf b3), .int .i64 (errOf b4), .int .i64 (errOf b5), .int .i64 (errOf b6)] 23)).alloc (.cells #[.bool b1, .bool b2, .bool b3, .bool b4, .bool b5, .bool b6] 4) := ⟨_, rfl⟩
  have hBA : Below v12.heap.size v12 VE := by rw [hVE]; exact ((Below.refl _ _).alloc (Nat.le_refl _) _).alloc (by simp) _
  replace K1 := Lib.hid (K1.out.step hBA)
  replace K2 := Lib.hid (K2.out.step hBA)
  replace K3 := Lib.hid (K3.out.step hBA)
  replace K4 := Lib.hid (K4.out.step hBA)
  replace K5 := Lib.hid (K5.out.step hBA)
  replace K6 := Lib.hid (K6.out.step hBA)
  replace K7 := Lib.hid (K7.out.step hBA)
  replace K8 := Lib.hid (K8.out.step hBA)
  replace K9 := Lib.hid (K9.out.step hBA)
  replace K10 := Lib.hid (K10.out.step hBA)
  replace K11 := Lib.hid (K11.out.step hBA)
  replace K12 := Lib.hid (K12.out.step hBA)
  replace I9 := Lib.hid ((I9.out.below hBA).more hBA.size)
  replace I10 := Lib.hid ((I10.out.below hBA).more hBA.size)
  replace I11 := Lib.hid ((I11.out.below hBA).more hBA.size)
  replace I12 := Lib.hid ((I12.out.below hBA).more hBA.size)
  have KE := Lib.hid (show Blk XE #[.int .i64 (errOf b1), .int .i64 (errOf b2), .int .i64 (errOf b3), .int .i64 (errOf b4), .int .i64 (errOf b5), .int .i64 (errOf b6)] 23 VE by rw [hVE, hXE, ← hXV]; exact (Blk.new v12 _ _).alloc _)
  have KO := Lib.hid (show Blk (XE + 1) #[.bool b1, .bool b2, .bool b3, .bool b4, .bool b5, .bool b6] 4 VE by rw [hVE, hXE, ← hXV]; have h := Blk.new (v12.alloc (.cells #[.int .i64 (errOf b1), .int .i64 (errOf b2), .int .i64 (errOf b3), .int .i64 (errOf b4), .int .i64 (errOf b5), .int .i64 (errOf b6)] 23)) #[.bool b1, .bool b2, .bool b3, .bool b4, .bool b5, .bool b6] 4; rwa [World.size_alloc] at h)
  replace HW := Lib.hid (HW.out.trans (hBA.mono HW.out.size)); clear hBA
  rw [← hVE, ← hXE]
  clear hVE hXE hXV
  go_loopw [30] (fun v wr => ∃ k : Nat, k ≤ 6 ∧ v = .int .i64 (k : Int) ∧ ∃ n, wr = VE.drewN n) (fun v _ => 6 - (intOf v).toNat)
  case atStart => exact ⟨0, by omega, rfl, 0, rfl⟩
  case round =>
    obtain ⟨k, hk, rfl, n, rfl⟩ := hrel
    by_cases hlt : k < 6
    · obtain ⟨b, hb1, hb2⟩ : ∃ b, VE.cell? ⟨XE, k, none⟩ = some (.int .i64 (errOf b)) ∧ VE.cell? ⟨XE + 1, k, none⟩ = some (.bool b) := by
        rw [KE.out.cells k, KO.out.cells k]
        match k, hlt with
        | 0, _ => exact ⟨b1, rfl, rfl⟩
        | 1, _ => exact ⟨b2, rfl, rfl⟩
        | 2, _ => exact ⟨b3, rfl, rfl⟩
        | 3, _ => exact ⟨b4, rfl, rfl⟩
        | 4, _ => exact ⟨b5, rfl, rfl⟩
        | 5, _ => exact ⟨b6, rfl, rfl⟩
      have hki : (k : Int) < 6 := by omega
      cases b with
      | true =>
        rw [show errOf true = 0 from rfl] at hb1
        go_wp2_with fail
        go_quiet (fail)
        go_wp2_with fail
        go_roundw
        case rel => exact ⟨k + 1, by omega, by go_num, _, rfl⟩
        case measure => simp [intOf]; omega
      | false =>
        rw [show errOf false = 6 from rfl] at hb1
        go_wp2_with fail
        go_quiet (fail)
        go_wp2_with fail
        go_roundw
        case rel => exact ⟨k + 1, by omega, by go_num, _, rfl⟩
        case measure => simp [intOf]; omega
    · obtain rfl : k = 6 := by omega
      clear KE KO hlt hk
      have K1c := K1.out.cells
      have K2c := K2.out.cells
      have K3c := K3.out.cells
      have K4c := K4.out.cells
      have K5c := K5.out.cells
      have K6c := K6.out.cells
      have K7c := K7.out.cells
      have K8c := K8.out.cells
      have K9c := K9.out.cells
      have K10c := K10.out.cells
      have K11c := K11.out.cells
      have K12c := K12.out.cells
      go_wp2_with fail
      refine (numbers_same A9 A10 c9 c10 g5.types VE.heap.size (VE.drewN n) (I9.out.below (below_drewN (Below.refl _ _) _)) (I10.out.below (below_drewN (Below.refl _ _) _)) l1.out).mono ?_
      rintro e y1 ⟨rfl, n1, rfl⟩
      go_wp2_with fail
      refine (numbers_same A11 A12 c11 c12 g6.types VE.heap.size (VE.drewN (n + n1)) (I11.out.below (below_drewN (Below.refl _ _) _)) (I12.out.below (below_drewN (Below.refl _ _) _)) l2.out).mono ?_
      rintro e y2 ⟨rfl, n2, rfl⟩
      have z1 := str_eq (rfl : g5.next = g5.next)
      have z2 := str_eq (rfl : g6.salt = g6.salt)
      have z3 := str_eq (rfl : g6.next = g6.next)
      go_wp2_with fail
      go_ret
      exact ⟨rfl, below_drewN HW.out _⟩
end Go.Proofs.YtnllofjjffflkaaGreatDoor
namespace Go.Proofs.YtnllofjjffflkaaGreatDoor
open Go Gp Go.ChangeShapes Go.WideShapes Go.ChangeAt Go.RowKit Go.Deep Go.WideElems Go.Maps
set_option maxRecDepth 100000 in
set_option maxHeartbeats 4000000 in
theorem takes_contract (H : Type) (enc : TypeId × Value → H) (W : World) (base : Nat) (args : Array Value) (ds gs : List (DataW H)) (before : List MemPlace)
    (hval : ∀ (j : Nat) t v, Tryz.f4.params[j]? = some t → args[j]? = some v → Value.okWide Tryz.prog W .any base t v)
    (hW : DataW.Whole enc Tryz.prog Tryz.f4.params.toList Rows.dataTakesSpec.vars false W args.toList ds gs before) (hk : Rows.uptoSmall H (ds ++ gs) = true) (hE : Env W) :
    Calls Tryz.prog 4 args W fun e W' => ∃ v, e = .returned v ∧ Rows.dataTakesSpec.post enc Tryz.prog Tryz.f4 false true false false W args v W' := by
  have hW' := hW
  obtain ⟨p, q, hA0, hV, rfl, hfz, hnd⟩ := hW
  have hA : DataW.TrodAll enc Tryz.prog W 0 (fun _ => true) true Tryz.f4.params.toList args.toList ds p := hA0
  rw [Tryz.params4] at hA hval
  obtain ⟨v0, vs0, d0, ds0, p0, q0, hargs, rfl, rfl, h0, r0⟩ := trodAll_cons hA
  obtain ⟨rfl, rfl, rfl⟩ := trodAll_nil r0
  obtain rfl : args = #[v0] := by cases args; simp_all
  obtain ⟨rfl, rfl⟩ := trodVars_none hV
  obtain ⟨A0, rfl, rfl, rfl, l0⟩ := Go.ChangeMaps.open_string Tryz.underlying9 (hval 0 9 v0 rfl rfl) h0
  clear hA hA0 r0 hval hargs h0
  have hb := of_decide_eq_true hk
  simp only [List.cons_append, List.nil_append, List.append_nil, Rows.uptoBulkAll, Rows.uptoBulk, data_length] at hb
  refine (takes_walk A0 W hE (by omega)).mono ?_
  rintro e W' ⟨rfl, bel⟩
  refine ⟨_, rfl, ?_⟩
  refine post_of_below hW' ?_ (pa := _) (pv := []) ?_ ?_ rfl bel
  · intro b sp hd
    exact trodAll_cons_mk (shut_bool Tryz.underlying4 _) trodAll_mk0
  · intro sp hsp
    exact trodAll_cons_mk (Go.ChangeMaps.shut_string Tryz.underlying9 l0) trodAll_mk0
  · intro sp hsp
    exact rfl
abbrev witTakes : Array Value := #[.string ⟨#[]⟩]
theorem takes_reads (os : Os) {H : Type} (enc : TypeId × Value → H) : ∃ places, DataW.whole enc Tryz.prog ((witWorld os).forCall (fun _ _ => 0) ⟨#[], witTakes, []⟩).memory Tryz.f4.params.toList Rows.dataTakesSpec.vars false witTakes.toList 8 = some ([.lit (.string [])], [], places) :=
  ⟨[], by kernel_rfl⟩
set_option maxRecDepth 100000 in
theorem takes_lifted (os : Os) (started : os.Started) (H : Type) (enc : TypeId × Value → H) (F : Stop.Interp) :
    ReturnsInHanded {} Tryz.checked os 4 .any ((Rows.OpenSpec.upto Rows.dataTakesSpec).preRow enc Tryz.prog Tryz.f4 Rows.dataTakesUptoRow.domain false Rows.dataTakesUptoRow.laid) (((Rows.OpenSpec.upto Rows.dataTakesSpec).at F).post enc Tryz.prog Tryz.f4 false true false false) := by
  obtain ⟨places, hx⟩ := takes_reads os enc
  refine returnsInHanded_of_row (C := Tryz.checked) (s := Rows.OpenSpec.upto Rows.dataTakesSpec) own started (by kernel_rfl) Tryz.func4
    (witness_row_atRef (enc := enc) (C := Tryz.checked) false (witWorld os) witTakes rfl (by kernel_rfl) (by kernel_rfl) (by kernel_rfl)
      (OpenSpec.preRow_of_cond 8 hx (by kernel_rfl) (fun k hk => by cases hk; kernel_rfl) (by kernel_rfl) (wit_met os _))) ?_
  intro W base args ds gs before hval hW _ hcond _ hL hsh _
  exact takes_contract H enc W base args ds gs before hval hW (hcond _ rfl) (env_of hL hsh)
end Go.Proofs.YtnllofjjffflkaaGreatDoor
