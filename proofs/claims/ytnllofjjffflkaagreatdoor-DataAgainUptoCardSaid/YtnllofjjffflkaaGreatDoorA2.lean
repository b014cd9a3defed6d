/- Walk and contract of DataAgain; for texts of at most 2^20 bytes. -/
import Derived.Test.YtnllofjjffflkaaGreatDoorA1
import Derived.Test.YtnllofjjffflkaaGreatDoorKG
import Derived.Test.YtnllofjjffflkaaGreatDoorD1
import Derived.Test.YtnllofjjffflkaaGreatDoorG1
import Derived.Test.YtnllofjjffflkaaGreatDoorC1
import Derived.ChangeMaps5
set_option linter.unusedSimpArgs false
set_option linter.unusedVariables false
namespace Go.Proofs.YtnllofjjffflkaaGreatDoor
open Go.RowKit Gp
theorem get_soa_rng (s : ByteArray) : (∀ n ∈ ([(getSoa s).serial, (getSoa s).refresh, (getSoa s).retry, (getSoa s).expire, (getSoa s).minimum] : List Int), I64 n) ∧ (getSoa s).primary.size ≤ 2000 ∧ (getSoa s).mail.size ≤ 2000 := by
  unfold getSoa
  cases hx : wholeOf s (takeSoa s) with
  | none =>
    refine ⟨?_, by decide, by decide⟩
    intro n hn; simp at hn; subst hn; unfold I64; omega
  | some a =>
    have h := soa_rng hx
    rw [Option.getD_some]
    exact ⟨fun n hn => by have := h.1 n hn; unfold I64; omega, h.2⟩
theorem get_soa_back (s : ByteArray) : (errOf (okSoa s) = 0 ∧ doneV (soaL (getSoa s)) (soaBad (getSoa s)) = (s, 0)) ∨ errOf (okSoa s) = 6 := by
  unfold getSoa okSoa
  cases hx : wholeOf s (takeSoa s) with
  | none => exact .inr rfl
  | some a => exact .inl ⟨rfl, by rw [Option.getD_some]; exact soa_back hx⟩
theorem get_sig_rng (s : ByteArray) : (∀ n ∈ ([(getSig s).covered, (getSig s).alg, (getSig s).labels, (getSig s).ttl, (getSig s).fin, (getSig s).start, (getSig s).tag] : List Int), I64 n) ∧ (getSig s).signer.size ≤ 2000 ∧ (getSig s).sign.size ≤ 2000 := by
  unfold getSig
  cases hx : wholeOf s (takeSig s) with
  | none =>
    refine ⟨?_, by decide, by decide⟩
    intro n hn; simp at hn; subst hn; unfold I64; omega
  | some a =>
    have h := sig_rng hx
    rw [Option.getD_some]
    exact ⟨fun n hn => by have := h.1 n hn; unfold I64; omega, h.2⟩
theorem get_sig_back (s : ByteArray) : (errOf (okSig s) = 0 ∧ doneV (sigL (getSig s)) (sigBad (getSig s)) = (s, 0)) ∨ errOf (okSig s) = 6 := by
  unfold getSig okSig
  cases hx : wholeOf s (takeSig s) with
  | none => exact .inr rfl
  | some a => exact .inl ⟨rfl, by rw [Option.getD_some]; exact sig_back hx⟩
theorem get_key_rng (s : ByteArray) : (∀ n ∈ ([(getKey s).flags, (getKey s).protocol, (getKey s).alg] : List Int), I64 n) ∧ (getKey s).pub.size ≤ 2000 := by
  unfold getKey
  cases hx : wholeOf s (takeKey s) with
  | none =>
    refine ⟨?_, by decide⟩
    intro n hn; simp at hn; subst hn; unfold I64; omega
  | some a =>
    have h := key_rng hx
    rw [Option.getD_some]
    exact ⟨fun n hn => by have := h.1 n hn; unfold I64; omega, h.2⟩
theorem get_key_back (s : ByteArray) : (errOf (okKey s) = 0 ∧ doneV (keyL (getKey s)) (keyBad (getKey s)) = (s, 0)) ∨ errOf (okKey s) = 6 := by
  unfold getKey okKey
  cases hx : wholeOf s (takeKey s) with
  | none => exact .inr rfl
  | some a => exact .inl ⟨rfl, by rw [Option.getD_some]; exact key_back hx⟩
theorem get_ds_rng (s : ByteArray) : (∀ n ∈ ([(getDs s).tag, (getDs s).alg, (getDs s).kind] : List Int), I64 n) ∧ (getDs s).digest.size ≤ 2000 := by
  unfold getDs
  cases hx : wholeOf s (takeDs s) with
  | none =>
    refine ⟨?_, by decide⟩
    intro n hn; simp at hn; subst hn; unfold I64; omega
  | some a =>
    have h := ds_rng hx
    rw [Option.getD_some]
    exact ⟨fun n hn => by have := h.1 n hn; unfold I64; omega, h.2⟩
theorem get_ds_back (s : ByteArray) : (errOf (okDs s) = 0 ∧ doneV (dsL (getDs s)) (dsBad (getDs s)) = (s, 0)) ∨ errOf (okDs s) = 6 := by
  unfold getDs okDs
  cases hx : wholeOf s (takeDs s) with
  | none => exact .inr rfl
  | some a => exact .inl ⟨rfl, by rw [Option.getD_some]; exact ds_back hx⟩
theorem get_nsec_rng (s : ByteArray) : (∀ n ∈ ([] : List Int), I64 n) ∧ (getNsec s).next.size ≤ 2000 ∧ (getNsec s).types.length ≤ 16000 := by
  unfold getNsec
  cases hx : wholeOf s (takeNsec s) with
  | none =>
    refine ⟨?_, by decide, by decide⟩
    intro n hn; simp at hn
  | some a =>
    have h := nsec_rng hx
    rw [Option.getD_some]
    exact ⟨fun n hn => by have := h.1 n hn; unfold I64; omega, h.2⟩
theorem get_nsec_back (s : ByteArray) : (errOf (okNsec s) = 0 ∧ doneV (nsecL (getNsec s)) (nsecBad (getNsec s)) = (s, 0)) ∨ errOf (okNsec s) = 6 := by
  unfold getNsec okNsec
  cases hx : wholeOf s (takeNsec s) with
  | none => exact .inr rfl
  | some a => exact .inl ⟨rfl, by rw [Option.getD_some]; exact nsec_back hx⟩
theorem get_nsec3_rng (s : ByteArray) : (∀ n ∈ ([(getNsec3 s).alg, (getNsec3 s).flags, (getNsec3 s).rounds] : List Int), I64 n) ∧ (getNsec3 s).salt.size ≤ 2000 ∧ (getNsec3 s).next.size ≤ 2000 ∧ (getNsec3 s).types.length ≤ 16000 := by
  unfold getNsec3
  cases hx : wholeOf s (takeNsec3 s) with
  | none =>
    refine ⟨?_, by decide, by decide, by decide⟩
    intro n hn; simp at hn; subst hn; unfold I64; omega
  | some a =>
    have h := nsec3_rng hx
    rw [Option.getD_some]
    exact ⟨fun n hn => by have := h.1 n hn; unfold I64; omega, h.2⟩
theorem get_nsec3_back (s : ByteArray) : (errOf (okNsec3 s) = 0 ∧ doneV (nsec3L (getNsec3 s)) (nsec3Bad (getNsec3 s)) = (s, 0)) ∨ errOf (okNsec3 s) = 6 := by
  unfold getNsec3 okNsec3
  cases hx : wholeOf s (takeNsec3 s) with
  | none => exact .inr rfl
  | some a => exact .inl ⟨rfl, by rw [Option.getD_some]; exact nsec3_back hx⟩
set_option maxRecDepth 100000 in
set_option maxHeartbeats 16000000 in
theorem again_walk (s : ByteArray) (w : World) (hE : Env w) (hs : s.size ≤ 1073741824) : Calls Tryz.prog 8 #[.string s] w fun e w' => e = .returned (.bool true) ∧ Below w.heap.size w w' := by
  have q1 := Lib.hid (fun W => soa_c s W)
  have r1 := get_soa_rng s
  have h1 := Lib.hid (get_soa_back s)
  have p1 := Lib.hid (fun W => ofSoa_any (getSoa s) W (by omega) (by omega) r1.1)
  clear r1
  have q2 := Lib.hid (fun W => sig_c s W)
  have r2 := get_sig_rng s
  have h2 := Lib.hid (get_sig_back s)
  have p2 := Lib.hid (fun W => ofSig_any (getSig s) W (by omega) (by omega) (by intro n hn; unfold sigPs at hn; refine r2.1 _ ?_; simp only [List.mem_cons, List.not_mem_nil, or_false] at hn ⊢; rcases hn with rfl | rfl | rfl | rfl | rfl | rfl | rfl <;> simp))
  clear r2
  have q3 := Lib.hid (fun W => key_c s W)
  have r3 := get_key_rng s
  have h3 := Lib.hid (get_key_back s)
  have p3 := Lib.hid (fun W => ofKey_any (getKey s) W (r3.1 _ (by simp)) (r3.1 _ (by simp)) (r3.1 _ (by simp)) (by omega))
  clear r3
  have q4 := Lib.hid (fun W => ds_c s W)
  have r4 := get_ds_rng s
  have h4 := Lib.hid (get_ds_back s)
  have p4 := Lib.hid (fun W => ofDs_any (getDs s) W (r4.1 _ (by simp)) (r4.1 _ (by simp)) (r4.1 _ (by simp)) (by omega))
  clear r4
  have q5 := Lib.hid (fun W => nsec_c s W)
  have r5 := get_nsec_rng s
  have h5 := Lib.hid (get_nsec_back s)
  have p5 := Lib.hid (fun (W : World) (A : Option Addr) (c : Nat) (hI : Ints W W.heap.size A (getNsec s).types) => ofNsec_any (getNsec s).next A c (getNsec s).types W hI (by omega) (by omega))
  clear r5
  have q6 := Lib.hid (fun W => nsec3_c s W)
  have r6 := get_nsec3_rng s
  have h6 := Lib.hid (get_nsec3_back s)
  have p6 := Lib.hid (fun (W : World) (A : Option Addr) (c : Nat) (hI : Ints W W.heap.size A (getNsec3 s).types) => ofNsec3_any (getNsec3 s) A c W hI (r6.1 _ (by simp)) (r6.1 _ (by simp)) (r6.1 _ (by simp)) (by omega) (by omega) (by omega))
  clear r6
  obtain ⟨g1, hg1⟩ : ∃ g, g = getSoa s := ⟨_, rfl⟩
  obtain ⟨e1, he1⟩ : ∃ b, b = errOf (okSoa s) := ⟨_, rfl⟩
  simp only [← hg1, ← he1] at q1 p1 h1
  clear hg1 he1
  obtain ⟨d1, hd1⟩ : ∃ x, x = doneV (soaL g1) (soaBad g1) := ⟨_, rfl⟩
  simp only [← hd1] at p1 h1
  clear hd1
  obtain ⟨g2, hg2⟩ : ∃ g, g = getSig s := ⟨_, rfl⟩
  obtain ⟨e2, he2⟩ : ∃ b, b = errOf (okSig s) := ⟨_, rfl⟩
  simp only [← hg2, ← he2] at q2 p2 h2
  clear hg2 he2
  obtain ⟨d2, hd2⟩ : ∃ x, x = doneV (sigL g2) (sigBad g2) := ⟨_, rfl⟩
  simp only [← hd2] at p2 h2
  clear hd2
  obtain ⟨g3, hg3⟩ : ∃ g, g = getKey s := ⟨_, rfl⟩
  obtain ⟨e3, he3⟩ : ∃ b, b = errOf (okKey s) := ⟨_, rfl⟩
  simp only [← hg3, ← he3] at q3 p3 h3
  clear hg3 he3
  obtain ⟨d3, hd3⟩ : ∃ x, x = doneV (keyL g3) (keyBad g3) := ⟨_, rfl⟩
  simp only [← hd3] at p3 h3
  clear hd3
  obtain ⟨g4, hg4⟩ : ∃ g, g = getDs s := ⟨_, rfl⟩
  obtain ⟨e4, he4⟩ : ∃ b, b = errOf (okDs s) := ⟨_, rfl⟩
  simp only [← hg4, ← he4] at q4 p4 h4
  clear hg4 he4
  obtain ⟨d4, hd4⟩ : ∃ x, x = doneV (dsL g4) (dsBad g4) := ⟨_, rfl⟩
  simp only [← hd4] at p4 h4
  clear hd4
  obtain ⟨g5, hg5⟩ : ∃ g, g = getNsec s := ⟨_, rfl⟩
  obtain ⟨e5, he5⟩ : ∃ b, b = errOf (okNsec s) := ⟨_, rfl⟩
  simp only [← hg5, ← he5] at q5 p5 h5
  clear hg5 he5
  have e5' : (⟨g5.next, g5.types⟩ : Nsec) = g5 := rfl
  obtain ⟨d5, hd5⟩ : ∃ x, x = doneV (nsecL g5) (nsecBad g5) := ⟨_, rfl⟩
  simp only [← hd5] at p5 h5
  clear hd5
  obtain ⟨g6, hg6⟩ : ∃ g, g = getNsec3 s := ⟨_, rfl⟩
  obtain ⟨e6, he6⟩ : ∃ b, b = errOf (okNsec3 s) := ⟨_, rfl⟩
  simp only [← hg6, ← he6] at q6 p6 h6
  clear hg6 he6
  obtain ⟨d6, hd6⟩ : ∃ x, x = doneV (nsec3L g6) (nsec3Bad g6) := ⟨_, rfl⟩
  simp only [← hd6] at p6 h6
  clear hd6
  clear e5'
  go_enter Tryz.func8, Tryz.ntmps8
  go_wp2_with fail
  refine (examples_any w hE).mono ?_
  rintro e v0 ⟨rfl, hB0⟩
  have HW := Lib.hid hB0; clear hB0
  go_wp2_with fail
  refine (q1.out v0).mono ?_
  rintro e u1 ⟨rfl, hB⟩
  obtain ⟨X1, hX⟩ : ∃ X, X = u1.heap.size := ⟨_, rfl⟩
  obtain ⟨v1, hV⟩ : ∃ V, V = u1.alloc (.cells #[.string g1.primary, .string g1.mail, .int .i64 g1.serial, .int .i64 g1.refresh, .int .i64 g1.retry, .int .i64 g1.expire, .int .i64 g1.minimum] 30) := ⟨_, rfl⟩
  have hBA : Below v0.heap.size v0 v1 := by rw [hV]; exact hB.alloc hB.size _
  have K1 := Lib.hid (show Blk X1 #[.string g1.primary, .string g1.mail, .int .i64 g1.serial, .int .i64 g1.refresh, .int .i64 g1.retry, .int .i64 g1.expire, .int .i64 g1.minimum] 30 v1 by rw [hV, hX]; exact Blk.new u1 _ _)
  replace HW := Lib.hid (HW.out.trans (hBA.mono HW.out.size))
  clear hB hBA q1
  go_wp2_with fail
  rw [← hV, ← hX]
  clear hV hX
  refine (q2.out v1).mono ?_
  rintro e u2 ⟨rfl, hB⟩
  obtain ⟨X2, hX⟩ : ∃ X, X = u2.heap.size := ⟨_, rfl⟩
  obtain ⟨v2, hV⟩ : ∃ V, V = u2.alloc (.cells #[.int .i64 g2.covered, .int .i64 g2.alg, .int .i64 g2.labels, .int .i64 g2.ttl, .int .i64 g2.fin, .int .i64 g2.start, .int .i64 g2.tag, .string g2.signer, .string g2.sign] 36) := ⟨_, rfl⟩
  have hBA : Below v1.heap.size v1 v2 := by rw [hV]; exact hB.alloc hB.size _
  replace K1 := Lib.hid (K1.out.step hBA)
  have K2 := Lib.hid (show Blk X2 #[.int .i64 g2.covered, .int .i64 g2.alg, .int .i64 g2.labels, .int .i64 g2.ttl, .int .i64 g2.fin, .int .i64 g2.start, .int .i64 g2.tag, .string g2.signer, .string g2.sign] 36 v2 by rw [hV, hX]; exact Blk.new u2 _ _)
  replace HW := Lib.hid (HW.out.trans (hBA.mono HW.out.size))
  clear hB hBA q2
  go_wp2_with fail
  rw [← hV, ← hX]
  clear hV hX
  refine (q3.out v2).mono ?_
  rintro e u3 ⟨rfl, hB⟩
  obtain ⟨X3, hX⟩ : ∃ X, X = u3.heap.size := ⟨_, rfl⟩
  obtain ⟨v3, hV⟩ : ∃ V, V = u3.alloc (.cells #[.int .i64 g3.flags, .int .i64 g3.protocol, .int .i64 g3.alg, .string g3.pub] 42) := ⟨_, rfl⟩
  have hBA : Below v2.heap.size v2 v3 := by rw [hV]; exact hB.alloc hB.size _
  replace K1 := Lib.hid (K1.out.step hBA)
  replace K2 := Lib.hid (K2.out.step hBA)
  have K3 := Lib.hid (show Blk X3 #[.int .i64 g3.flags, .int .i64 g3.protocol, .int .i64 g3.alg, .string g3.pub] 42 v3 by rw [hV, hX]; exact Blk.new u3 _ _)
  replace HW := Lib.hid (HW.out.trans (hBA.mono HW.out.size))
  clear hB hBA q3
  go_wp2_with fail
  rw [← hV, ← hX]
  clear hV hX
  refine (q4.out v3).mono ?_
  rintro e u4 ⟨rfl, hB⟩
  obtain ⟨X4, hX⟩ : ∃ X, X = u4.heap.size := ⟨_, rfl⟩
  obtain ⟨v4, hV⟩ : ∃ V, V = u4.alloc (.cells #[.int .i64 g4.tag, .int .i64 g4.alg, .int .i64 g4.kind, .string g4.digest] 48) := ⟨_, rfl⟩
  have hBA : Below v3.heap.size v3 v4 := by rw [hV]; exact hB.alloc hB.size _
  replace K1 := Lib.hid (K1.out.step hBA)
  replace K2 := Lib.hid (K2.out.step hBA)
  replace K3 := Lib.hid (K3.out.step hBA)
  have K4 := Lib.hid (show Blk X4 #[.int .i64 g4.tag, .int .i64 g4.alg, .int .i64 g4.kind, .string g4.digest] 48 v4 by rw [hV, hX]; exact Blk.new u4 _ _)
  replace HW := Lib.hid (HW.out.trans (hBA.mono HW.out.size))
  clear hB hBA q4
  go_wp2_with fail
  rw [← hV, ← hX]
  clear hV hX
  refine (q5.out v4).mono ?_
  rintro e u5 ⟨A5, c5, rfl, hI, hB⟩
  obtain ⟨X5, hX⟩ : ∃ X, X = u5.heap.size := ⟨_, rfl⟩
  obtain ⟨v5, hV⟩ : ∃ V, V = u5.alloc (.cells #[.string g5.next, .slice A5 g5.types.length c5] 55) := ⟨_, rfl⟩
  have hBA : Below v4.heap.size v4 v5 := by rw [hV]; exact hB.alloc hB.size _
  replace K1 := Lib.hid (K1.out.step hBA)
  replace K2 := Lib.hid (K2.out.step hBA)
  replace K3 := Lib.hid (K3.out.step hBA)
  replace K4 := Lib.hid (K4.out.step hBA)
  have K5 := Lib.hid (show Blk X5 #[.string g5.next, .slice A5 g5.types.length c5] 55 v5 by rw [hV, hX]; exact Blk.new u5 _ _)
  have I5 := Lib.hid (show Ints v5 v5.heap.size A5 g5.types by rw [hV]; exact (hI.below ((Below.refl _ _).alloc (Nat.le_refl _) _)).more (by simp))
  clear hI
  replace HW := Lib.hid (HW.out.trans (hBA.mono HW.out.size))
  clear hB hBA q5
  go_wp2_with fail
  rw [← hV, ← hX]
  clear hV hX
  refine (q6.out v5).mono ?_
  rintro e u6 ⟨A6, c6, rfl, hI, hB⟩
  obtain ⟨X6, hX⟩ : ∃ X, X = u6.heap.size := ⟨_, rfl⟩
  obtain ⟨v6, hV⟩ : ∃ V, V = u6.alloc (.cells #[.int .i64 g6.alg, .int .i64 g6.flags, .int .i64 g6.rounds, .string g6.salt, .string g6.next, .slice A6 g6.types.length c6] 61) := ⟨_, rfl⟩
  have hBA : Below v5.heap.size v5 v6 := by rw [hV]; exact hB.alloc hB.size _
  have K1u := Lib.hid (Blk.below K1.out hB (Array.getElem?_eq_some_iff.1 K1.out).1)
  replace K1 := Lib.hid (K1.out.step hBA)
  replace K2 := Lib.hid (K2.out.step hBA)
  replace K3 := Lib.hid (K3.out.step hBA)
  replace K4 := Lib.hid (K4.out.step hBA)
  replace K5 := Lib.hid (K5.out.step hBA)
  replace I5 := Lib.hid ((I5.out.below hBA).more hBA.size)
  have K6 := Lib.hid (show Blk X6 #[.int .i64 g6.alg, .int .i64 g6.flags, .int .i64 g6.rounds, .string g6.salt, .string g6.next, .slice A6 g6.types.length c6] 61 v6 by rw [hV, hX]; exact Blk.new u6 _ _)
  have I6 := Lib.hid (show Ints v6 v6.heap.size A6 g6.types by rw [hV]; exact (hI.below ((Below.refl _ _).alloc (Nat.le_refl _) _)).more (by simp))
  clear hI
  replace HW := Lib.hid (HW.out.trans (hBA.mono HW.out.size))
  clear hB hBA q6
  have cc := K1.out.cells
  rw [hV] at cc
  have cu := K1u.out.cells
  have hlu : X1 < u6.heap.size := (Array.getElem?_eq_some_iff.1 K1u.out).1
  have hnu : X1 ≠ u6.heap.size := by omega
  go_wp2_with fail
  rw [← hV, ← hX]
  clear hV hX
  refine (p1.out v6).mono ?_
  rintro e y1 ⟨rfl, hB⟩
  clear cc cu hlu hnu K1u
  replace K2 := Lib.hid (K2.out.step hB)
  replace K3 := Lib.hid (K3.out.step hB)
  replace K4 := Lib.hid (K4.out.step hB)
  replace K5 := Lib.hid (K5.out.step hB)
  replace K6 := Lib.hid (K6.out.step hB)
  replace I5 := Lib.hid ((I5.out.below hB).more hB.size)
  replace I6 := Lib.hid ((I6.out.below hB).more hB.size)
  replace HW := Lib.hid (HW.out.trans (hB.mono HW.out.size))
  clear hB p1
  have cc := K2.out.cells
  go_wp2_with fail
  refine (p2.out y1).mono ?_
  rintro e y2 ⟨rfl, hB⟩
  clear cc
  replace K3 := Lib.hid (K3.out.step hB)
  replace K4 := Lib.hid (K4.out.step hB)
  replace K5 := Lib.hid (K5.out.step hB)
  replace K6 := Lib.hid (K6.out.step hB)
  replace I5 := Lib.hid ((I5.out.below hB).more hB.size)
  replace I6 := Lib.hid ((I6.out.below hB).more hB.size)
  replace HW := Lib.hid (HW.out.trans (hB.mono HW.out.size))
  clear hB p2
  have cc := K3.out.cells
  go_wp2_with fail
  refine (p3.out y2).mono ?_
  rintro e y3 ⟨rfl, hB⟩
  clear cc
  replace K4 := Lib.hid (K4.out.step hB)
  replace K5 := Lib.hid (K5.out.step hB)
  replace K6 := Lib.hid (K6.out.step hB)
  replace I5 := Lib.hid ((I5.out.below hB).more hB.size)
  replace I6 := Lib.hid ((I6.out.below hB).more hB.size)
  replace HW := Lib.hid (HW.out.trans (hB.mono HW.out.size))
  clear hB p3
  have cc := K4.out.cells
  go_wp2_with fail
  refine (p4.out y3).mono ?_
  rintro e y4 ⟨rfl, hB⟩
  clear cc
  replace K5 := Lib.hid (K5.out.step hB)
  replace K6 := Lib.hid (K6.out.step hB)
  replace I5 := Lib.hid ((I5.out.below hB).more hB.size)
  replace I6 := Lib.hid ((I6.out.below hB).more hB.size)
  replace HW := Lib.hid (HW.out.trans (hB.mono HW.out.size))
  clear hB p4
  have cc := K5.out.cells
  go_wp2_with fail
  refine (p5.out y4 A5 c5 I5.out).mono ?_
  rintro e y5 ⟨rfl, hB⟩
  clear cc
  replace K6 := Lib.hid (K6.out.step hB)
  replace I5 := Lib.hid ((I5.out.below hB).more hB.size)
  replace I6 := Lib.hid ((I6.out.below hB).more hB.size)
  replace HW := Lib.hid (HW.out.trans (hB.mono HW.out.size))
  clear hB p5
  have cc := K6.out.cells
  go_wp2_with fail
  refine (p6.out y5 A6 c6 I6.out).mono ?_
  rintro e y6 ⟨rfl, hB⟩
  clear cc
  replace I5 := Lib.hid ((I5.out.below hB).more hB.size)
  replace I6 := Lib.hid ((I6.out.below hB).more hB.size)
  replace HW := Lib.hid (HW.out.trans (hB.mono HW.out.size))
  clear hB p6
  have z := str_eq (rfl : s = s)
  clear K1 K2 K3 K4 K5 K6 I5 I6
  have f1 := h1.out
  have f2 := h2.out
  have f3 := h3.out
  have f4 := h4.out
  have f5 := h5.out
  have f6 := h6.out
  clear h1 h2 h3 h4 h5 h6
  rcases f1 with ⟨rfl, rfl⟩ | rfl <;> rcases f2 with ⟨rfl, rfl⟩ | rfl <;> rcases f3 with ⟨rfl, rfl⟩ | rfl <;> rcases f4 with ⟨rfl, rfl⟩ | rfl <;> rcases f5 with ⟨rfl, rfl⟩ | rfl <;> rcases f6 with ⟨rfl, rfl⟩ | rfl <;>
    (as_aux_lemma => (go_wp2_with fail; go_ret; exact ⟨rfl, HW.out⟩))
end Go.Proofs.YtnllofjjffflkaaGreatDoor
namespace Go.Proofs.YtnllofjjffflkaaGreatDoor
open Go Gp Go.ChangeShapes Go.WideShapes Go.ChangeAt Go.RowKit Go.Deep Go.WideElems Go.Maps
set_option maxRecDepth 100000 in
set_option maxHeartbeats 4000000 in
theorem again_contract (H : Type) (enc : TypeId × Value → H) (W : World) (base : Nat) (args : Array Value) (ds gs : List (DataW H)) (before : List MemPlace)
    (hval : ∀ (j : Nat) t v, Tryz.f8.params[j]? = some t → args[j]? = some v → Value.okWide Tryz.prog W .any base t v)
    (hW : DataW.Whole enc Tryz.prog Tryz.f8.params.toList Rows.dataAgainSpec.vars false W args.toList ds gs before) (hk : Rows.uptoSmall H (ds ++ gs) = true) (hE : Env W) :
    Calls Tryz.prog 8 args W fun e W' => ∃ v, e = .returned v ∧ Rows.dataAgainSpec.post enc Tryz.prog Tryz.f8 false true false false W args v W' := by
  have hW' := hW
  obtain ⟨p, q, hA0, hV, rfl, hfz, hnd⟩ := hW
  have hA : DataW.TrodAll enc Tryz.prog W 0 (fun _ => true) true Tryz.f8.params.toList args.toList ds p := hA0
  rw [Tryz.params8] at hA hval
  obtain ⟨v0, vs0, d0, ds0, p0, q0, hargs, rfl, rfl, h0, r0⟩ := trodAll_cons hA
  obtain ⟨rfl, rfl, rfl⟩ := trodAll_nil r0
  obtain rfl : args = #[v0] := by cases args; simp_all
  obtain ⟨rfl, rfl⟩ := trodVars_none hV
  obtain ⟨A0, rfl, rfl, rfl, l0⟩ := Go.ChangeMaps.open_string Tryz.underlying9 (hval 0 9 v0 rfl rfl) h0
  clear hA hA0 r0 hval hargs h0
  have hb := of_decide_eq_true hk
  simp only [List.cons_append, List.nil_append, List.append_nil, Rows.uptoBulkAll, Rows.uptoBulk, data_length] at hb
  refine (again_walk A0 W hE (by omega)).mono ?_
  rintro e W' ⟨rfl, bel⟩
  refine ⟨_, rfl, ?_⟩
  refine post_of_below hW' ?_ (pa := _) (pv := []) ?_ ?_ rfl bel
  · intro b sp hd
    exact trodAll_cons_mk (shut_bool Tryz.underlying4 _) trodAll_mk0
  · intro sp hsp
    exact trodAll_cons_mk (Go.ChangeMaps.shut_string Tryz.underlying9 l0) trodAll_mk0
  · intro sp hsp
    exact rfl
abbrev witAgain : Array Value := #[.string ⟨#[]⟩]
theorem again_reads (os : Os) {H : Type} (enc : TypeId × Value → H) : ∃ places, DataW.whole enc Tryz.prog ((witWorld os).forCall (fun _ _ => 0) ⟨#[], witAgain, []⟩).memory Tryz.f8.params.toList Rows.dataAgainSpec.vars false witAgain.toList 8 = some ([.lit (.string [])], [], places) :=
  ⟨[], by kernel_rfl⟩
set_option maxRecDepth 100000 in
theorem again_lifted (os : Os) (started : os.Started) (H : Type) (enc : TypeId × Value → H) (F : Stop.Interp) :
    ReturnsInHanded {} Tryz.checked os 8 .any ((Rows.OpenSpec.upto Rows.dataAgainSpec).preRow enc Tryz.prog Tryz.f8 Rows.dataAgainUptoRow.domain false Rows.dataAgainUptoRow.laid) (((Rows.OpenSpec.upto Rows.dataAgainSpec).at F).post enc Tryz.prog Tryz.f8 false true false false) := by
  obtain ⟨places, hx⟩ := again_reads os enc
  refine returnsInHanded_of_row (C := Tryz.checked) (s := Rows.OpenSpec.upto Rows.dataAgainSpec) own started (by kernel_rfl) Tryz.func8
    (witness_row_atRef (enc := enc) (C := Tryz.checked) false (witWorld os) witAgain rfl (by kernel_rfl) (by kernel_rfl) (by kernel_rfl)
      (OpenSpec.preRow_of_cond 8 hx (by kernel_rfl) (fun k hk => by cases hk; kernel_rfl) (by kernel_rfl) (wit_met os _))) ?_
  intro W base args ds gs before hval hW _ hcond _ hL hsh _
  exact again_contract H enc W base args ds gs before hval hW (hcond _ rfl) (env_of hL hsh)
end Go.Proofs.YtnllofjjffflkaaGreatDoor
