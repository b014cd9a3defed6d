/- Walk of DataMakes; for texts of at most 2^30 bytes. -/
import Derived.Test.YtnllofjjffflkaaGreatDoorG1
set_option linter.unusedSimpArgs false
set_option linter.unusedVariables false
namespace Go.Proofs.YtnllofjjffflkaaGreatDoor
open Go.RowKit Gp
/-- Both answers of a putting together: the code's and the document's. -/
def Both (x : ByteArray × Int) (y : ByteArray × Bool) : Prop := ∃ d, (x = (d, 0) ∧ y = (d, true)) ∨ (x = (d, 6) ∧ y = (d, false))
theorem done_both (l : List UInt8) (bad : Bool) : Both (doneV l bad) (refDone l bad) := by
  cases bad with
  | true => exact ⟨⟨#[]⟩, .inr ⟨by simp [doneV], by simp [refDone, shortS, shortB]⟩⟩
  | false =>
    by_cases h : 2000 < l.length
    · refine ⟨⟨#[]⟩, .inr ⟨by simp [doneV, h], ?_⟩⟩
      have h2 : ¬ l.length ≤ 2000 := by omega
      simp [refDone, shortS, shortB, ofL_size, h2]
    · refine ⟨ofL l, .inl ⟨by simp [doneV, h, ofL], ?_⟩⟩
      have h2 : l.length ≤ 2000 := by omega
      simp [refDone, shortS, shortB, ofL_size, h2]
theorem soa_both (l : List UInt8) (bad : Bool) (hl : bad = false → l.length ≤ 2000) : Both (doneV l bad) (soaDone l bad) := by
  cases bad with
  | true => exact ⟨⟨#[]⟩, .inr ⟨by simp [doneV], by simp [soaDone]⟩⟩
  | false =>
    have h2 := hl rfl
    have h : ¬ 2000 < l.length := by omega
    exact ⟨ofL l, .inl ⟨by simp [doneV, h, ofL], by simp [soaDone]⟩⟩
theorem right_len {s : ByteArray} (h : rightB s = true) : s.size ≤ 255 := by
  simp only [rightB, Bool.and_eq_true, decide_eq_true_eq] at h
  exact h.1.1.2
theorem soa_len (x : Soa) (h : soaBad x = false) : (soaL x).length ≤ 2000 := by
  simp only [soaBad, Bool.or_eq_false_iff, Bool.not_eq_false'] at h
  have h1 := right_len h.1.1.1.1.1.1
  have h2 := right_len h.1.1.1.1.1.2
  simp only [soaL, List.length_append, be_length, data_length]
  omega
set_option maxRecDepth 100000 in
set_option maxHeartbeats 8000000 in
theorem makes_walk (a : Soa) (b : Sig) (c : Key) (d : Ds) (w : World) (hE : Env w)
    (a1 : a.primary.size ≤ 1073741824) (a2 : a.mail.size ≤ 1073741824) (a3 : ∀ n ∈ [a.serial, a.refresh, a.retry, a.expire, a.minimum], I64 n)
    (b1 : b.signer.size ≤ 1073741824) (b2 : b.sign.size ≤ 1073741824) (b3 : ∀ n ∈ sigPs b, I64 n.1)
    (c1 : I64 c.flags) (c2 : I64 c.protocol) (c3 : I64 c.alg) (c4 : c.pub.size ≤ 1073741824)
    (d1 : I64 d.tag) (d2 : I64 d.alg) (d3 : I64 d.kind) (d4 : d.digest.size ≤ 1073741824) :
    Calls Tryz.prog 5 #[soaV a, sigV b, keyV c, dsV d] w fun e w' => e = .returned (.bool true) ∧ Below w.heap.size w w' := by
  have k28 := Lib.hid (fun w => ofSoa_any a w a1 a2 a3)
  have k29 := Lib.hid (fun w => refOfSoa_any a w a1 a2)
  have k30 := Lib.hid (fun w => ofSig_any b w b1 b2 b3)
  have k31 := Lib.hid (fun w => refOfSig_any b w b1 b2)
  have k32 := Lib.hid (fun w => ofKey_any c w c1 c2 c3 (by omega))
  have k33 := Lib.hid (fun w => refOfKey_any c w c4)
  have k34 := Lib.hid (fun w => ofDs_any d w d1 d2 d3 (by omega))
  have k35 := Lib.hid (fun w => refOfDs_any d w d4)
  have q1 := Lib.hid (soa_both (soaL a) (soaBad a) (soa_len a))
  have q2 := Lib.hid (done_both (sigL b) (sigBad b))
  have q3 := Lib.hid (done_both (keyL c) (keyBad c))
  have q4 := Lib.hid (done_both (dsL d) (dsBad d))
  clear a1 a2 a3 b1 b2 b3 c1 c2 c3 c4 d1 d2 d3 d4
  obtain ⟨x1, hx1⟩ : ∃ x, x = doneV (soaL a) (soaBad a) := ⟨_, rfl⟩
  obtain ⟨x2, hx2⟩ : ∃ x, x = doneV (sigL b) (sigBad b) := ⟨_, rfl⟩
  obtain ⟨x3, hx3⟩ : ∃ x, x = doneV (keyL c) (keyBad c) := ⟨_, rfl⟩
  obtain ⟨x4, hx4⟩ : ∃ x, x = doneV (dsL d) (dsBad d) := ⟨_, rfl⟩
  obtain ⟨y1, hy1⟩ : ∃ x, x = soaDone (soaL a) (soaBad a) := ⟨_, rfl⟩
  obtain ⟨y2, hy2⟩ : ∃ x, x = refDone (sigL b) (sigBad b) := ⟨_, rfl⟩
  obtain ⟨y3, hy3⟩ : ∃ x, x = refDone (keyL c) (keyBad c) := ⟨_, rfl⟩
  obtain ⟨y4, hy4⟩ : ∃ x, x = refDone (dsL d) (dsBad d) := ⟨_, rfl⟩
  simp only [← hx1, ← hx2, ← hx3, ← hx4, ← hy1, ← hy2, ← hy3, ← hy4] at k28 k29 k30 k31 k32 k33 k34 k35 q1 q2 q3 q4
  clear hx1 hx2 hx3 hx4 hy1 hy2 hy3 hy4
  obtain ⟨p, m, n1, n2, n3, n4, n5⟩ := a
  obtain ⟨s1, s2, s3, s4, s5, s6, s7, sg, si⟩ := b
  obtain ⟨e1, e2, e3, pub⟩ := c
  obtain ⟨g1, g2, g3, dig⟩ := d
  obtain ⟨W, hW⟩ : ∃ W, W = (((w.alloc (.cells #[.string p, .string m, .int .i64 n1, .int .i64 n2, .int .i64 n3, .int .i64 n4, .int .i64 n5] 30)).alloc (.cells #[.int .i64 s1, .int .i64 s2, .int .i64 s3, .int .i64 s4, .int .i64 s5, .int .i64 s6, .int .i64 s7, .string sg, .string si] 36)).alloc (.cells #[.int .i64 e1, .int .i64 e2, .int .i64 e3, .string pub] 42)).alloc (.cells #[.int .i64 g1, .int .i64 g2, .int .i64 g3, .string dig] 48) := ⟨_, rfl⟩
  have hB0 : Below w.heap.size w W := by rw [hW]; exact ((((Below.refl _ _).alloc (Nat.le_refl _) _).alloc (by simp) _).alloc (by simp; omega) _).alloc (by simp; omega) _
  have hsW : W.heap.size = w.heap.size + 4 := by rw [hW]; simp
  have K1 : Blk w.heap.size #[.string p, .string m, .int .i64 n1, .int .i64 n2, .int .i64 n3, .int .i64 n4, .int .i64 n5] 30 W := by
    rw [hW]; exact (((Blk.new w _ 30).alloc _).alloc _).alloc _
  have K2 : Blk (w.heap.size + 1) #[.int .i64 s1, .int .i64 s2, .int .i64 s3, .int .i64 s4, .int .i64 s5, .int .i64 s6, .int .i64 s7, .string sg, .string si] 36 W := by
    rw [hW]
    have := Blk.new (w.alloc (.cells #[.string p, .string m, .int .i64 n1, .int .i64 n2, .int .i64 n3, .int .i64 n4, .int .i64 n5] 30)) #[.int .i64 s1, .int .i64 s2, .int .i64 s3, .int .i64 s4, .int .i64 s5, .int .i64 s6, .int .i64 s7, .string sg, .string si] 36
    rw [World.size_alloc] at this
    exact (this.alloc _).alloc _
  have K3 : Blk (w.heap.size + 1 + 1) #[.int .i64 e1, .int .i64 e2, .int .i64 e3, .string pub] 42 W := by
    rw [hW]
    have := Blk.new ((w.alloc (.cells #[.string p, .string m, .int .i64 n1, .int .i64 n2, .int .i64 n3, .int .i64 n4, .int .i64 n5] 30)).alloc (.cells #[.int .i64 s1, .int .i64 s2, .int .i64 s3, .int .i64 s4, .int .i64 s5, .int .i64 s6, .int .i64 s7, .string sg, .string si] 36)) #[.int .i64 e1, .int .i64 e2, .int .i64 e3, .string pub] 42
    rw [World.size_alloc, World.size_alloc] at this
    exact this.alloc _
  have K4 : Blk (w.heap.size + 1 + 1 + 1) #[.int .i64 g1, .int .i64 g2, .int .i64 g3, .string dig] 48 W := by
    rw [hW]
    have := Blk.new (((w.alloc (.cells #[.string p, .string m, .int .i64 n1, .int .i64 n2, .int .i64 n3, .int .i64 n4, .int .i64 n5] 30)).alloc (.cells #[.int .i64 s1, .int .i64 s2, .int .i64 s3, .int .i64 s4, .int .i64 s5, .int .i64 s6, .int .i64 s7, .string sg, .string si] 36)).alloc (.cells #[.int .i64 e1, .int .i64 e2, .int .i64 e3, .string pub] 42)) #[.int .i64 g1, .int .i64 g2, .int .i64 g3, .string dig] 48
    rw [World.size_alloc, World.size_alloc, World.size_alloc] at this
    exact this
  have HK := Lib.hid (And.intro K1 (And.intro K2 (And.intro K3 K4))); clear K1 K2 K3 K4
  have HB0 := Lib.hid hB0; clear hB0
  go_enter Tryz.func5, Tryz.ntmps5
  go_wp2_with fail
  rw [← hW]
  have hEW := hE.next HB0.out
  clear hW
  refine (examples_any W hEW).mono ?_
  rintro e w0 ⟨rfl, hB⟩
  have H0 := Lib.hid (hB.mono (Nat.le_refl W.heap.size)); clear hB
  have c1 := (HK.out.1.below H0.out (by omega)).cells
  go_wp2_with fail
  refine (k28.out w0).mono ?_
  rintro e w1 ⟨rfl, hB⟩
  have H1 := Lib.hid (H0.out.trans (hB.mono H0.out.size)); clear hB c1
  have c2 := (HK.out.1.below H1.out (by omega)).cells
  go_wp2_with fail
  refine (k29.out w1).mono ?_
  rintro e w2 ⟨rfl, hB⟩
  have H2 := Lib.hid (H1.out.trans (hB.mono H1.out.size)); clear hB c2
  have c3 := (HK.out.2.1.below H2.out (by omega)).cells
  go_wp2_with fail
  refine (k30.out w2).mono ?_
  rintro e w3 ⟨rfl, hB⟩
  have H3 := Lib.hid (H2.out.trans (hB.mono H2.out.size)); clear hB c3
  have c4 := (HK.out.2.1.below H3.out (by omega)).cells
  go_wp2_with fail
  refine (k31.out w3).mono ?_
  rintro e w4 ⟨rfl, hB⟩
  have H4 := Lib.hid (H3.out.trans (hB.mono H3.out.size)); clear hB c4
  have c5 := (HK.out.2.2.1.below H4.out (by omega)).cells
  go_wp2_with fail
  refine (k32.out w4).mono ?_
  rintro e w5 ⟨rfl, hB⟩
  have H5 := Lib.hid (H4.out.trans (hB.mono H4.out.size)); clear hB c5
  have c6 := (HK.out.2.2.1.below H5.out (by omega)).cells
  go_wp2_with fail
  refine (k33.out w5).mono ?_
  rintro e w6 ⟨rfl, hB⟩
  have H6 := Lib.hid (H5.out.trans (hB.mono H5.out.size)); clear hB c6
  have c7 := (HK.out.2.2.2.below H6.out (by omega)).cells
  go_wp2_with fail
  refine (k34.out w6).mono ?_
  rintro e w7 ⟨rfl, hB⟩
  have H7 := Lib.hid (H6.out.trans (hB.mono H6.out.size)); clear hB c7
  have c8 := (HK.out.2.2.2.below H7.out (by omega)).cells
  go_wp2_with fail
  refine (k35.out w7).mono ?_
  rintro e w8 ⟨rfl, hB⟩
  have H8 := Lib.hid (H7.out.trans (hB.mono H7.out.size)); clear hB c8
  clear k28 k29 k30 k31 k32 k33 k34 k35
  have HF := Lib.hid (HB0.out.trans (H8.out.mono HB0.out.size)); clear H0 H1 H2 H3 H4 H5 H6 H7 H8 HK HB0 hEW hE
  obtain ⟨r1, h1⟩ := q1.out
  obtain ⟨r2, h2⟩ := q2.out
  obtain ⟨r3, h3⟩ := q3.out
  obtain ⟨r4, h4⟩ := q4.out
  clear q1 q2 q3 q4
  have z1 := str_eq (rfl : r1 = r1)
  have z2 := str_eq (rfl : r2 = r2)
  have z3 := str_eq (rfl : r3 = r3)
  have z4 := str_eq (rfl : r4 = r4)
  rcases h1 with ⟨rfl, rfl⟩ | ⟨rfl, rfl⟩ <;> rcases h2 with ⟨rfl, rfl⟩ | ⟨rfl, rfl⟩ <;> rcases h3 with ⟨rfl, rfl⟩ | ⟨rfl, rfl⟩ <;> rcases h4 with ⟨rfl, rfl⟩ | ⟨rfl, rfl⟩ <;>
    (go_wp2_with fail
     go_ret
     exact ⟨rfl, HF.out⟩)
end Go.Proofs.YtnllofjjffflkaaGreatDoor
