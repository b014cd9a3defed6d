/- The contract of DataMakes, for arguments of bulk at most 2^20. -/
import Derived.Test.YtnllofjjffflkaaGreatDoorG2
import Derived.Test.YtnllofjjffflkaaGreatDoorG4
import Derived.Test.YtnllofjjffflkaaGreatDoorCards
import Derived.OpenShut
import Derived.ProofKit
set_option linter.unusedSimpArgs false
set_option linter.unusedVariables false
namespace Go.Proofs.YtnllofjjffflkaaGreatDoor
open Go Gp Go.ChangeShapes Go.WideShapes Go.ChangeAt Go.RowKit Go.Joins
section
variable {H : Type} {enc : TypeId × Value → H} {w : World} {base : Nat} {spare : Nat → Bool} {held : Bool}
theorem fstr {n : Nat} {v : Value} {y : DataW H × List MemPlace} (h : DataW.trod enc Tryz.prog w base spare held n 9 [v] = some y) : ∃ s : ByteArray, v = .string s ∧ y = (.lit (.string s.data.toList), []) ∧ s.size ≤ maxLen := by
  obtain ⟨s, hc, hy, hs⟩ := DataW.trod_string Tryz.underlying9 h
  exact ⟨s, by simpa using hc, hy, hs⟩
theorem fint {n : Nat} {v : Value} {y : DataW H × List MemPlace} (h : DataW.trod enc Tryz.prog w base spare held n 3 [v] = some y) : ∃ i : Int, v = .int .i64 i ∧ y = (.lit (.int .i64 i), []) ∧ (Lit.int .i64 i).wf = true := by
  obtain ⟨s, hc, hy, hs⟩ := DataW.trod_int Tryz.underlying3 h
  exact ⟨s, by simpa using hc, hy, hs⟩
theorem mstr {s : ByteArray} (hs : s.size ≤ maxLen) : ∃ n, DataW.trod enc Tryz.prog w base spare held n 9 [.string s] = some (.lit (.string s.data.toList), []) := ⟨1, by simp [DataW.trod, Tryz.underlying9, hs]⟩
theorem mint {i : Int} (hs : (Lit.int .i64 i).wf = true) : ∃ n, DataW.trod enc Tryz.prog w base spare held n 3 [.int .i64 i] = some (.lit (.int .i64 i), []) := ⟨1, by simp [DataW.trod, Tryz.underlying3, hs]⟩
end
theorem wf_i64 {i : Int} (h : (Lit.int .i64 i).wf = true) : I64 i := by
  have : -9223372036854775808 ≤ i ∧ i ≤ 9223372036854775807 := by simpa [Lit.wf, IntKind.min, IntKind.max, IntKind.signed, IntKind.bits] using h
  exact this
theorem cells30 : Tryz.prog.cellsOf 30 = 7 := by kernel_rfl
theorem cells36 : Tryz.prog.cellsOf 36 = 9 := by kernel_rfl
theorem cells42 : Tryz.prog.cellsOf 42 = 4 := by kernel_rfl
theorem cells48 : Tryz.prog.cellsOf 48 = 4 := by kernel_rfl
set_option maxRecDepth 100000 in
set_option maxHeartbeats 4000000 in
theorem makes_contract (H : Type) (enc : TypeId × Value → H) (W : World) (base : Nat) (args : Array Value) (ds gs : List (DataW H)) (before : List MemPlace)
    (hval : ∀ (j : Nat) t v, Tryz.f5.params[j]? = some t → args[j]? = some v → Value.okWide Tryz.prog W .any base t v)
    (hW : DataW.Whole enc Tryz.prog Tryz.f5.params.toList Rows.dataMakesSpec.vars false W args.toList ds gs before) (hk : Rows.uptoSmall H (ds ++ gs) = true) (hE : Env W) :
    Calls Tryz.prog 5 args W fun e W' => ∃ v, e = .returned v ∧ Rows.dataMakesSpec.post enc Tryz.prog Tryz.f5 false true false false W args v W' := by
  have hW' := hW
  obtain ⟨p, q, hA0, hV, rfl, hfz, hnd⟩ := hW
  have hA : DataW.TrodAll enc Tryz.prog W 0 (fun _ => true) true Tryz.f5.params.toList args.toList ds p := hA0
  rw [Tryz.params5] at hA hval
  obtain ⟨v0, vs0, d0, ds0, p0, q0, hargs, rfl, rfl, h0, r0⟩ := trodAll_cons hA
  obtain ⟨v1, vs1, d1, ds1, p1, q1, rfl, rfl, rfl, h1, r1⟩ := trodAll_cons r0
  obtain ⟨v2, vs2, d2, ds2, p2, q2, rfl, rfl, rfl, h2, r2⟩ := trodAll_cons r1
  obtain ⟨v3, vs3, d3, ds3, p3, q3, rfl, rfl, rfl, h3, r3⟩ := trodAll_cons r2
  obtain ⟨rfl, rfl, rfl⟩ := trodAll_nil r3
  obtain rfl : args = #[v0, v1, v2, v3] := by cases args; simp_all
  obtain ⟨rfl, rfl⟩ := trodVars_none hV
  obtain ⟨a0, a1, a2, a3, a4, a5, a6, x0, x1, x2, x3, x4, x5, x6, na, rfl, rfl, rfl, t0, t1, t2, t3, t4, t5, t6⟩ := open_agg7 Tryz.underlying30 (by kernel_rfl) cells30 (hval 0 30 v0 rfl rfl) h0
  obtain ⟨b0, b1, b2, b3, b4, b5, b6, b7, b8, y0, y1, y2, y3, y4, y5, y6, y7, y8, nb, rfl, rfl, rfl, u0, u1, u2, u3, u4, u5, u6, u7, u8⟩ := open_agg9 Tryz.underlying36 (by kernel_rfl) cells36 (hval 1 36 v1 rfl rfl) h1
  obtain ⟨c0, c1, c2, c3, z0, z1, z2, z3, nc, rfl, rfl, rfl, s0, s1, s2, s3⟩ := open_agg4 Tryz.underlying42 (by kernel_rfl) cells42 (hval 2 42 v2 rfl rfl) h2
  obtain ⟨e0, e1, e2, e3, m0, m1, m2, m3, ne, rfl, rfl, rfl, k0, k1, k2, k3⟩ := open_agg4 Tryz.underlying48 (by kernel_rfl) cells48 (hval 3 48 v3 rfl rfl) h3
  clear hA hA0 r0 r1 r2 r3 h0 h1 h2 h3 hval hargs
  obtain ⟨A0, rfl, rfl, l0⟩ := fstr t0
  obtain ⟨A1, rfl, rfl, l1⟩ := fstr t1
  obtain ⟨A2, rfl, rfl, i2⟩ := fint t2
  obtain ⟨A3, rfl, rfl, i3⟩ := fint t3
  obtain ⟨A4, rfl, rfl, i4⟩ := fint t4
  obtain ⟨A5, rfl, rfl, i5⟩ := fint t5
  obtain ⟨A6, rfl, rfl, i6⟩ := fint t6
  obtain ⟨B0, rfl, rfl, j0⟩ := fint u0
  obtain ⟨B1, rfl, rfl, j1⟩ := fint u1
  obtain ⟨B2, rfl, rfl, j2⟩ := fint u2
  obtain ⟨B3, rfl, rfl, j3⟩ := fint u3
  obtain ⟨B4, rfl, rfl, j4⟩ := fint u4
  obtain ⟨B5, rfl, rfl, j5⟩ := fint u5
  obtain ⟨B6, rfl, rfl, j6⟩ := fint u6
  obtain ⟨B7, rfl, rfl, l7⟩ := fstr u7
  obtain ⟨B8, rfl, rfl, l8⟩ := fstr u8
  obtain ⟨C0, rfl, rfl, c0w⟩ := fint s0
  obtain ⟨C1, rfl, rfl, c1w⟩ := fint s1
  obtain ⟨C2, rfl, rfl, c2w⟩ := fint s2
  obtain ⟨C3, rfl, rfl, l9⟩ := fstr s3
  obtain ⟨D0, rfl, rfl, d0w⟩ := fint k0
  obtain ⟨D1, rfl, rfl, d1w⟩ := fint k1
  obtain ⟨D2, rfl, rfl, d2w⟩ := fint k2
  obtain ⟨D3, rfl, rfl, l10⟩ := fstr k3
  clear t0 t1 t2 t3 t4 t5 t6 u0 u1 u2 u3 u4 u5 u6 u7 u8 s0 s1 s2 s3 k0 k1 k2 k3
  have hb := of_decide_eq_true hk
  simp only [List.cons_append, List.nil_append, List.append_nil, Rows.uptoBulkAll, Rows.uptoBulk, data_length] at hb
  simp only [List.append_nil] at hW'
  refine (makes_walk ⟨A0, A1, A2, A3, A4, A5, A6⟩ ⟨B0, B1, B2, B3, B4, B5, B6, B7, B8⟩ ⟨C0, C1, C2, C3⟩ ⟨D0, D1, D2, D3⟩ W hE (by dsimp only; omega) (by dsimp only; omega) ?_ (by dsimp only; omega) (by dsimp only; omega) ?_ (wf_i64 c0w) (wf_i64 c1w) (wf_i64 c2w) (by dsimp only; omega) (wf_i64 d0w) (wf_i64 d1w) (wf_i64 d2w) (by dsimp only; omega)).mono ?_
  · intro n hn
    simp only [List.mem_cons, List.not_mem_nil, or_false] at hn
    rcases hn with rfl | rfl | rfl | rfl | rfl
    · exact wf_i64 i2
    · exact wf_i64 i3
    · exact wf_i64 i4
    · exact wf_i64 i5
    · exact wf_i64 i6
  · intro n hn
    simp only [sigPs, List.mem_cons, List.not_mem_nil, or_false] at hn
    rcases hn with rfl | rfl | rfl | rfl | rfl | rfl | rfl
    · exact wf_i64 j0
    · exact wf_i64 j1
    · exact wf_i64 j2
    · exact wf_i64 j3
    · exact wf_i64 j4
    · exact wf_i64 j5
    · exact wf_i64 j6
  · rintro e W' ⟨rfl, bel⟩
    refine ⟨_, rfl, _, _, _, [], [], [], hW', ?_, ?_, ?_, bel.frame _, fun h => by cases h⟩
    · exact trodAll_cons_mk (shut_bool Tryz.underlying4 _) trodAll_mk0
    · exact trodAll_cons_mk (shut_agg7 Tryz.underlying30 (by kernel_rfl) cells30 (mstr l0) (mstr l1) (mint i2) (mint i3) (mint i4) (mint i5) (mint i6))
        (trodAll_cons_mk (shut_agg9 Tryz.underlying36 (by kernel_rfl) cells36 (mint j0) (mint j1) (mint j2) (mint j3) (mint j4) (mint j5) (mint j6) (mstr l7) (mstr l8))
        (trodAll_cons_mk (shut_agg4 Tryz.underlying42 (by kernel_rfl) cells42 (mint c0w) (mint c1w) (mint c2w) (mstr l9))
        (trodAll_cons_mk (shut_agg4 Tryz.underlying48 (by kernel_rfl) cells48 (mint d0w) (mint d1w) (mint d2w) (mstr l10)) trodAll_mk0)))
    · exact rfl
end Go.Proofs.YtnllofjjffflkaaGreatDoor
