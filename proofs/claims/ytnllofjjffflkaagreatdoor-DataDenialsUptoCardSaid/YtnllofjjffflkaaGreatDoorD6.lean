/- The contract of DataDenials, for arguments of bulk at most 2^20, and the step of its row. -/
import Derived.Lib.SmallJoins
import Derived.Test.YtnllofjjffflkaaGreatDoorD5
import Derived.Test.YtnllofjjffflkaaGreatDoorC1
import Derived.Test.YtnllofjjffflkaaGreatDoorCards
import Derived.OpenShut
import Derived.ProofKit
import Derived.ChangeSame
import Derived.ChangeSlices
set_option linter.unusedSimpArgs false
set_option linter.unusedVariables false
namespace Go.Proofs.YtnllofjjffflkaaGreatDoor
open Go Gp Go.ChangeShapes Go.WideShapes Go.ChangeAt Go.RowKit Go.Deep Go.WideElems Go.Maps
theorem cells55 : Tryz.prog.cellsOf 55 = 2 := by kernel_rfl
theorem cells61 : Tryz.prog.cellsOf 61 = 6 := by kernel_rfl
set_option maxRecDepth 100000 in
set_option maxHeartbeats 4000000 in
theorem denials_contract (H : Type) (enc : TypeId × Value → H) (W : World) (base : Nat) (args : Array Value) (ds gs : List (DataW H)) (before : List MemPlace)
    (hval : ∀ (j : Nat) t v, Tryz.f6.params[j]? = some t → args[j]? = some v → Value.okWide Tryz.prog W .any base t v)
    (hW : DataW.Whole enc Tryz.prog Tryz.f6.params.toList Rows.dataDenialsSpec.vars false W args.toList ds gs before) (hk : Rows.uptoSmall H (ds ++ gs) = true) (hE : Env W) :
    Calls Tryz.prog 6 args W fun e W' => ∃ v, e = .returned v ∧ Rows.dataDenialsSpec.post enc Tryz.prog Tryz.f6 false true false false W args v W' := by
  have hW' := hW
  obtain ⟨p, q, hA0, hV, rfl, hfz, hnd⟩ := hW
  have hA : DataW.TrodAll enc Tryz.prog W 0 (fun _ => true) true Tryz.f6.params.toList args.toList ds p := hA0
  rw [Tryz.params6] at hA hval
  obtain ⟨v0, vs0, d0, ds0, p0, q0, hargs, rfl, rfl, h0, r0⟩ := trodAll_cons hA
  obtain ⟨v1, vs1, d1, ds1, p1, q1, rfl, rfl, rfl, h1, r1⟩ := trodAll_cons r0
  obtain ⟨rfl, rfl, rfl⟩ := trodAll_nil r1
  obtain rfl : args = #[v0, v1] := by cases args; simp_all
  obtain ⟨rfl, rfl⟩ := trodVars_none hV
  obtain ⟨a0, a1, x0, x1, na, rfl, rfl, rfl, t0, t1⟩ := Joins.open_agg2 Tryz.underlying55 (by kernel_rfl) cells55 (hval 0 55 v0 rfl rfl) h0
  obtain ⟨b0, b1, b2, b3, b4, b5, y0, y1, y2, y3, y4, y5, nb, rfl, rfl, rfl, u0, u1, u2, u3, u4, u5⟩ := open_agg6 Tryz.underlying61 (by kernel_rfl) cells61 (hval 1 61 v1 rfl rfl) h1
  clear hA hA0 r0 r1 h0 h1 hval hargs
  obtain ⟨A0, rfl, rfl, l0⟩ := fstr t0
  obtain ⟨A1, ts1, c1, rfl, I1, m1, _, R1⟩ := fints t1
  obtain ⟨B0, rfl, rfl, j0⟩ := fint u0
  obtain ⟨B1, rfl, rfl, j1⟩ := fint u1
  obtain ⟨B2, rfl, rfl, j2⟩ := fint u2
  obtain ⟨B3, rfl, rfl, l3⟩ := fstr u3
  obtain ⟨B4, rfl, rfl, l4⟩ := fstr u4
  obtain ⟨B5, ts5, c5, rfl, I5, m5, _, R5⟩ := fints u5
  clear t0 t1 u0 u1 u2 u3 u4 u5
  have hb := of_decide_eq_true hk
  simp only [List.cons_append, List.nil_append, List.append_nil, Rows.uptoBulkAll, Rows.uptoBulk, data_length] at hb
  refine (denials_walk A0 A1 c1 ts1 ⟨B0, B1, B2, B3, B4, ts5⟩ B5 c5 W hE I1 I5 (by omega) (by omega) (wf_i64 j0) (wf_i64 j1) (wf_i64 j2) (by dsimp only; omega) (by dsimp only; omega) (by dsimp only; omega)).mono ?_
  rintro e W' ⟨rfl, bel⟩
  refine ⟨_, rfl, ?_⟩
  refine post_of_below hW' ?_ (pa := _) (pv := []) ?_ ?_ rfl bel
  · intro b sp hd
    exact trodAll_cons_mk (shut_bool Tryz.underlying4 _) trodAll_mk0
  · intro sp hsp
    have h1 := R1 W' sp bel (fun p hp => hsp p (by simp [hp]))
    have h5 := R5 W' sp bel (fun p hp => hsp p (by simp [hp]))
    exact trodAll_cons_mk (Joins.shut_agg2 Tryz.underlying55 (by kernel_rfl) cells55 (mstr l0) h1)
      (trodAll_cons_mk (shut_agg6 Tryz.underlying61 (by kernel_rfl) cells61 (mint j0) (mint j1) (mint j2) (mstr l3) (mstr l4) h5) trodAll_mk0)
  · intro sp hsp
    exact rfl
abbrev witDenials : Array Value := #[.agg #[.string ⟨#[]⟩, .slice none 0 0], .agg #[.int .i64 0, .int .i64 0, .int .i64 0, .string ⟨#[]⟩, .string ⟨#[]⟩, .slice none 0 0]]
def litS {H : Type} : DataW H := .lit (.string [])
def lit0 {H : Type} : DataW H := .lit (.int .i64 0)
theorem denials_reads (os : Os) {H : Type} (enc : TypeId × Value → H) : ∃ places, DataW.whole enc Tryz.prog ((witWorld os).forCall (fun _ _ => 0) ⟨#[], witDenials, []⟩).memory Tryz.f6.params.toList Rows.dataDenialsSpec.vars false witDenials.toList 8 = some ([.agg [litS, .nil], .agg [lit0, lit0, lit0, litS, litS, .nil]], [], places) :=
  ⟨[], by kernel_rfl⟩
set_option maxRecDepth 100000 in
theorem denials_lifted (os : Os) (started : os.Started) (H : Type) (enc : TypeId × Value → H) (F : Stop.Interp) :
    ReturnsInHanded {} Tryz.checked os 6 .any ((Rows.OpenSpec.upto Rows.dataDenialsSpec).preRow enc Tryz.prog Tryz.f6 Rows.dataDenialsUptoRow.domain false Rows.dataDenialsUptoRow.laid) (((Rows.OpenSpec.upto Rows.dataDenialsSpec).at F).post enc Tryz.prog Tryz.f6 false true false false) := by
  obtain ⟨places, hx⟩ := denials_reads os enc
  refine returnsInHanded_of_row (C := Tryz.checked) (s := Rows.OpenSpec.upto Rows.dataDenialsSpec) own started (by kernel_rfl) Tryz.func6
    (witness_row_atRef (enc := enc) (C := Tryz.checked) false (witWorld os) witDenials rfl (by kernel_rfl) (by kernel_rfl) (by kernel_rfl)
      (OpenSpec.preRow_of_cond 8 hx (by kernel_rfl) (fun k hk => by cases hk; kernel_rfl) (by kernel_rfl) (wit_met os _))) ?_
  intro W base args ds gs before hval hW _ hcond _ hL hsh _
  exact denials_contract H enc W base args ds gs before hval hW (hcond _ rfl) (env_of hL hsh)
end Go.Proofs.YtnllofjjffflkaaGreatDoor
