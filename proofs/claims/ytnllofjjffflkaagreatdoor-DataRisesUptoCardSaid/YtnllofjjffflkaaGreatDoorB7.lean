/- The contract of DataRises, for arguments of bulk at most 2^20, and the step of its row. -/
import Derived.Test.YtnllofjjffflkaaGreatDoorB4
import Derived.Lib.SmallJoins
import Derived.Test.YtnllofjjffflkaaGreatDoorCards
import Derived.OpenShut
import Derived.ProofKit
import Derived.ChangeSame
import Derived.ChangeSlices
import Derived.WideShapes
set_option linter.unusedSimpArgs false
set_option linter.unusedVariables false
namespace Go.Proofs.YtnllofjjffflkaaGreatDoor
open Go Gp Go.ChangeShapes Go.WideShapes Go.ChangeAt Go.RowKit Go.Deep Go.WideElems Go.Maps
theorem fcap {H : Type} {enc : TypeId × Value → H} {w : World} {n len c : Nat} {A : Option Addr} {y : DataW H × List MemPlace} (h : DataW.trod enc Tryz.prog w 0 (fun _ => true) true n 53 [.slice A len c] = some y) : len ≤ c := by
  rcases open_ints Tryz.underlying53 Tryz.underlying3 cells3 h with ⟨hv, rfl⟩ | ⟨a, len', cap, zs, hv, hb, hl, hm, hz, rfl, hc, hw⟩
  · simp at hv; omega
  · have hv : Value.slice A len c = .slice (some a) len' cap := by simpa using hv
    injection hv with e1 e2 e3
    omega
set_option maxRecDepth 100000 in
set_option maxHeartbeats 4000000 in
theorem rises_contract (H : Type) (enc : TypeId × Value → H) (W : World) (base : Nat) (args : Array Value) (ds gs : List (DataW H)) (before : List MemPlace)
    (hval : ∀ (j : Nat) t v, Tryz.f9.params[j]? = some t → args[j]? = some v → Value.okWide Tryz.prog W .any base t v)
    (hW : DataW.Whole enc Tryz.prog Tryz.f9.params.toList Rows.dataRisesSpec.vars false W args.toList ds gs before) (hk : Rows.uptoSmall H (ds ++ gs) = true) (hE : Env W) :
    Calls Tryz.prog 9 args W fun e W' => ∃ v, e = .returned v ∧ Rows.dataRisesSpec.post enc Tryz.prog Tryz.f9 false true false false W args v W' := by
  have hW' := hW
  obtain ⟨p, q, hA0, hV, rfl, hfz, hnd⟩ := hW
  have hA : DataW.TrodAll enc Tryz.prog W 0 (fun _ => true) true Tryz.f9.params.toList args.toList ds p := hA0
  rw [Tryz.params9] at hA hval
  obtain ⟨v0, vs0, d0, ds0, p0, q0, hargs, rfl, rfl, h0, r0⟩ := trodAll_cons hA
  obtain ⟨rfl, rfl, rfl⟩ := trodAll_nil r0
  obtain rfl : args = #[v0] := by cases args; simp_all
  obtain ⟨rfl, rfl⟩ := trodVars_none hV
  obtain ⟨aa, ll, cc, rfl⟩ := okWide_slice Tryz.underlying53 (hval 0 53 v0 rfl rfl)
  obtain ⟨n0, h0⟩ := h0
  have h0 : DataW.trod enc Tryz.prog W 0 (fun _ => true) true n0 53 [.slice aa ll cc] = some (d0, p0) := h0
  have hc1 := fcap h0
  obtain ⟨A1, ts1, c1, hv, I1, m1, J1, R1⟩ := fints h0
  replace m1 : ts1.length ≤ Rows.uptoBulk d0 := m1
  injection hv with e1 e2 e3
  subst e1 e2 e3
  clear hA hA0 r0 hval hargs h0
  have hb := of_decide_eq_true hk
  simp only [List.cons_append, List.nil_append, List.append_nil, Rows.uptoBulkAll, Rows.uptoBulk, data_length] at hb
  refine (rises_walk aa cc ts1 W hE I1 (by omega) J1 hc1).mono ?_
  rintro e W' ⟨rfl, bel⟩
  refine ⟨_, rfl, ?_⟩
  refine post_of_below hW' ?_ (pa := _) (pv := []) ?_ ?_ rfl bel
  · intro b sp hd
    exact trodAll_cons_mk (shut_bool Tryz.underlying4 _) trodAll_mk0
  · intro sp hsp
    exact trodAll_cons_mk (R1 W' sp bel (fun p hp => hsp p (by simp [hp]))) trodAll_mk0
  · intro sp hsp
    exact rfl
abbrev witRises : Array Value := #[.slice none 0 0]
theorem rises_reads (os : Os) {H : Type} (enc : TypeId × Value → H) : ∃ places, DataW.whole enc Tryz.prog ((witWorld os).forCall (fun _ _ => 0) ⟨#[], witRises, []⟩).memory Tryz.f9.params.toList Rows.dataRisesSpec.vars false witRises.toList 8 = some ([.nil], [], places) :=
  ⟨[], by kernel_rfl⟩
set_option maxRecDepth 100000 in
theorem rises_lifted (os : Os) (started : os.Started) (H : Type) (enc : TypeId × Value → H) (F : Stop.Interp) :
    ReturnsInHanded {} Tryz.checked os 9 .any ((Rows.OpenSpec.upto Rows.dataRisesSpec).preRow enc Tryz.prog Tryz.f9 Rows.dataRisesUptoRow.domain false Rows.dataRisesUptoRow.laid) (((Rows.OpenSpec.upto Rows.dataRisesSpec).at F).post enc Tryz.prog Tryz.f9 false true false false) := by
  obtain ⟨places, hx⟩ := rises_reads os enc
  refine returnsInHanded_of_row (C := Tryz.checked) (s := Rows.OpenSpec.upto Rows.dataRisesSpec) own started (by kernel_rfl) Tryz.func9
    (witness_row_atRef (enc := enc) (C := Tryz.checked) false (witWorld os) witRises rfl (by kernel_rfl) (by kernel_rfl) (by kernel_rfl)
      (OpenSpec.preRow_of_cond 8 hx (by kernel_rfl) (fun k hk => by cases hk; kernel_rfl) (by kernel_rfl) (wit_met os _))) ?_
  intro W base args ds gs before hval hW _ hcond _ hL hsh _
  exact rises_contract H enc W base args ds gs before hval hW (hcond _ rfl) (env_of hL hsh)
end Go.Proofs.YtnllofjjffflkaaGreatDoor
