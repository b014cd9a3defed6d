/- What contracts of rows ask: structs of six fields, lists of ints, the post. -/
import Derived.Lib.SmallJoins
import Derived.Test.YtnllofjjffflkaaGreatDoorC0
import Derived.Test.YtnllofjjffflkaaGreatDoorG4
import Derived.Test.YtnllofjjffflkaaGreatDoorCards
import Derived.OpenShut
import Derived.ProofKit
import Derived.ChangeSame
import Derived.ChangeSlices
set_option linter.unusedSimpArgs false
set_option linter.unusedVariables false
namespace Go.Proofs.YtnllofjjffflkaaGreatDoor
open Go Gp Go.ChangeShapes Go.WideShapes Go.ChangeAt Go.RowKit Go.Deep Go.WideElems Go.Maps
section
variable {H : Type} {enc : TypeId × Value → H} {P : Program} {w : World} {base : Nat} {spare : Nat → Bool} {held : Bool}
theorem list6 {α : Type} {cs : List α} (h : cs.length = 6) : ∃ c0 c1 c2 c3 c4 c5, cs = [c0, c1, c2, c3, c4, c5] := by
  match cs, h with
  | [c0, c1, c2, c3, c4, c5], _ => exact ⟨c0, c1, c2, c3, c4, c5, rfl⟩
theorem array6 {α : Type} {cs : Array α} (h : cs.size = 6) : ∃ c0 c1 c2 c3 c4 c5, cs = #[c0, c1, c2, c3, c4, c5] := by
  obtain ⟨l⟩ := cs
  match l, h with
  | [c0, c1, c2, c3, c4, c5], _ => exact ⟨c0, c1, c2, c3, c4, c5, rfl⟩
theorem open_agg6 {r : Reach} {b0 : Nat} {t : TypeId} {f0 f1 f2 f3 f4 f5 : Field} {v : Value} {d : DataW H} {p : List MemPlace} (hs : P.underlying t = some (.struct #[f0, f1, f2, f3, f4, f5])) (hone : oneCellFields P #[f0, f1, f2, f3, f4, f5] = true) (hC : P.cellsOf t = 6)
    (hv : Value.okWide P w r b0 t v) (h : DataW.Trod enc P w base spare held t v d p) :
    ∃ (v0 v1 v2 v3 v4 v5 : Value) (y0 y1 y2 y3 y4 y5 : DataW H × List MemPlace) (n : Nat), v = .agg #[v0, v1, v2, v3, v4, v5] ∧ d = .agg [y0.1, y1.1, y2.1, y3.1, y4.1, y5.1] ∧ p = y0.2 ++ (y1.2 ++ (y2.2 ++ (y3.2 ++ (y4.2 ++ y5.2)))) ∧ DataW.trod enc P w base spare held n f0.type [v0] = some y0 ∧ DataW.trod enc P w base spare held n f1.type [v1] = some y1 ∧ DataW.trod enc P w base spare held n f2.type [v2] = some y2 ∧ DataW.trod enc P w base spare held n f3.type [v3] = some y3 ∧ DataW.trod enc P w base spare held n f4.type [v4] = some y4 ∧ DataW.trod enc P w base spare held n f5.type [v5] = some y5 := by
  obtain ⟨cs, rfl, hsz⟩ := okWide_struct hs hv
  obtain ⟨c0, c1, c2, c3, c4, c5, rfl⟩ := array6 (hsz.trans hC)
  obtain ⟨fuel, hf⟩ := h
  obtain ⟨xs, n, _, hx, hl, hlen, hf⟩ := DataW.trod_struct hs hf
  obtain ⟨y0, y1, y2, y3, y4, y5, rfl⟩ := list6 hlen
  obtain ⟨o0, k0⟩ := hone_of hone 0 f0 rfl
  have h0 := hf 0 f0 rfl
  obtain ⟨o1, k1⟩ := hone_of hone 1 f1 rfl
  have h1 := hf 1 f1 rfl
  obtain ⟨o2, k2⟩ := hone_of hone 2 f2 rfl
  have h2 := hf 2 f2 rfl
  obtain ⟨o3, k3⟩ := hone_of hone 3 f3 rfl
  have h3 := hf 3 f3 rfl
  obtain ⟨o4, k4⟩ := hone_of hone 4 f4 rfl
  have h4 := hf 4 f4 rfl
  obtain ⟨o5, k5⟩ := hone_of hone 5 f5 rfl
  have h5 := hf 5 f5 rfl
  simp only [Prod.mk.injEq] at hx
  refine ⟨c0, c1, c2, c3, c4, c5, y0, y1, y2, y3, y4, y5, n, rfl, by simpa using hx.1, by simpa using hx.2, by simpa [Value.cells, o0, k0] using h0, by simpa [Value.cells, o1, k1] using h1, by simpa [Value.cells, o2, k2] using h2, by simpa [Value.cells, o3, k3] using h3, by simpa [Value.cells, o4, k4] using h4, by simpa [Value.cells, o5, k5] using h5⟩
theorem shut_agg6 {t : TypeId} {f0 f1 f2 f3 f4 f5 : Field} {v0 v1 v2 v3 v4 v5 : Value} {y0 y1 y2 y3 y4 y5 : DataW H × List MemPlace} (hs : P.underlying t = some (.struct #[f0, f1, f2, f3, f4, f5])) (hone : oneCellFields P #[f0, f1, f2, f3, f4, f5] = true) (hC : P.cellsOf t = 6)
    (t0 : ∃ n, DataW.trod enc P w base spare held n f0.type [v0] = some y0) (t1 : ∃ n, DataW.trod enc P w base spare held n f1.type [v1] = some y1) (t2 : ∃ n, DataW.trod enc P w base spare held n f2.type [v2] = some y2) (t3 : ∃ n, DataW.trod enc P w base spare held n f3.type [v3] = some y3) (t4 : ∃ n, DataW.trod enc P w base spare held n f4.type [v4] = some y4) (t5 : ∃ n, DataW.trod enc P w base spare held n f5.type [v5] = some y5) :
    DataW.Trod enc P w base spare held t (.agg #[v0, v1, v2, v3, v4, v5]) (.agg [y0.1, y1.1, y2.1, y3.1, y4.1, y5.1]) (y0.2 ++ (y1.2 ++ (y2.2 ++ (y3.2 ++ (y4.2 ++ y5.2))))) := by
  obtain ⟨n0, t0⟩ := t0
  obtain ⟨o0, k0⟩ := hone_of hone 0 f0 rfl
  obtain ⟨n1, t1⟩ := t1
  obtain ⟨o1, k1⟩ := hone_of hone 1 f1 rfl
  obtain ⟨n2, t2⟩ := t2
  obtain ⟨o2, k2⟩ := hone_of hone 2 f2 rfl
  obtain ⟨n3, t3⟩ := t3
  obtain ⟨o3, k3⟩ := hone_of hone 3 f3 rfl
  obtain ⟨n4, t4⟩ := t4
  obtain ⟨o4, k4⟩ := hone_of hone 4 f4 rfl
  obtain ⟨n5, t5⟩ := t5
  obtain ⟨o5, k5⟩ := hone_of hone 5 f5 rfl
  have u0 := DataW.trod_le (show n0 ≤ n0 + n1 + n2 + n3 + n4 + n5 by omega) t0
  have u1 := DataW.trod_le (show n1 ≤ n0 + n1 + n2 + n3 + n4 + n5 by omega) t1
  have u2 := DataW.trod_le (show n2 ≤ n0 + n1 + n2 + n3 + n4 + n5 by omega) t2
  have u3 := DataW.trod_le (show n3 ≤ n0 + n1 + n2 + n3 + n4 + n5 by omega) t3
  have u4 := DataW.trod_le (show n4 ≤ n0 + n1 + n2 + n3 + n4 + n5 by omega) t4
  have u5 := DataW.trod_le (show n5 ≤ n0 + n1 + n2 + n3 + n4 + n5 by omega) t5
  have ts := trod_struct_mk (enc := enc) (w := w) (base := base) (spare := spare) (held := held) (n := n0 + n1 + n2 + n3 + n4 + n5) (cs := [v0, v1, v2, v3, v4, v5]) (xs := [y0, y1, y2, y3, y4, y5]) hs (by simp [hC]) (by simp [o0, k0, u0, o1, k1, u1, o2, k2, u2, o3, k3, u3, o4, k4, u4, o5, k5, u5])
  exact ⟨_, by simpa [Value.cells] using ts⟩

theorem post_of_below {f : Func} {s : ChangeSpec} {apart fresh : Bool} {W W' : World} {args : Array Value} {v : Value} {ds gs : List (DataW H)} {before pa pv : List MemPlace}
    (hW : DataW.Whole enc P f.params.toList s.vars apart W args.toList ds gs before)
    (hres : ∀ (b : Nat) (sp : Nat → Bool) (hd : Bool), DataW.TrodAll enc P W' b sp hd f.resultTypes.toList (v.resultList f.resultTypes.size) (s.fn H (ds ++ gs)).results [])
    (hargs : ∀ sp : Nat → Bool, (∀ p ∈ before, sp p.block = true) → DataW.TrodAll enc P W' 0 sp true f.params.toList args.toList (s.fn H (ds ++ gs)).args pa)
    (hvars : ∀ sp : Nat → Bool, (∀ p ∈ before, sp p.block = true) → DataW.TrodVars enc P W' sp s.vars (s.fn H (ds ++ gs)).vars pv)
    (hps : before = pa ++ pv) (hb : Below W.heap.size W W') : s.post enc P f apart fresh false false W args v W' := by
  have hlt : ∀ p ∈ before, p.block < W.heap.size := fun p hp => hW.lt p hp
  have hold : ∀ p ∈ before, (fun b => decide (b < W.heap.size)) p.block = true := fun p hp => by simpa using hlt p hp
  refine ⟨ds, gs, before, [], pa, pv, hW, hres _ _ _, hargs _ hold, hvars _ hold, World.keptBut_mono (fun p hp => ⟨hp, ?_⟩) (hb.frame (· ∈ before)), fun h => by cases h⟩
  rw [hps, List.mem_append] at hp
  exact Or.inr hp
end
section
variable {H : Type} {enc : TypeId × Value → H} {w : World} {base : Nat} {spare : Nat → Bool} {held : Bool}
theorem fstr {n : Nat} {v : Value} {y : DataW H × List MemPlace} (h : DataW.trod enc Tryz.prog w base spare held n 9 [v] = some y) : ∃ s : ByteArray, v = .string s ∧ y = (.lit (.string s.data.toList), []) ∧ s.size ≤ maxLen := by
  obtain ⟨s, hc, hy, hs⟩ := DataW.trod_string Tryz.underlying9 h
  exact ⟨s, by simpa using hc, hy, hs⟩
theorem fint {n : Nat} {v : Value} {y : DataW H × List MemPlace} (h : DataW.trod enc Tryz.prog w base spare held n 3 [v] = some y) : ∃ i : Int, v = .int .i64 i ∧ y = (.lit (.int .i64 i), []) ∧ (Lit.int .i64 i).wf = true := by
  obtain ⟨s, hc, hy, hs⟩ := DataW.trod_int Tryz.underlying3 h
  exact ⟨s, by simpa using hc, hy, hs⟩
theorem mstr {s : ByteArray} (hs : s.size ≤ maxLen) : ∃ n, DataW.trod enc Tryz.prog w base spare held n 9 [.string s] = some (.lit (.string s.data.toList), []) := ⟨1, by simp [DataW.trod, Tryz.underlying9, hs]⟩
theorem mint {i : Int} (hs : (Lit.int .i64 i).wf = true) : ∃ n, DataW.trod enc Tryz.prog w base spare held n 3 [.int .i64 i] = some (.lit (.int .i64 i), []) := ⟨1, by simp [DataW.trod, Tryz.underlying3, hs]⟩
theorem bulk_ge (l : List (DataW H)) : l.length ≤ Rows.uptoBulkAll l := by
  induction l with
  | nil => simp [Rows.uptoBulkAll]
  | cons x r ih =>
    have h1 : 1 ≤ Rows.uptoBulk x := by
      cases x with
      | lit l => cases l <;> simp [Rows.uptoBulk]
      | nil => simp [Rows.uptoBulk]
      | ptr d => simp [Rows.uptoBulk]
      | slice elems spare => simp [Rows.uptoBulk]
      | agg parts => simp [Rows.uptoBulk]
      | iface t d => simp [Rows.uptoBulk]
      | map entries => simp [Rows.uptoBulk]
      | held h => simp [Rows.uptoBulk]
    simp only [Rows.uptoBulkAll, List.length_cons]; omega
theorem cells3 : Tryz.prog.cellsOf 3 = 1 := by kernel_rfl
/-- A list of ints that came in: what it reads as, and that it reads so again. -/
theorem fints {n : Nat} {v : Value} {y : DataW H × List MemPlace} (h : DataW.trod enc Tryz.prog w 0 (fun _ => true) true n 53 [v] = some y) :
    ∃ (A : Option Addr) (l : List Int) (c : Nat), v = .slice A l.length c ∧ Ints w w.heap.size A l ∧ l.length ≤ Rows.uptoBulk y.1 ∧ (∀ i ∈ l, I64 i) ∧
      ∀ (w' : World) (sp : Nat → Bool), Below w.heap.size w w' → (∀ p ∈ y.2, sp p.block = true) → ∃ n, DataW.trod enc Tryz.prog w' 0 sp true n 53 [v] = some y := by
  rcases open_ints Tryz.underlying53 Tryz.underlying3 cells3 h with ⟨hv, rfl⟩ | ⟨a, len, cap, zs, hv, hb, hl, hm, hz, rfl, hc, hw⟩
  · have hv : v = .slice none 0 0 := by simpa using hv
    subst hv
    refine ⟨none, [], 0, rfl, fun k hk => absurd hk (by simp), by simp, by simp, fun w' sp _ _ => ⟨1, ?_⟩⟩
    simp [DataW.trod, Tryz.underlying53]
  · have hv : v = .slice (some a) len cap := by simpa using hv
    subst hv
    simp only [if_true] at hz
    have hlz : (zs.take len).length = len := by rw [List.length_take]; omega
    have hlt : ∀ i, i < zs.length → a.block < w.heap.size := by
      intro i hi
      have h1 := hc i hi
      rcases Nat.lt_or_ge a.block w.heap.size with h2 | h2
      · exact h2
      · have e : (a.add i).block = a.block := add_block a i
        have : w.heap[(a.add i).block]? = none := by rw [e]; exact Array.getElem?_eq_none h2
        simp [World.cell?, this] at h1
    refine ⟨some a, zs.take len, cap, by rw [hlz], ?_, ?_, ?_, ?_⟩
    · intro k hk
      rw [hlz] at hk
      refine ⟨a, rfl, hlt k (by omega), ?_⟩
      rw [hc k (by omega)]
      unfold iAt
      simp [List.getD_eq_getElem?_getD, List.getElem?_take, hk]
    · rw [hlz]
      have h1 := bulk_ge (lits .i64 (zs.take len) : List (DataW H))
      simp only [lits, List.length_map, hlz] at h1
      simp only [Rows.uptoBulk, lits]
      omega
    · intro i hi
      have := hw i (List.mem_of_mem_take hi)
      simpa [Lit.wf, IntKind.min, IntKind.max, IntKind.signed, IntKind.bits, I64] using this
    · intro w' sp hB hsp
      refine ⟨2, ?_⟩
      refine shut_ints (H := H) (spare := sp) (held := true) (base := 0) 0 Tryz.underlying53 Tryz.underlying3 cells3 hb hl hm ?_ ?_ hw
      · by_cases h0 : cap = 0
        · have : len = 0 := by omega
          rw [hz, h0, this]; simp
        · have hin : sp a.block = true := by
            refine hsp (.cell a.block (a.off + 0)) ?_
            simp only [MemPlace.row, List.mem_map, List.mem_range]
            exact ⟨0, by omega, rfl⟩
          rw [hin, hz]; rfl
      · intro i hi
        rw [hB.cell (by rw [add_block]; exact hlt i hi)]
        exact hc i hi
end
theorem wf_i64 {i : Int} (h : (Lit.int .i64 i).wf = true) : I64 i := by
  have : -9223372036854775808 ≤ i ∧ i ≤ 9223372036854775807 := by simpa [Lit.wf, IntKind.min, IntKind.max, IntKind.signed, IntKind.bits] using h
  exact this
end Go.Proofs.YtnllofjjffflkaaGreatDoor
