/- Walks of the taking of data apart, with its door for the stop, and of Soa to Nsec3; for every text. -/
import Derived.Test.YtnllofjjffflkaaGreatDoorK1
set_option linter.unusedSimpArgs false
set_option linter.unusedVariables false
namespace Go.Proofs.YtnllofjjffflkaaGreatDoor
open Go.RowKit Gp
/-- Two blocks of a taking: what is put together in block A, the error's number in block B. -/
def TSt (A B : Nat) (T : TypeId) (cs : Array Value) (y : Value) (w W : World) : Prop :=
  W.heap[A]? = some (.cells cs T (0, 0)) ∧ W.heap[B]? = some (.cells #[y] 23 (0, 0)) ∧ Below A w W
section
variable {A B : Nat} {T : TypeId} {cs : Array Value} {y : Value} {w W : World}
theorem TSt.start (hx : w.heap[A]? = some (.cells cs T (0, 0))) (hy : w.heap[B]? = some (.cells #[y] 23 (0, 0))) : TSt A B T cs y w w := ⟨hx, hy, Below.refl _ _⟩
theorem TSt.setA (h : TSt A B T cs y w W) (hAB : A < B) (i : Nat) (v : Value) : TSt A B T (cs.setIfInBounds i v) y w (W.setCell ⟨A, i, none⟩ v) :=
  ⟨by simp [World.setCell, Array.getElem?_modify, h.1], (Below.heap_setCell _ _ _ _ (fun e => by simp at e; omega)).trans h.2.1, h.2.2.setCell (p := ⟨A, i, none⟩) (Nat.le_refl _) _⟩
theorem TSt.setB (h : TSt A B T cs y w W) (hAB : A < B) (v : Value) : TSt A B T cs v w (W.setCell ⟨B, 0, none⟩ v) :=
  ⟨(Below.heap_setCell _ _ _ _ (fun e => by simp at e; omega)).trans h.1, one_setCell h.2.1, h.2.2.setCell (p := ⟨B, 0, none⟩) (Nat.le_of_lt hAB) _⟩
theorem TSt.alloc (h : TSt A B T cs y w W) (o : Obj) : TSt A B T cs y w (W.alloc o) :=
  ⟨(Below.heap_alloc _ _ _ (Array.getElem?_eq_some_iff.1 h.1).1).trans h.1, (Below.heap_alloc _ _ _ (Array.getElem?_eq_some_iff.1 h.2.1).1).trans h.2.1, h.2.2.alloc (Nat.le_of_lt (Array.getElem?_eq_some_iff.1 h.1).1) _⟩
theorem TSt.grown (h : TSt A B T cs y w W) {W' : World} {C : Nat} (hg : W.grownBy W' (some C)) (hA : A < C) (hB : B < C) : TSt A B T cs y w W' :=
  ⟨grown_keep hg h.1 (by omega), grown_keep hg h.2.1 (by omega), h.2.2.grown hg (Nat.le_of_lt (Array.getElem?_eq_some_iff.1 h.1).1) (fun k e => by
    have h1 : C = k := by simpa using e
    omega)⟩
theorem TSt.cellsA (h : TSt A B T cs y w W) : ∀ i, W.cell? ⟨A, i, none⟩ = cs[i]? := fun i => by simp [World.cell?, h.1]
theorem TSt.frozenA (h : TSt A B T cs y w W) : ∀ i, W.frozen? ⟨A, i, none⟩ = false := fun i => by simp [World.frozen?, h.1]
theorem TSt.cellB (h : TSt A B T cs y w W) : W.cell? ⟨B, 0, none⟩ = some y := cell_of_one h.2.1
theorem TSt.frozenB (h : TSt A B T cs y w W) : W.frozen? ⟨B, 0, none⟩ = false := by simp [World.frozen?, h.2.1]
end
/-- What a taking comes to, the value as R has it. -/
def TakePostR {α : Type} (R : Nat → α → Value → World → Prop) (zero : Value) (w : World) (r : Option α) (e : Ending) (w' : World) : Prop :=
  match r with
  | some a => (∃ v, e = .returned (.tuple #[v, .int .i64 0]) ∧ R w.heap.size a v w') ∧ Below w.heap.size w w'
  | none => e = .returned (.tuple #[zero, .int .i64 6]) ∧ Below w.heap.size w w'
set_option maxRecDepth 100000 in
set_option maxHeartbeats 2000000 in
theorem catch163_stop (A B : Nat) (x0 x1 x2 x3 : Value) (y : Value) (w : World) (hx : w.heap[A]? = some (.cells #[x0, x1, x2, x3] 42 (0, 0))) (hy : w.heap[B]? = some (.cells #[y] 23 (0, 0))) (hAB : A < B) :
    CallsD Tryz.prog 163 #[.pointer (some ⟨A, 0, none⟩), .pointer (some ⟨B, 0, none⟩)] (.panicking stopChain) w fun e u' w' =>
      e = .returned (.tuple #[]) ∧ u' = .panicking caughtChain ∧ TSt A B 42 #[.int .i64 0, .int .i64 0, .int .i64 0, .string ⟨#[]⟩] (.int .i64 6) w w' := by
  have hA : A < w.heap.size := (Array.getElem?_eq_some_iff.1 hx).1
  have hB : B < w.heap.size := (Array.getElem?_eq_some_iff.1 hy).1
  have cA : ∀ i, w.cell? ⟨A, i, none⟩ = #[x0, x1, x2, x3][i]? := fun i => by simp [World.cell?, hx]
  have fA : ∀ i, w.frozen? ⟨A, i, none⟩ = false := fun i => by simp [World.frozen?, hx]
  have hcy := cell_of_one hy
  have hfy : w.frozen? ⟨B, 0, none⟩ = false := by simp [World.frozen?, hy]
  have HX := Lib.hid (And.intro hx hy); clear hx hy
  refine callsD_of_wpS Tryz.func163 rfl fun c₀ cs hu => ?_
  simp only [Tryz.ntmps163, List.size_toArray, List.length_cons, List.length_nil, Nat.reduceAdd, Nat.reduceSub, Array.replicate_succ, Array.replicate_zero, List.push_toArray, List.append_toArray, List.nil_append, List.cons_append]
  apply wpS_seq
  apply wpS_region
  simp [wpOpsS, go_sem, recoverD, hu, Tryz.ntmps163, Exit.thenS, stopChain]
  refine wpS_of_wp ?_
  have ka := assert_stop w
  go_wp2_with fail
  refine ⟨rfl, _, rfl, _, ?_, rfl, rfl, ?_⟩
  · simp [results, Tryz.results163, go_sem]
  · have h := (((((((((TSt.start HX.out.1 HX.out.2 : TSt A B 42 _ _ w w).setA hAB 0 (.int .i64 0)).setA hAB 1 (.int .i64 0)).setA hAB 2 (.int .i64 0)).setA hAB 3 (.string ⟨#[]⟩))).setB hAB (.int .i64 6)).alloc (.cells #[] 186)).alloc (.cells #[.int .i64 0, .int .i64 0, .int .i64 0, .string ⟨#[]⟩] 42))
    simpa using h
set_option maxRecDepth 100000 in
set_option maxHeartbeats 2000000 in
theorem catch163_idle (A B : Nat) (w : World) :
    CallsD Tryz.prog 163 #[.pointer (some ⟨A, 0, none⟩), .pointer (some ⟨B, 0, none⟩)] .returning w fun e u' w' => e = .returned (.tuple #[]) ∧ u' = .returning ∧ w' = w := by
  refine callsD_of_wpS Tryz.func163 rfl fun c₀ cs hu => ?_
  simp only [Tryz.ntmps163, List.size_toArray, List.length_cons, List.length_nil, Nat.reduceAdd, Nat.reduceSub, Array.replicate_succ, Array.replicate_zero, List.push_toArray, List.append_toArray, List.nil_append, List.cons_append]
  apply wpS_seq
  apply wpS_region
  simp [wpOpsS, go_sem, recoverD, hu, Tryz.ntmps163, Exit.thenS]
  refine wpS_of_wp ?_
  go_wp2_with fail
  refine ⟨rfl, _, ?_, _, ?_, rfl, rfl, rfl⟩
  · rw [← hu]
  · simp [results, Tryz.results163, go_sem]
set_option maxRecDepth 100000 in
set_option maxHeartbeats 4000000 in
theorem take66_any (s : ByteArray) (w : World) : Calls Tryz.prog 66 #[.string s, .func (.func 67) #[] #[]] w (TakePostR (fun _ a v _ => v = keyV a) (.agg #[.int .i64 0, .int .i64 0, .int .i64 0, .string ⟨#[]⟩]) w (wholeOf s (takeKey s))) := by
  have hmf : ∀ (fn : Fn) (first cap : Array Value) (w : World), (Instr.makeFunc fn first cap).run Tryz.prog w = .ok (.func fn first cap) w := fun _ _ _ _ => rfl
  obtain ⟨W, hW⟩ : ∃ W, W = ((w.alloc (.cells #[.int .i64 0, .int .i64 0, .int .i64 0, .string ⟨#[]⟩] 42)).alloc (.cells #[.int .i64 0] 23)).alloc (.cells #[.string s] 189) := ⟨_, rfl⟩
  have hsW : W.heap.size = w.heap.size + 3 := by rw [hW]; simp
  have hT : TSt w.heap.size (w.heap.size + 1) 42 #[.int .i64 0, .int .i64 0, .int .i64 0, .string ⟨#[]⟩] (.int .i64 0) w W := by
    rw [hW]
    refine ⟨?_, ?_, (((Below.refl _ _).alloc (Nat.le_refl _) _).alloc (by simp) _).alloc (by simp; omega) _⟩
    · rw [Below.heap_alloc _ _ _ (by simp; omega), Below.heap_alloc _ _ _ (by simp)]; exact World.alloc_heap_new w _
    · rw [Below.heap_alloc _ _ _ (by simp)]
      have := World.alloc_heap_new (w.alloc (.cells #[.int .i64 0, .int .i64 0, .int .i64 0, .string ⟨#[]⟩] 42)) (.cells #[.int .i64 0] 23)
      rwa [World.size_alloc] at this
  have hC : W.heap[w.heap.size + 1 + 1]? = some (.cells #[.string s] 189 (0, 0)) := by
    rw [hW]
    have := World.alloc_heap_new ((w.alloc (.cells #[.int .i64 0, .int .i64 0, .int .i64 0, .string ⟨#[]⟩] 42)).alloc (.cells #[.int .i64 0] 23)) (.cells #[.string s] 189)
    rwa [World.size_alloc, World.size_alloc] at this
  have hAB : w.heap.size < w.heap.size + 1 := by omega
  obtain ⟨P, hP⟩ : ∃ P, P = wholeOf s (takeKey s) := ⟨_, rfl⟩
  rw [← hP]
  have HP := Lib.hid hP; clear hP
  by_cases h2 : s.size ≤ 2000
  · have hS := key1_src (w.heap.size + 1 + 1) s W hC (by omega)
    have HS := Lib.hid hS; clear hS hC
    have HT := Lib.hid hT; clear hT
    go_enter_defers Tryz.func66, Tryz.ntmps66
    go_wp2_with fail
    rw [show decide ((s.size : Int) ≤ 2000) = true from decide_eq_true (by omega)]
    refine (must_true _ _).mono ?_
    rintro e w1 ⟨rfl, rfl⟩
    go_wp2_with fail
    rw [← hW]
    clear hW
    refine HS.out.mono ?_
    intro e w2 hp
    clear HS
    cases hX : takeKey s with
    | none =>
      rw [hX] at hp
      obtain ⟨rfl, hg⟩ := hp
      have hT2 := HT.out.grown hg (by omega) (by omega)
      have HT2 := Lib.hid hT2; clear hT2 hg
      have hq : P = none := by rw [HP.out, hX, wholeOf, if_pos h2]
      have HQ := Lib.hid hq; clear hq hX
      refine leaves_cons (f := 163) (args := #[.pointer (some ⟨w.heap.size, 0, none⟩), .pointer (some ⟨w.heap.size + 1, 0, none⟩)]) (by simp) (by simp [go_sem]) ?_
      refine (catch163_stop _ _ _ _ _ _ _ _ HT2.out.1 HT2.out.2.1 hAB).mono ?_
      rintro e u' w'' ⟨rfl, rfl, hw⟩
      have c1 := hw.cellsA
      have c2 := hw.cellB
      have HR := Lib.hid (Below.trans HT2.out.2.2 hw.2.2); clear hw
      simp [Leaves, settle, results, Tryz.results66, go_sem, caughtChain, c1, c2]
      rw [HQ.out]
      exact ⟨rfl, HR.out⟩
    | some xr =>
      obtain ⟨a, r⟩ := xr
      rw [hX] at hp
      obtain ⟨⟨v, rfl, hR⟩, hc, hg⟩ := hp
      have hT2 := HT.out.grown hg (by omega) (by omega)
      have hszg := hg.size
      clear hg
      obtain rfl : v = keyV a := hR
      have cA := hT2.cellsA
      have fA := hT2.frozenA
      have cB := hT2.cellB
      have fB := hT2.frozenB
      have cC := cell_of_one hc
      have hneA : w.heap.size ≠ w.heap.size + 1 + 1 := by omega
      have hT3 : TSt w.heap.size (w.heap.size + 1) 42 #[.int .i64 a.flags, .int .i64 a.protocol, .int .i64 a.alg, .string a.pub] (.int .i64 0) w (((((w2).setCell ⟨w.heap.size, 0, none⟩ (.int .i64 a.flags)).setCell ⟨w.heap.size, 1, none⟩ (.int .i64 a.protocol)).setCell ⟨w.heap.size, 2, none⟩ (.int .i64 a.alg)).setCell ⟨w.heap.size, 3, none⟩ (.string a.pub)) := by
        have h := ((((hT2.setA hAB 0 (.int .i64 a.flags)).setA hAB 1 (.int .i64 a.protocol)).setA hAB 2 (.int .i64 a.alg)).setA hAB 3 (.string a.pub))
        simpa using h
      have HT3 := Lib.hid hT3; clear hT3
      have HC := Lib.hid hc; clear hc
      have HT2 := Lib.hid hT2; clear hT2
      by_cases hr : r.size = 0
      · obtain rfl := empty_eq hr
        have hq : P = some a := by rw [HP.out, hX, wholeOf, if_pos h2]; rfl
        have HQ := Lib.hid hq; clear hq hX hr
        obtain ⟨V, hV⟩ : ∃ V, V = (((((((((w2).setCell ⟨w.heap.size, 0, none⟩ (.int .i64 a.flags)).setCell ⟨w.heap.size, 1, none⟩ (.int .i64 a.protocol)).setCell ⟨w.heap.size, 2, none⟩ (.int .i64 a.alg)).setCell ⟨w.heap.size, 3, none⟩ (.string a.pub)).setCell ⟨w.heap.size, 0, none⟩ (.int .i64 a.flags)).setCell ⟨w.heap.size, 1, none⟩ (.int .i64 a.protocol)).setCell ⟨w.heap.size, 2, none⟩ (.int .i64 a.alg)).setCell ⟨w.heap.size, 3, none⟩ (.string a.pub)).setCell ⟨w.heap.size + 1, 0, none⟩ (.int .i64 0) := ⟨_, rfl⟩
        have hTV : TSt w.heap.size (w.heap.size + 1) 42 #[.int .i64 a.flags, .int .i64 a.protocol, .int .i64 a.alg, .string a.pub] (.int .i64 0) w V := by
          rw [hV]; have h := (((((HT3.out.setA hAB 0 (.int .i64 a.flags)).setA hAB 1 (.int .i64 a.protocol)).setA hAB 2 (.int .i64 a.alg)).setA hAB 3 (.string a.pub))).setB hAB (.int .i64 0)
          simpa using h
        have HTV := Lib.hid hTV; clear hTV
        go_wp2_with fail
        refine (must_true _ _).mono ?_
        rintro e w3 ⟨rfl, rfl⟩
        go_wp2_with fail
        rw [← hV]
        clear hV cA fA cB fB cC
        refine leaves_cons (f := 163) (args := #[.pointer (some ⟨w.heap.size, 0, none⟩), .pointer (some ⟨w.heap.size + 1, 0, none⟩)]) (by simp) (by simp [go_sem]) ?_
        refine (catch163_idle _ _ _).mono ?_
        rintro e u' w'' ⟨rfl, rfl, rfl⟩
        have c1 := HTV.out.cellsA
        have c2 := HTV.out.cellB
        simp [Leaves, settle, results, Tryz.results66, go_sem, c1, c2]
        rw [HQ.out]
        exact ⟨⟨_, rfl, rfl⟩, HTV.out.2.2⟩
      · have ce := empty_not r hr
        have hq : P = none := by rw [HP.out, hX, wholeOf, if_pos h2]; exact if_neg hr
        have HQ := Lib.hid hq; clear hq hX hr
        go_wp2_with fail
        refine (must_false _ _).mono ?_
        rintro e w3 ⟨rfl, rfl⟩
        clear cA fA cB fB cC
        refine leaves_cons (f := 163) (args := #[.pointer (some ⟨w.heap.size, 0, none⟩), .pointer (some ⟨w.heap.size + 1, 0, none⟩)]) (by simp) (by simp [go_sem]) ?_
        refine (catch163_stop _ _ _ _ _ _ _ _ HT3.out.1 HT3.out.2.1 hAB).mono ?_
        rintro e u' w'' ⟨rfl, rfl, hw⟩
        have c1 := hw.cellsA
        have c2 := hw.cellB
        have HR := Lib.hid (Below.trans HT3.out.2.2 hw.2.2); clear hw
        simp [Leaves, settle, results, Tryz.results66, go_sem, caughtChain, c1, c2]
        rw [HQ.out]
        exact ⟨rfl, HR.out⟩
  · have hq : P = none := by rw [HP.out]; unfold wholeOf; exact if_neg h2
    have HQ := Lib.hid hq; clear hq
    have HT := Lib.hid hT; clear hT hC
    go_enter_defers Tryz.func66, Tryz.ntmps66
    go_wp2_with fail
    rw [show decide ((s.size : Int) ≤ 2000) = false from decide_eq_false (by omega)]
    refine (must_false _ _).mono ?_
    rintro e w1 ⟨rfl, rfl⟩
    rw [← hW]
    clear hW
    refine leaves_cons (f := 163) (args := #[.pointer (some ⟨w.heap.size, 0, none⟩), .pointer (some ⟨w.heap.size + 1, 0, none⟩)]) (by simp) (by simp [go_sem]) ?_
    refine (catch163_stop _ _ _ _ _ _ _ _ HT.out.1 HT.out.2.1 hAB).mono ?_
    rintro e u' w'' ⟨rfl, rfl, hw⟩
    have c1 := hw.cellsA
    have c2 := hw.cellB
    have HR := Lib.hid (Below.trans HT.out.2.2 hw.2.2); clear hw
    simp [Leaves, settle, results, Tryz.results66, go_sem, caughtChain, c1, c2]
    rw [HQ.out]
    exact ⟨rfl, HR.out⟩

set_option maxRecDepth 100000 in
set_option maxHeartbeats 2000000 in
theorem catch164_stop (A B : Nat) (x0 x1 x2 x3 : Value) (y : Value) (w : World) (hx : w.heap[A]? = some (.cells #[x0, x1, x2, x3] 48 (0, 0))) (hy : w.heap[B]? = some (.cells #[y] 23 (0, 0))) (hAB : A < B) :
    CallsD Tryz.prog 164 #[.pointer (some ⟨A, 0, none⟩), .pointer (some ⟨B, 0, none⟩)] (.panicking stopChain) w fun e u' w' =>
      e = .returned (.tuple #[]) ∧ u' = .panicking caughtChain ∧ TSt A B 48 #[.int .i64 0, .int .i64 0, .int .i64 0, .string ⟨#[]⟩] (.int .i64 6) w w' := by
  have hA : A < w.heap.size := (Array.getElem?_eq_some_iff.1 hx).1
  have hB : B < w.heap.size := (Array.getElem?_eq_some_iff.1 hy).1
  have cA : ∀ i, w.cell? ⟨A, i, none⟩ = #[x0, x1, x2, x3][i]? := fun i => by simp [World.cell?, hx]
  have fA : ∀ i, w.frozen? ⟨A, i, none⟩ = false := fun i => by simp [World.frozen?, hx]
  have hcy := cell_of_one hy
  have hfy : w.frozen? ⟨B, 0, none⟩ = false := by simp [World.frozen?, hy]
  have HX := Lib.hid (And.intro hx hy); clear hx hy
  refine callsD_of_wpS Tryz.func164 rfl fun c₀ cs hu => ?_
  simp only [Tryz.ntmps164, List.size_toArray, List.length_cons, List.length_nil, Nat.reduceAdd, Nat.reduceSub, Array.replicate_succ, Array.replicate_zero, List.push_toArray, List.append_toArray, List.nil_append, List.cons_append]
  apply wpS_seq
  apply wpS_region
  simp [wpOpsS, go_sem, recoverD, hu, Tryz.ntmps164, Exit.thenS, stopChain]
  refine wpS_of_wp ?_
  have ka := assert_stop w
  go_wp2_with fail
  refine ⟨rfl, _, rfl, _, ?_, rfl, rfl, ?_⟩
  · simp [results, Tryz.results164, go_sem]
  · have h := (((((((((TSt.start HX.out.1 HX.out.2 : TSt A B 48 _ _ w w).setA hAB 0 (.int .i64 0)).setA hAB 1 (.int .i64 0)).setA hAB 2 (.int .i64 0)).setA hAB 3 (.string ⟨#[]⟩))).setB hAB (.int .i64 6)).alloc (.cells #[] 186)).alloc (.cells #[.int .i64 0, .int .i64 0, .int .i64 0, .string ⟨#[]⟩] 48))
    simpa using h
set_option maxRecDepth 100000 in
set_option maxHeartbeats 2000000 in
theorem catch164_idle (A B : Nat) (w : World) :
    CallsD Tryz.prog 164 #[.pointer (some ⟨A, 0, none⟩), .pointer (some ⟨B, 0, none⟩)] .returning w fun e u' w' => e = .returned (.tuple #[]) ∧ u' = .returning ∧ w' = w := by
  refine callsD_of_wpS Tryz.func164 rfl fun c₀ cs hu => ?_
  simp only [Tryz.ntmps164, List.size_toArray, List.length_cons, List.length_nil, Nat.reduceAdd, Nat.reduceSub, Array.replicate_succ, Array.replicate_zero, List.push_toArray, List.append_toArray, List.nil_append, List.cons_append]
  apply wpS_seq
  apply wpS_region
  simp [wpOpsS, go_sem, recoverD, hu, Tryz.ntmps164, Exit.thenS]
  refine wpS_of_wp ?_
  go_wp2_with fail
  refine ⟨rfl, _, ?_, _, ?_, rfl, rfl, rfl⟩
  · rw [← hu]
  · simp [results, Tryz.results164, go_sem]
set_option maxRecDepth 100000 in
set_option maxHeartbeats 4000000 in
theorem take68_any (s : ByteArray) (w : World) : Calls Tryz.prog 68 #[.string s, .func (.func 69) #[] #[]] w (TakePostR (fun _ a v _ => v = dsV a) (.agg #[.int .i64 0, .int .i64 0, .int .i64 0, .string ⟨#[]⟩]) w (wholeOf s (takeDs s))) := by
  have hmf : ∀ (fn : Fn) (first cap : Array Value) (w : World), (Instr.makeFunc fn first cap).run Tryz.prog w = .ok (.func fn first cap) w := fun _ _ _ _ => rfl
  obtain ⟨W, hW⟩ : ∃ W, W = ((w.alloc (.cells #[.int .i64 0, .int .i64 0, .int .i64 0, .string ⟨#[]⟩] 48)).alloc (.cells #[.int .i64 0] 23)).alloc (.cells #[.string s] 189) := ⟨_, rfl⟩
  have hsW : W.heap.size = w.heap.size + 3 := by rw [hW]; simp
  have hT : TSt w.heap.size (w.heap.size + 1) 48 #[.int .i64 0, .int .i64 0, .int .i64 0, .string ⟨#[]⟩] (.int .i64 0) w W := by
    rw [hW]
    refine ⟨?_, ?_, (((Below.refl _ _).alloc (Nat.le_refl _) _).alloc (by simp) _).alloc (by simp; omega) _⟩
    · rw [Below.heap_alloc _ _ _ (by simp; omega), Below.heap_alloc _ _ _ (by simp)]; exact World.alloc_heap_new w _
    · rw [Below.heap_alloc _ _ _ (by simp)]
      have := World.alloc_heap_new (w.alloc (.cells #[.int .i64 0, .int .i64 0, .int .i64 0, .string ⟨#[]⟩] 48)) (.cells #[.int .i64 0] 23)
      rwa [World.size_alloc] at this
  have hC : W.heap[w.heap.size + 1 + 1]? = some (.cells #[.string s] 189 (0, 0)) := by
    rw [hW]
    have := World.alloc_heap_new ((w.alloc (.cells #[.int .i64 0, .int .i64 0, .int .i64 0, .string ⟨#[]⟩] 48)).alloc (.cells #[.int .i64 0] 23)) (.cells #[.string s] 189)
    rwa [World.size_alloc, World.size_alloc] at this
  have hAB : w.heap.size < w.heap.size + 1 := by omega
  obtain ⟨P, hP⟩ : ∃ P, P = wholeOf s (takeDs s) := ⟨_, rfl⟩
  rw [← hP]
  have HP := Lib.hid hP; clear hP
  by_cases h2 : s.size ≤ 2000
  · have hS := ds1_src (w.heap.size + 1 + 1) s W hC (by omega)
    have HS := Lib.hid hS; clear hS hC
    have HT := Lib.hid hT; clear hT
    go_enter_defers Tryz.func68, Tryz.ntmps68
    go_wp2_with fail
    rw [show decide ((s.size : Int) ≤ 2000) = true from decide_eq_true (by omega)]
    refine (must_true _ _).mono ?_
    rintro e w1 ⟨rfl, rfl⟩
    go_wp2_with fail
    rw [← hW]
    clear hW
    refine HS.out.mono ?_
    intro e w2 hp
    clear HS
    cases hX : takeDs s with
    | none =>
      rw [hX] at hp
      obtain ⟨rfl, hg⟩ := hp
      have hT2 := HT.out.grown hg (by omega) (by omega)
      have HT2 := Lib.hid hT2; clear hT2 hg
      have hq : P = none := by rw [HP.out, hX, wholeOf, if_pos h2]
      have HQ := Lib.hid hq; clear hq hX
      refine leaves_cons (f := 164) (args := #[.pointer (some ⟨w.heap.size, 0, none⟩), .pointer (some ⟨w.heap.size + 1, 0, none⟩)]) (by simp) (by simp [go_sem]) ?_
      refine (catch164_stop _ _ _ _ _ _ _ _ HT2.out.1 HT2.out.2.1 hAB).mono ?_
      rintro e u' w'' ⟨rfl, rfl, hw⟩
      have c1 := hw.cellsA
      have c2 := hw.cellB
      have HR := Lib.hid (Below.trans HT2.out.2.2 hw.2.2); clear hw
      simp [Leaves, settle, results, Tryz.results68, go_sem, caughtChain, c1, c2]
      rw [HQ.out]
      exact ⟨rfl, HR.out⟩
    | some xr =>
      obtain ⟨a, r⟩ := xr
      rw [hX] at hp
      obtain ⟨⟨v, rfl, hR⟩, hc, hg⟩ := hp
      have hT2 := HT.out.grown hg (by omega) (by omega)
      have hszg := hg.size
      clear hg
      obtain rfl : v = dsV a := hR
      have cA := hT2.cellsA
      have fA := hT2.frozenA
      have cB := hT2.cellB
      have fB := hT2.frozenB
      have cC := cell_of_one hc
      have hneA : w.heap.size ≠ w.heap.size + 1 + 1 := by omega
      have hT3 : TSt w.heap.size (w.heap.size + 1) 48 #[.int .i64 a.tag, .int .i64 a.alg, .int .i64 a.kind, .string a.digest] (.int .i64 0) w (((((w2).setCell ⟨w.heap.size, 0, none⟩ (.int .i64 a.tag)).setCell ⟨w.heap.size, 1, none⟩ (.int .i64 a.alg)).setCell ⟨w.heap.size, 2, none⟩ (.int .i64 a.kind)).setCell ⟨w.heap.size, 3, none⟩ (.string a.digest)) := by
        have h := ((((hT2.setA hAB 0 (.int .i64 a.tag)).setA hAB 1 (.int .i64 a.alg)).setA hAB 2 (.int .i64 a.kind)).setA hAB 3 (.string a.digest))
        simpa using h
      have HT3 := Lib.hid hT3; clear hT3
      have HC := Lib.hid hc; clear hc
      have HT2 := Lib.hid hT2; clear hT2
      by_cases hr : r.size = 0
      · obtain rfl := empty_eq hr
        have hq : P = some a := by rw [HP.out, hX, wholeOf, if_pos h2]; rfl
        have HQ := Lib.hid hq; clear hq hX hr
        obtain ⟨V, hV⟩ : ∃ V, V = (((((((((w2).setCell ⟨w.heap.size, 0, none⟩ (.int .i64 a.tag)).setCell ⟨w.heap.size, 1, none⟩ (.int .i64 a.alg)).setCell ⟨w.heap.size, 2, none⟩ (.int .i64 a.kind)).setCell ⟨w.heap.size, 3, none⟩ (.string a.digest)).setCell ⟨w.heap.size, 0, none⟩ (.int .i64 a.tag)).setCell ⟨w.heap.size, 1, none⟩ (.int .i64 a.alg)).setCell ⟨w.heap.size, 2, none⟩ (.int .i64 a.kind)).setCell ⟨w.heap.size, 3, none⟩ (.string a.digest)).setCell ⟨w.heap.size + 1, 0, none⟩ (.int .i64 0) := ⟨_, rfl⟩
        have hTV : TSt w.heap.size (w.heap.size + 1) 48 #[.int .i64 a.tag, .int .i64 a.alg, .int .i64 a.kind, .string a.digest] (.int .i64 0) w V := by
          rw [hV]; have h := (((((HT3.out.setA hAB 0 (.int .i64 a.tag)).setA hAB 1 (.int .i64 a.alg)).setA hAB 2 (.int .i64 a.kind)).setA hAB 3 (.string a.digest))).setB hAB (.int .i64 0)
          simpa using h
        have HTV := Lib.hid hTV; clear hTV
        go_wp2_with fail
        refine (must_true _ _).mono ?_
        rintro e w3 ⟨rfl, rfl⟩
        go_wp2_with fail
        rw [← hV]
        clear hV cA fA cB fB cC
        refine leaves_cons (f := 164) (args := #[.pointer (some ⟨w.heap.size, 0, none⟩), .pointer (some ⟨w.heap.size + 1, 0, none⟩)]) (by simp) (by simp [go_sem]) ?_
        refine (catch164_idle _ _ _).mono ?_
        rintro e u' w'' ⟨rfl, rfl, rfl⟩
        have c1 := HTV.out.cellsA
        have c2 := HTV.out.cellB
        simp [Leaves, settle, results, Tryz.results68, go_sem, c1, c2]
        rw [HQ.out]
        exact ⟨⟨_, rfl, rfl⟩, HTV.out.2.2⟩
      · have ce := empty_not r hr
        have hq : P = none := by rw [HP.out, hX, wholeOf, if_pos h2]; exact if_neg hr
        have HQ := Lib.hid hq; clear hq hX hr
        go_wp2_with fail
        refine (must_false _ _).mono ?_
        rintro e w3 ⟨rfl, rfl⟩
        clear cA fA cB fB cC
        refine leaves_cons (f := 164) (args := #[.pointer (some ⟨w.heap.size, 0, none⟩), .pointer (some ⟨w.heap.size + 1, 0, none⟩)]) (by simp) (by simp [go_sem]) ?_
        refine (catch164_stop _ _ _ _ _ _ _ _ HT3.out.1 HT3.out.2.1 hAB).mono ?_
        rintro e u' w'' ⟨rfl, rfl, hw⟩
        have c1 := hw.cellsA
        have c2 := hw.cellB
        have HR := Lib.hid (Below.trans HT3.out.2.2 hw.2.2); clear hw
        simp [Leaves, settle, results, Tryz.results68, go_sem, caughtChain, c1, c2]
        rw [HQ.out]
        exact ⟨rfl, HR.out⟩
  · have hq : P = none := by rw [HP.out]; unfold wholeOf; exact if_neg h2
    have HQ := Lib.hid hq; clear hq
    have HT := Lib.hid hT; clear hT hC
    go_enter_defers Tryz.func68, Tryz.ntmps68
    go_wp2_with fail
    rw [show decide ((s.size : Int) ≤ 2000) = false from decide_eq_false (by omega)]
    refine (must_false _ _).mono ?_
    rintro e w1 ⟨rfl, rfl⟩
    rw [← hW]
    clear hW
    refine leaves_cons (f := 164) (args := #[.pointer (some ⟨w.heap.size, 0, none⟩), .pointer (some ⟨w.heap.size + 1, 0, none⟩)]) (by simp) (by simp [go_sem]) ?_
    refine (catch164_stop _ _ _ _ _ _ _ _ HT.out.1 HT.out.2.1 hAB).mono ?_
    rintro e u' w'' ⟨rfl, rfl, hw⟩
    have c1 := hw.cellsA
    have c2 := hw.cellB
    have HR := Lib.hid (Below.trans HT.out.2.2 hw.2.2); clear hw
    simp [Leaves, settle, results, Tryz.results68, go_sem, caughtChain, c1, c2]
    rw [HQ.out]
    exact ⟨rfl, HR.out⟩

set_option maxRecDepth 100000 in
set_option maxHeartbeats 2000000 in
theorem catch162_stop (A B : Nat) (x0 x1 x2 x3 x4 x5 x6 x7 x8 : Value) (y : Value) (w : World) (hx : w.heap[A]? = some (.cells #[x0, x1, x2, x3, x4, x5, x6, x7, x8] 36 (0, 0))) (hy : w.heap[B]? = some (.cells #[y] 23 (0, 0))) (hAB : A < B) :
    CallsD Tryz.prog 162 #[.pointer (some ⟨A, 0, none⟩), .pointer (some ⟨B, 0, none⟩)] (.panicking stopChain) w fun e u' w' =>
      e = .returned (.tuple #[]) ∧ u' = .panicking caughtChain ∧ TSt A B 36 #[.int .i64 0, .int .i64 0, .int .i64 0, .int .i64 0, .int .i64 0, .int .i64 0, .int .i64 0, .string ⟨#[]⟩, .string ⟨#[]⟩] (.int .i64 6) w w' := by
  have hA : A < w.heap.size := (Array.getElem?_eq_some_iff.1 hx).1
  have hB : B < w.heap.size := (Array.getElem?_eq_some_iff.1 hy).1
  have cA : ∀ i, w.cell? ⟨A, i, none⟩ = #[x0, x1, x2, x3, x4, x5, x6, x7, x8][i]? := fun i => by simp [World.cell?, hx]
  have fA : ∀ i, w.frozen? ⟨A, i, none⟩ = false := fun i => by simp [World.frozen?, hx]
  have hcy := cell_of_one hy
  have hfy : w.frozen? ⟨B, 0, none⟩ = false := by simp [World.frozen?, hy]
  have HX := Lib.hid (And.intro hx hy); clear hx hy
  refine callsD_of_wpS Tryz.func162 rfl fun c₀ cs hu => ?_
  simp only [Tryz.ntmps162, List.size_toArray, List.length_cons, List.length_nil, Nat.reduceAdd, Nat.reduceSub, Array.replicate_succ, Array.replicate_zero, List.push_toArray, List.append_toArray, List.nil_append, List.cons_append]
  apply wpS_seq
  apply wpS_region
  simp [wpOpsS, go_sem, recoverD, hu, Tryz.ntmps162, Exit.thenS, stopChain]
  refine wpS_of_wp ?_
  have ka := assert_stop w
  go_wp2_with fail
  refine ⟨rfl, _, rfl, _, ?_, rfl, rfl, ?_⟩
  · simp [results, Tryz.results162, go_sem]
  · have h := ((((((((((((((TSt.start HX.out.1 HX.out.2 : TSt A B 36 _ _ w w).setA hAB 0 (.int .i64 0)).setA hAB 1 (.int .i64 0)).setA hAB 2 (.int .i64 0)).setA hAB 3 (.int .i64 0)).setA hAB 4 (.int .i64 0)).setA hAB 5 (.int .i64 0)).setA hAB 6 (.int .i64 0)).setA hAB 7 (.string ⟨#[]⟩)).setA hAB 8 (.string ⟨#[]⟩))).setB hAB (.int .i64 6)).alloc (.cells #[] 186)).alloc (.cells #[.int .i64 0, .int .i64 0, .int .i64 0, .int .i64 0, .int .i64 0, .int .i64 0, .int .i64 0, .string ⟨#[]⟩, .string ⟨#[]⟩] 36))
    simpa using h
set_option maxRecDepth 100000 in
set_option maxHeartbeats 2000000 in
theorem catch162_idle (A B : Nat) (w : World) :
    CallsD Tryz.prog 162 #[.pointer (some ⟨A, 0, none⟩), .pointer (some ⟨B, 0, none⟩)] .returning w fun e u' w' => e = .returned (.tuple #[]) ∧ u' = .returning ∧ w' = w := by
  refine callsD_of_wpS Tryz.func162 rfl fun c₀ cs hu => ?_
  simp only [Tryz.ntmps162, List.size_toArray, List.length_cons, List.length_nil, Nat.reduceAdd, Nat.reduceSub, Array.replicate_succ, Array.replicate_zero, List.push_toArray, List.append_toArray, List.nil_append, List.cons_append]
  apply wpS_seq
  apply wpS_region
  simp [wpOpsS, go_sem, recoverD, hu, Tryz.ntmps162, Exit.thenS]
  refine wpS_of_wp ?_
  go_wp2_with fail
  refine ⟨rfl, _, ?_, _, ?_, rfl, rfl, rfl⟩
  · rw [← hu]
  · simp [results, Tryz.results162, go_sem]
set_option maxRecDepth 100000 in
set_option maxHeartbeats 4000000 in
theorem take62_any (s : ByteArray) (w : World) : Calls Tryz.prog 62 #[.string s, .func (.func 63) #[] #[]] w (TakePostR (fun _ a v _ => v = sigV a) (.agg #[.int .i64 0, .int .i64 0, .int .i64 0, .int .i64 0, .int .i64 0, .int .i64 0, .int .i64 0, .string ⟨#[]⟩, .string ⟨#[]⟩]) w (wholeOf s (takeSig s))) := by
  have hmf : ∀ (fn : Fn) (first cap : Array Value) (w : World), (Instr.makeFunc fn first cap).run Tryz.prog w = .ok (.func fn first cap) w := fun _ _ _ _ => rfl
  obtain ⟨W, hW⟩ : ∃ W, W = ((w.alloc (.cells #[.int .i64 0, .int .i64 0, .int .i64 0, .int .i64 0, .int .i64 0, .int .i64 0, .int .i64 0, .string ⟨#[]⟩, .string ⟨#[]⟩] 36)).alloc (.cells #[.int .i64 0] 23)).alloc (.cells #[.string s] 189) := ⟨_, rfl⟩
  have hsW : W.heap.size = w.heap.size + 3 := by rw [hW]; simp
  have hT : TSt w.heap.size (w.heap.size + 1) 36 #[.int .i64 0, .int .i64 0, .int .i64 0, .int .i64 0, .int .i64 0, .int .i64 0, .int .i64 0, .string ⟨#[]⟩, .string ⟨#[]⟩] (.int .i64 0) w W := by
    rw [hW]
    refine ⟨?_, ?_, (((Below.refl _ _).alloc (Nat.le_refl _) _).alloc (by simp) _).alloc (by simp; omega) _⟩
    · rw [Below.heap_alloc _ _ _ (by simp; omega), Below.heap_alloc _ _ _ (by simp)]; exact World.alloc_heap_new w _
    · rw [Below.heap_alloc _ _ _ (by simp)]
      have := World.alloc_heap_new (w.alloc (.cells #[.int .i64 0, .int .i64 0, .int .i64 0, .int .i64 0, .int .i64 0, .int .i64 0, .int .i64 0, .string ⟨#[]⟩, .string ⟨#[]⟩] 36)) (.cells #[.int .i64 0] 23)
      rwa [World.size_alloc] at this
  have hC : W.heap[w.heap.size + 1 + 1]? = some (.cells #[.string s] 189 (0, 0)) := by
    rw [hW]
    have := World.alloc_heap_new ((w.alloc (.cells #[.int .i64 0, .int .i64 0, .int .i64 0, .int .i64 0, .int .i64 0, .int .i64 0, .int .i64 0, .string ⟨#[]⟩, .string ⟨#[]⟩] 36)).alloc (.cells #[.int .i64 0] 23)) (.cells #[.string s] 189)
    rwa [World.size_alloc, World.size_alloc] at this
  have hAB : w.heap.size < w.heap.size + 1 := by omega
  obtain ⟨P, hP⟩ : ∃ P, P = wholeOf s (takeSig s) := ⟨_, rfl⟩
  rw [← hP]
  have HP := Lib.hid hP; clear hP
  by_cases h2 : s.size ≤ 2000
  · have hS := sig1_src (w.heap.size + 1 + 1) s W hC (by omega)
    have HS := Lib.hid hS; clear hS hC
    have HT := Lib.hid hT; clear hT
    go_enter_defers Tryz.func62, Tryz.ntmps62
    go_wp2_with fail
    rw [show decide ((s.size : Int) ≤ 2000) = true from decide_eq_true (by omega)]
    refine (must_true _ _).mono ?_
    rintro e w1 ⟨rfl, rfl⟩
    go_wp2_with fail
    rw [← hW]
    clear hW
    refine HS.out.mono ?_
    intro e w2 hp
    clear HS
    cases hX : takeSig s with
    | none =>
      rw [hX] at hp
      obtain ⟨rfl, hg⟩ := hp
      have hT2 := HT.out.grown hg (by omega) (by omega)
      have HT2 := Lib.hid hT2; clear hT2 hg
      have hq : P = none := by rw [HP.out, hX, wholeOf, if_pos h2]
      have HQ := Lib.hid hq; clear hq hX
      refine leaves_cons (f := 162) (args := #[.pointer (some ⟨w.heap.size, 0, none⟩), .pointer (some ⟨w.heap.size + 1, 0, none⟩)]) (by simp) (by simp [go_sem]) ?_
      refine (catch162_stop _ _ _ _ _ _ _ _ _ _ _ _ _ HT2.out.1 HT2.out.2.1 hAB).mono ?_
      rintro e u' w'' ⟨rfl, rfl, hw⟩
      have c1 := hw.cellsA
      have c2 := hw.cellB
      have HR := Lib.hid (Below.trans HT2.out.2.2 hw.2.2); clear hw
      simp [Leaves, settle, results, Tryz.results62, go_sem, caughtChain, c1, c2]
      rw [HQ.out]
      exact ⟨rfl, HR.out⟩
    | some xr =>
      obtain ⟨a, r⟩ := xr
      rw [hX] at hp
      obtain ⟨⟨v, rfl, hR⟩, hc, hg⟩ := hp
      have hT2 := HT.out.grown hg (by omega) (by omega)
      have hszg := hg.size
      clear hg
      obtain rfl : v = sigV a := hR
      have cA := hT2.cellsA
      have fA := hT2.frozenA
      have cB := hT2.cellB
      have fB := hT2.frozenB
      have cC := cell_of_one hc
      have hneA : w.heap.size ≠ w.heap.size + 1 + 1 := by omega
      have hT3 : TSt w.heap.size (w.heap.size + 1) 36 #[.int .i64 a.covered, .int .i64 a.alg, .int .i64 a.labels, .int .i64 a.ttl, .int .i64 a.fin, .int .i64 a.start, .int .i64 a.tag, .string a.signer, .string a.sign] (.int .i64 0) w ((((((((((w2).setCell ⟨w.heap.size, 0, none⟩ (.int .i64 a.covered)).setCell ⟨w.heap.size, 1, none⟩ (.int .i64 a.alg)).setCell ⟨w.heap.size, 2, none⟩ (.int .i64 a.labels)).setCell ⟨w.heap.size, 3, none⟩ (.int .i64 a.ttl)).setCell ⟨w.heap.size, 4, none⟩ (.int .i64 a.fin)).setCell ⟨w.heap.size, 5, none⟩ (.int .i64 a.start)).setCell ⟨w.heap.size, 6, none⟩ (.int .i64 a.tag)).setCell ⟨w.heap.size, 7, none⟩ (.string a.signer)).setCell ⟨w.heap.size, 8, none⟩ (.string a.sign)) := by
        have h := (((((((((hT2.setA hAB 0 (.int .i64 a.covered)).setA hAB 1 (.int .i64 a.alg)).setA hAB 2 (.int .i64 a.labels)).setA hAB 3 (.int .i64 a.ttl)).setA hAB 4 (.int .i64 a.fin)).setA hAB 5 (.int .i64 a.start)).setA hAB 6 (.int .i64 a.tag)).setA hAB 7 (.string a.signer)).setA hAB 8 (.string a.sign))
        simpa using h
      have HT3 := Lib.hid hT3; clear hT3
      have HC := Lib.hid hc; clear hc
      have HT2 := Lib.hid hT2; clear hT2
      by_cases hr : r.size = 0
      · obtain rfl := empty_eq hr
        have hq : P = some a := by rw [HP.out, hX, wholeOf, if_pos h2]; rfl
        have HQ := Lib.hid hq; clear hq hX hr
        obtain ⟨V, hV⟩ : ∃ V, V = (((((((((((((((((((w2).setCell ⟨w.heap.size, 0, none⟩ (.int .i64 a.covered)).setCell ⟨w.heap.size, 1, none⟩ (.int .i64 a.alg)).setCell ⟨w.heap.size, 2, none⟩ (.int .i64 a.labels)).setCell ⟨w.heap.size, 3, none⟩ (.int .i64 a.ttl)).setCell ⟨w.heap.size, 4, none⟩ (.int .i64 a.fin)).setCell ⟨w.heap.size, 5, none⟩ (.int .i64 a.start)).setCell ⟨w.heap.size, 6, none⟩ (.int .i64 a.tag)).setCell ⟨w.heap.size, 7, none⟩ (.string a.signer)).setCell ⟨w.heap.size, 8, none⟩ (.string a.sign)).setCell ⟨w.heap.size, 0, none⟩ (.int .i64 a.covered)).setCell ⟨w.heap.size, 1, none⟩ (.int .i64 a.alg)).setCell ⟨w.heap.size, 2, none⟩ (.int .i64 a.labels)).setCell ⟨w.heap.size, 3, none⟩ (.int .i64 a.ttl)).setCell ⟨w.heap.size, 4, none⟩ (.int .i64 a.fin)).setCell ⟨w.heap.size, 5, none⟩ (.int .i64 a.start)).setCell ⟨w.heap.size, 6, none⟩ (.int .i64 a.tag)).setCell ⟨w.heap.size, 7, none⟩ (.string a.signer)).setCell ⟨w.heap.size, 8, none⟩ (.string a.sign)).setCell ⟨w.heap.size + 1, 0, none⟩ (.int .i64 0) := ⟨_, rfl⟩
        have hTV : TSt w.heap.size (w.heap.size + 1) 36 #[.int .i64 a.covered, .int .i64 a.alg, .int .i64 a.labels, .int .i64 a.ttl, .int .i64 a.fin, .int .i64 a.start, .int .i64 a.tag, .string a.signer, .string a.sign] (.int .i64 0) w V := by
          rw [hV]; have h := ((((((((((HT3.out.setA hAB 0 (.int .i64 a.covered)).setA hAB 1 (.int .i64 a.alg)).setA hAB 2 (.int .i64 a.labels)).setA hAB 3 (.int .i64 a.ttl)).setA hAB 4 (.int .i64 a.fin)).setA hAB 5 (.int .i64 a.start)).setA hAB 6 (.int .i64 a.tag)).setA hAB 7 (.string a.signer)).setA hAB 8 (.string a.sign))).setB hAB (.int .i64 0)
          simpa using h
        have HTV := Lib.hid hTV; clear hTV
        go_wp2_with fail
        refine (must_true _ _).mono ?_
        rintro e w3 ⟨rfl, rfl⟩
        go_wp2_with fail
        rw [← hV]
        clear hV cA fA cB fB cC
        refine leaves_cons (f := 162) (args := #[.pointer (some ⟨w.heap.size, 0, none⟩), .pointer (some ⟨w.heap.size + 1, 0, none⟩)]) (by simp) (by simp [go_sem]) ?_
        refine (catch162_idle _ _ _).mono ?_
        rintro e u' w'' ⟨rfl, rfl, rfl⟩
        have c1 := HTV.out.cellsA
        have c2 := HTV.out.cellB
        simp [Leaves, settle, results, Tryz.results62, go_sem, c1, c2]
        rw [HQ.out]
        exact ⟨⟨_, rfl, rfl⟩, HTV.out.2.2⟩
      · have ce := empty_not r hr
        have hq : P = none := by rw [HP.out, hX, wholeOf, if_pos h2]; exact if_neg hr
        have HQ := Lib.hid hq; clear hq hX hr
        go_wp2_with fail
        refine (must_false _ _).mono ?_
        rintro e w3 ⟨rfl, rfl⟩
        clear cA fA cB fB cC
        refine leaves_cons (f := 162) (args := #[.pointer (some ⟨w.heap.size, 0, none⟩), .pointer (some ⟨w.heap.size + 1, 0, none⟩)]) (by simp) (by simp [go_sem]) ?_
        refine (catch162_stop _ _ _ _ _ _ _ _ _ _ _ _ _ HT3.out.1 HT3.out.2.1 hAB).mono ?_
        rintro e u' w'' ⟨rfl, rfl, hw⟩
        have c1 := hw.cellsA
        have c2 := hw.cellB
        have HR := Lib.hid (Below.trans HT3.out.2.2 hw.2.2); clear hw
        simp [Leaves, settle, results, Tryz.results62, go_sem, caughtChain, c1, c2]
        rw [HQ.out]
        exact ⟨rfl, HR.out⟩
  · have hq : P = none := by rw [HP.out]; unfold wholeOf; exact if_neg h2
    have HQ := Lib.hid hq; clear hq
    have HT := Lib.hid hT; clear hT hC
    go_enter_defers Tryz.func62, Tryz.ntmps62
    go_wp2_with fail
    rw [show decide ((s.size : Int) ≤ 2000) = false from decide_eq_false (by omega)]
    refine (must_false _ _).mono ?_
    rintro e w1 ⟨rfl, rfl⟩
    rw [← hW]
    clear hW
    refine leaves_cons (f := 162) (args := #[.pointer (some ⟨w.heap.size, 0, none⟩), .pointer (some ⟨w.heap.size + 1, 0, none⟩)]) (by simp) (by simp [go_sem]) ?_
    refine (catch162_stop _ _ _ _ _ _ _ _ _ _ _ _ _ HT.out.1 HT.out.2.1 hAB).mono ?_
    rintro e u' w'' ⟨rfl, rfl, hw⟩
    have c1 := hw.cellsA
    have c2 := hw.cellB
    have HR := Lib.hid (Below.trans HT.out.2.2 hw.2.2); clear hw
    simp [Leaves, settle, results, Tryz.results62, go_sem, caughtChain, c1, c2]
    rw [HQ.out]
    exact ⟨rfl, HR.out⟩

set_option maxRecDepth 100000 in
set_option maxHeartbeats 2000000 in
theorem catch161_stop (A B : Nat) (x0 x1 x2 x3 x4 x5 x6 : Value) (y : Value) (w : World) (hx : w.heap[A]? = some (.cells #[x0, x1, x2, x3, x4, x5, x6] 30 (0, 0))) (hy : w.heap[B]? = some (.cells #[y] 23 (0, 0))) (hAB : A < B) :
    CallsD Tryz.prog 161 #[.pointer (some ⟨A, 0, none⟩), .pointer (some ⟨B, 0, none⟩)] (.panicking stopChain) w fun e u' w' =>
      e = .returned (.tuple #[]) ∧ u' = .panicking caughtChain ∧ TSt A B 30 #[.string ⟨#[]⟩, .string ⟨#[]⟩, .int .i64 0, .int .i64 0, .int .i64 0, .int .i64 0, .int .i64 0] (.int .i64 6) w w' := by
  have hA : A < w.heap.size := (Array.getElem?_eq_some_iff.1 hx).1
  have hB : B < w.heap.size := (Array.getElem?_eq_some_iff.1 hy).1
  have cA : ∀ i, w.cell? ⟨A, i, none⟩ = #[x0, x1, x2, x3, x4, x5, x6][i]? := fun i => by simp [World.cell?, hx]
  have fA : ∀ i, w.frozen? ⟨A, i, none⟩ = false := fun i => by simp [World.frozen?, hx]
  have hcy := cell_of_one hy
  have hfy : w.frozen? ⟨B, 0, none⟩ = false := by simp [World.frozen?, hy]
  have HX := Lib.hid (And.intro hx hy); clear hx hy
  refine callsD_of_wpS Tryz.func161 rfl fun c₀ cs hu => ?_
  simp only [Tryz.ntmps161, List.size_toArray, List.length_cons, List.length_nil, Nat.reduceAdd, Nat.reduceSub, Array.replicate_succ, Array.replicate_zero, List.push_toArray, List.append_toArray, List.nil_append, List.cons_append]
  apply wpS_seq
  apply wpS_region
  simp [wpOpsS, go_sem, recoverD, hu, Tryz.ntmps161, Exit.thenS, stopChain]
  refine wpS_of_wp ?_
  have ka := assert_stop w
  go_wp2_with fail
  refine ⟨rfl, _, rfl, _, ?_, rfl, rfl, ?_⟩
  · simp [results, Tryz.results161, go_sem]
  · have h := ((((((((((((TSt.start HX.out.1 HX.out.2 : TSt A B 30 _ _ w w).setA hAB 0 (.string ⟨#[]⟩)).setA hAB 1 (.string ⟨#[]⟩)).setA hAB 2 (.int .i64 0)).setA hAB 3 (.int .i64 0)).setA hAB 4 (.int .i64 0)).setA hAB 5 (.int .i64 0)).setA hAB 6 (.int .i64 0))).setB hAB (.int .i64 6)).alloc (.cells #[] 186)).alloc (.cells #[.string ⟨#[]⟩, .string ⟨#[]⟩, .int .i64 0, .int .i64 0, .int .i64 0, .int .i64 0, .int .i64 0] 30))
    simpa using h
set_option maxRecDepth 100000 in
set_option maxHeartbeats 2000000 in
theorem catch161_idle (A B : Nat) (w : World) :
    CallsD Tryz.prog 161 #[.pointer (some ⟨A, 0, none⟩), .pointer (some ⟨B, 0, none⟩)] .returning w fun e u' w' => e = .returned (.tuple #[]) ∧ u' = .returning ∧ w' = w := by
  refine callsD_of_wpS Tryz.func161 rfl fun c₀ cs hu => ?_
  simp only [Tryz.ntmps161, List.size_toArray, List.length_cons, List.length_nil, Nat.reduceAdd, Nat.reduceSub, Array.replicate_succ, Array.replicate_zero, List.push_toArray, List.append_toArray, List.nil_append, List.cons_append]
  apply wpS_seq
  apply wpS_region
  simp [wpOpsS, go_sem, recoverD, hu, Tryz.ntmps161, Exit.thenS]
  refine wpS_of_wp ?_
  go_wp2_with fail
  refine ⟨rfl, _, ?_, _, ?_, rfl, rfl, rfl⟩
  · rw [← hu]
  · simp [results, Tryz.results161, go_sem]
set_option maxRecDepth 100000 in
set_option maxHeartbeats 4000000 in
theorem take56_any (s : ByteArray) (w : World) : Calls Tryz.prog 56 #[.string s, .func (.func 57) #[] #[]] w (TakePostR (soaR) (.agg #[.string ⟨#[]⟩, .string ⟨#[]⟩, .int .i64 0, .int .i64 0, .int .i64 0, .int .i64 0, .int .i64 0]) w (wholeOf s (takeSoa s))) := by
  have hmf : ∀ (fn : Fn) (first cap : Array Value) (w : World), (Instr.makeFunc fn first cap).run Tryz.prog w = .ok (.func fn first cap) w := fun _ _ _ _ => rfl
  obtain ⟨W, hW⟩ : ∃ W, W = ((w.alloc (.cells #[.string ⟨#[]⟩, .string ⟨#[]⟩, .int .i64 0, .int .i64 0, .int .i64 0, .int .i64 0, .int .i64 0] 30)).alloc (.cells #[.int .i64 0] 23)).alloc (.cells #[.string s] 189) := ⟨_, rfl⟩
  have hsW : W.heap.size = w.heap.size + 3 := by rw [hW]; simp
  have hT : TSt w.heap.size (w.heap.size + 1) 30 #[.string ⟨#[]⟩, .string ⟨#[]⟩, .int .i64 0, .int .i64 0, .int .i64 0, .int .i64 0, .int .i64 0] (.int .i64 0) w W := by
    rw [hW]
    refine ⟨?_, ?_, (((Below.refl _ _).alloc (Nat.le_refl _) _).alloc (by simp) _).alloc (by simp; omega) _⟩
    · rw [Below.heap_alloc _ _ _ (by simp; omega), Below.heap_alloc _ _ _ (by simp)]; exact World.alloc_heap_new w _
    · rw [Below.heap_alloc _ _ _ (by simp)]
      have := World.alloc_heap_new (w.alloc (.cells #[.string ⟨#[]⟩, .string ⟨#[]⟩, .int .i64 0, .int .i64 0, .int .i64 0, .int .i64 0, .int .i64 0] 30)) (.cells #[.int .i64 0] 23)
      rwa [World.size_alloc] at this
  have hC : W.heap[w.heap.size + 1 + 1]? = some (.cells #[.string s] 189 (0, 0)) := by
    rw [hW]
    have := World.alloc_heap_new ((w.alloc (.cells #[.string ⟨#[]⟩, .string ⟨#[]⟩, .int .i64 0, .int .i64 0, .int .i64 0, .int .i64 0, .int .i64 0] 30)).alloc (.cells #[.int .i64 0] 23)) (.cells #[.string s] 189)
    rwa [World.size_alloc, World.size_alloc] at this
  have hAB : w.heap.size < w.heap.size + 1 := by omega
  obtain ⟨P, hP⟩ : ∃ P, P = wholeOf s (takeSoa s) := ⟨_, rfl⟩
  rw [← hP]
  have HP := Lib.hid hP; clear hP
  by_cases h2 : s.size ≤ 2000
  · have hS := soa1_src (w.heap.size + 1 + 1) s W hC (by omega)
    have HS := Lib.hid hS; clear hS hC
    have HT := Lib.hid hT; clear hT
    go_enter_defers Tryz.func56, Tryz.ntmps56
    go_wp2_with fail
    rw [show decide ((s.size : Int) ≤ 2000) = true from decide_eq_true (by omega)]
    refine (must_true _ _).mono ?_
    rintro e w1 ⟨rfl, rfl⟩
    go_wp2_with fail
    rw [← hW]
    clear hW
    refine HS.out.mono ?_
    intro e w2 hp
    clear HS
    cases hX : takeSoa s with
    | none =>
      rw [hX] at hp
      obtain ⟨rfl, hg⟩ := hp
      have hT2 := HT.out.grown hg (by omega) (by omega)
      have HT2 := Lib.hid hT2; clear hT2 hg
      have hq : P = none := by rw [HP.out, hX, wholeOf, if_pos h2]
      have HQ := Lib.hid hq; clear hq hX
      refine leaves_cons (f := 161) (args := #[.pointer (some ⟨w.heap.size, 0, none⟩), .pointer (some ⟨w.heap.size + 1, 0, none⟩)]) (by simp) (by simp [go_sem]) ?_
      refine (catch161_stop _ _ _ _ _ _ _ _ _ _ _ HT2.out.1 HT2.out.2.1 hAB).mono ?_
      rintro e u' w'' ⟨rfl, rfl, hw⟩
      have c1 := hw.cellsA
      have c2 := hw.cellB
      have HR := Lib.hid (Below.trans HT2.out.2.2 hw.2.2); clear hw
      simp [Leaves, settle, results, Tryz.results56, go_sem, caughtChain, c1, c2]
      rw [HQ.out]
      exact ⟨rfl, HR.out⟩
    | some xr =>
      obtain ⟨a, r⟩ := xr
      rw [hX] at hp
      obtain ⟨⟨v, rfl, hR⟩, hc, hg⟩ := hp
      have hT2 := HT.out.grown hg (by omega) (by omega)
      have hszg := hg.size
      clear hg
      obtain rfl : v = soaV a := hR
      have cA := hT2.cellsA
      have fA := hT2.frozenA
      have cB := hT2.cellB
      have fB := hT2.frozenB
      have cC := cell_of_one hc
      have hneA : w.heap.size ≠ w.heap.size + 1 + 1 := by omega
      have hT3 : TSt w.heap.size (w.heap.size + 1) 30 #[.string a.primary, .string a.mail, .int .i64 a.serial, .int .i64 a.refresh, .int .i64 a.retry, .int .i64 a.expire, .int .i64 a.minimum] (.int .i64 0) w ((((((((w2).setCell ⟨w.heap.size, 0, none⟩ (.string a.primary)).setCell ⟨w.heap.size, 1, none⟩ (.string a.mail)).setCell ⟨w.heap.size, 2, none⟩ (.int .i64 a.serial)).setCell ⟨w.heap.size, 3, none⟩ (.int .i64 a.refresh)).setCell ⟨w.heap.size, 4, none⟩ (.int .i64 a.retry)).setCell ⟨w.heap.size, 5, none⟩ (.int .i64 a.expire)).setCell ⟨w.heap.size, 6, none⟩ (.int .i64 a.minimum)) := by
        have h := (((((((hT2.setA hAB 0 (.string a.primary)).setA hAB 1 (.string a.mail)).setA hAB 2 (.int .i64 a.serial)).setA hAB 3 (.int .i64 a.refresh)).setA hAB 4 (.int .i64 a.retry)).setA hAB 5 (.int .i64 a.expire)).setA hAB 6 (.int .i64 a.minimum))
        simpa using h
      have HT3 := Lib.hid hT3; clear hT3
      have HC := Lib.hid hc; clear hc
      have HT2 := Lib.hid hT2; clear hT2
      by_cases hr : r.size = 0
      · obtain rfl := empty_eq hr
        have hq : P = some a := by rw [HP.out, hX, wholeOf, if_pos h2]; rfl
        have HQ := Lib.hid hq; clear hq hX hr
        obtain ⟨V, hV⟩ : ∃ V, V = (((((((((((((((w2).setCell ⟨w.heap.size, 0, none⟩ (.string a.primary)).setCell ⟨w.heap.size, 1, none⟩ (.string a.mail)).setCell ⟨w.heap.size, 2, none⟩ (.int .i64 a.serial)).setCell ⟨w.heap.size, 3, none⟩ (.int .i64 a.refresh)).setCell ⟨w.heap.size, 4, none⟩ (.int .i64 a.retry)).setCell ⟨w.heap.size, 5, none⟩ (.int .i64 a.expire)).setCell ⟨w.heap.size, 6, none⟩ (.int .i64 a.minimum)).setCell ⟨w.heap.size, 0, none⟩ (.string a.primary)).setCell ⟨w.heap.size, 1, none⟩ (.string a.mail)).setCell ⟨w.heap.size, 2, none⟩ (.int .i64 a.serial)).setCell ⟨w.heap.size, 3, none⟩ (.int .i64 a.refresh)).setCell ⟨w.heap.size, 4, none⟩ (.int .i64 a.retry)).setCell ⟨w.heap.size, 5, none⟩ (.int .i64 a.expire)).setCell ⟨w.heap.size, 6, none⟩ (.int .i64 a.minimum)).setCell ⟨w.heap.size + 1, 0, none⟩ (.int .i64 0) := ⟨_, rfl⟩
        have hTV : TSt w.heap.size (w.heap.size + 1) 30 #[.string a.primary, .string a.mail, .int .i64 a.serial, .int .i64 a.refresh, .int .i64 a.retry, .int .i64 a.expire, .int .i64 a.minimum] (.int .i64 0) w V := by
          rw [hV]; have h := ((((((((HT3.out.setA hAB 0 (.string a.primary)).setA hAB 1 (.string a.mail)).setA hAB 2 (.int .i64 a.serial)).setA hAB 3 (.int .i64 a.refresh)).setA hAB 4 (.int .i64 a.retry)).setA hAB 5 (.int .i64 a.expire)).setA hAB 6 (.int .i64 a.minimum))).setB hAB (.int .i64 0)
          simpa using h
        have HTV := Lib.hid hTV; clear hTV
        go_wp2_with fail
        refine (must_true _ _).mono ?_
        rintro e w3 ⟨rfl, rfl⟩
        go_wp2_with fail
        rw [← hV]
        clear hV cA fA cB fB cC
        refine leaves_cons (f := 161) (args := #[.pointer (some ⟨w.heap.size, 0, none⟩), .pointer (some ⟨w.heap.size + 1, 0, none⟩)]) (by simp) (by simp [go_sem]) ?_
        refine (catch161_idle _ _ _).mono ?_
        rintro e u' w'' ⟨rfl, rfl, rfl⟩
        have c1 := HTV.out.cellsA
        have c2 := HTV.out.cellB
        simp [Leaves, settle, results, Tryz.results56, go_sem, c1, c2]
        rw [HQ.out]
        exact ⟨⟨_, rfl, rfl⟩, HTV.out.2.2⟩
      · have ce := empty_not r hr
        have hq : P = none := by rw [HP.out, hX, wholeOf, if_pos h2]; exact if_neg hr
        have HQ := Lib.hid hq; clear hq hX hr
        go_wp2_with fail
        refine (must_false _ _).mono ?_
        rintro e w3 ⟨rfl, rfl⟩
        clear cA fA cB fB cC
        refine leaves_cons (f := 161) (args := #[.pointer (some ⟨w.heap.size, 0, none⟩), .pointer (some ⟨w.heap.size + 1, 0, none⟩)]) (by simp) (by simp [go_sem]) ?_
        refine (catch161_stop _ _ _ _ _ _ _ _ _ _ _ HT3.out.1 HT3.out.2.1 hAB).mono ?_
        rintro e u' w'' ⟨rfl, rfl, hw⟩
        have c1 := hw.cellsA
        have c2 := hw.cellB
        have HR := Lib.hid (Below.trans HT3.out.2.2 hw.2.2); clear hw
        simp [Leaves, settle, results, Tryz.results56, go_sem, caughtChain, c1, c2]
        rw [HQ.out]
        exact ⟨rfl, HR.out⟩
  · have hq : P = none := by rw [HP.out]; unfold wholeOf; exact if_neg h2
    have HQ := Lib.hid hq; clear hq
    have HT := Lib.hid hT; clear hT hC
    go_enter_defers Tryz.func56, Tryz.ntmps56
    go_wp2_with fail
    rw [show decide ((s.size : Int) ≤ 2000) = false from decide_eq_false (by omega)]
    refine (must_false _ _).mono ?_
    rintro e w1 ⟨rfl, rfl⟩
    rw [← hW]
    clear hW
    refine leaves_cons (f := 161) (args := #[.pointer (some ⟨w.heap.size, 0, none⟩), .pointer (some ⟨w.heap.size + 1, 0, none⟩)]) (by simp) (by simp [go_sem]) ?_
    refine (catch161_stop _ _ _ _ _ _ _ _ _ _ _ HT.out.1 HT.out.2.1 hAB).mono ?_
    rintro e u' w'' ⟨rfl, rfl, hw⟩
    have c1 := hw.cellsA
    have c2 := hw.cellB
    have HR := Lib.hid (Below.trans HT.out.2.2 hw.2.2); clear hw
    simp [Leaves, settle, results, Tryz.results56, go_sem, caughtChain, c1, c2]
    rw [HQ.out]
    exact ⟨rfl, HR.out⟩

set_option maxRecDepth 100000 in
set_option maxHeartbeats 2000000 in
theorem catch165_stop (A B : Nat) (x0 x1 : Value) (y : Value) (w : World) (hx : w.heap[A]? = some (.cells #[x0, x1] 55 (0, 0))) (hy : w.heap[B]? = some (.cells #[y] 23 (0, 0))) (hAB : A < B) :
    CallsD Tryz.prog 165 #[.pointer (some ⟨A, 0, none⟩), .pointer (some ⟨B, 0, none⟩)] (.panicking stopChain) w fun e u' w' =>
      e = .returned (.tuple #[]) ∧ u' = .panicking caughtChain ∧ TSt A B 55 #[.string ⟨#[]⟩, .slice none 0 0] (.int .i64 6) w w' := by
  have hA : A < w.heap.size := (Array.getElem?_eq_some_iff.1 hx).1
  have hB : B < w.heap.size := (Array.getElem?_eq_some_iff.1 hy).1
  have cA : ∀ i, w.cell? ⟨A, i, none⟩ = #[x0, x1][i]? := fun i => by simp [World.cell?, hx]
  have fA : ∀ i, w.frozen? ⟨A, i, none⟩ = false := fun i => by simp [World.frozen?, hx]
  have hcy := cell_of_one hy
  have hfy : w.frozen? ⟨B, 0, none⟩ = false := by simp [World.frozen?, hy]
  have HX := Lib.hid (And.intro hx hy); clear hx hy
  refine callsD_of_wpS Tryz.func165 rfl fun c₀ cs hu => ?_
  simp only [Tryz.ntmps165, List.size_toArray, List.length_cons, List.length_nil, Nat.reduceAdd, Nat.reduceSub, Array.replicate_succ, Array.replicate_zero, List.push_toArray, List.append_toArray, List.nil_append, List.cons_append]
  apply wpS_seq
  apply wpS_region
  simp [wpOpsS, go_sem, recoverD, hu, Tryz.ntmps165, Exit.thenS, stopChain]
  refine wpS_of_wp ?_
  have ka := assert_stop w
  go_wp2_with fail
  refine ⟨rfl, _, rfl, _, ?_, rfl, rfl, ?_⟩
  · simp [results, Tryz.results165, go_sem]
  · have h := (((((((TSt.start HX.out.1 HX.out.2 : TSt A B 55 _ _ w w).setA hAB 0 (.string ⟨#[]⟩)).setA hAB 1 (.slice none 0 0))).setB hAB (.int .i64 6)).alloc (.cells #[] 186)).alloc (.cells #[.string ⟨#[]⟩, .slice none 0 0] 55))
    simpa using h
set_option maxRecDepth 100000 in
set_option maxHeartbeats 2000000 in
theorem catch165_idle (A B : Nat) (w : World) :
    CallsD Tryz.prog 165 #[.pointer (some ⟨A, 0, none⟩), .pointer (some ⟨B, 0, none⟩)] .returning w fun e u' w' => e = .returned (.tuple #[]) ∧ u' = .returning ∧ w' = w := by
  refine callsD_of_wpS Tryz.func165 rfl fun c₀ cs hu => ?_
  simp only [Tryz.ntmps165, List.size_toArray, List.length_cons, List.length_nil, Nat.reduceAdd, Nat.reduceSub, Array.replicate_succ, Array.replicate_zero, List.push_toArray, List.append_toArray, List.nil_append, List.cons_append]
  apply wpS_seq
  apply wpS_region
  simp [wpOpsS, go_sem, recoverD, hu, Tryz.ntmps165, Exit.thenS]
  refine wpS_of_wp ?_
  go_wp2_with fail
  refine ⟨rfl, _, ?_, _, ?_, rfl, rfl, rfl⟩
  · rw [← hu]
  · simp [results, Tryz.results165, go_sem]
set_option maxRecDepth 100000 in
set_option maxHeartbeats 4000000 in
theorem take70_any (s : ByteArray) (w : World) : Calls Tryz.prog 70 #[.string s, .func (.func 71) #[] #[]] w (TakePostR (nsecR) (.agg #[.string ⟨#[]⟩, .slice none 0 0]) w (wholeOf s (takeNsec s))) := by
  have hmf : ∀ (fn : Fn) (first cap : Array Value) (w : World), (Instr.makeFunc fn first cap).run Tryz.prog w = .ok (.func fn first cap) w := fun _ _ _ _ => rfl
  obtain ⟨W, hW⟩ : ∃ W, W = ((w.alloc (.cells #[.string ⟨#[]⟩, .slice none 0 0] 55)).alloc (.cells #[.int .i64 0] 23)).alloc (.cells #[.string s] 189) := ⟨_, rfl⟩
  have hsW : W.heap.size = w.heap.size + 3 := by rw [hW]; simp
  have hT : TSt w.heap.size (w.heap.size + 1) 55 #[.string ⟨#[]⟩, .slice none 0 0] (.int .i64 0) w W := by
    rw [hW]
    refine ⟨?_, ?_, (((Below.refl _ _).alloc (Nat.le_refl _) _).alloc (by simp) _).alloc (by simp; omega) _⟩
    · rw [Below.heap_alloc _ _ _ (by simp; omega), Below.heap_alloc _ _ _ (by simp)]; exact World.alloc_heap_new w _
    · rw [Below.heap_alloc _ _ _ (by simp)]
      have := World.alloc_heap_new (w.alloc (.cells #[.string ⟨#[]⟩, .slice none 0 0] 55)) (.cells #[.int .i64 0] 23)
      rwa [World.size_alloc] at this
  have hC : W.heap[w.heap.size + 1 + 1]? = some (.cells #[.string s] 189 (0, 0)) := by
    rw [hW]
    have := World.alloc_heap_new ((w.alloc (.cells #[.string ⟨#[]⟩, .slice none 0 0] 55)).alloc (.cells #[.int .i64 0] 23)) (.cells #[.string s] 189)
    rwa [World.size_alloc, World.size_alloc] at this
  have hAB : w.heap.size < w.heap.size + 1 := by omega
  obtain ⟨P, hP⟩ : ∃ P, P = wholeOf s (takeNsec s) := ⟨_, rfl⟩
  rw [← hP]
  have HP := Lib.hid hP; clear hP
  by_cases h2 : s.size ≤ 2000
  · have hS := nsec1_src (w.heap.size + 1 + 1) s W hC (by omega)
    have HS := Lib.hid hS; clear hS hC
    have HT := Lib.hid hT; clear hT
    go_enter_defers Tryz.func70, Tryz.ntmps70
    go_wp2_with fail
    rw [show decide ((s.size : Int) ≤ 2000) = true from decide_eq_true (by omega)]
    refine (must_true _ _).mono ?_
    rintro e w1 ⟨rfl, rfl⟩
    go_wp2_with fail
    rw [← hW]
    clear hW
    refine HS.out.mono ?_
    intro e w2 hp
    clear HS
    cases hX : takeNsec s with
    | none =>
      rw [hX] at hp
      obtain ⟨rfl, hg⟩ := hp
      have hT2 := HT.out.grown hg (by omega) (by omega)
      have HT2 := Lib.hid hT2; clear hT2 hg
      have hq : P = none := by rw [HP.out, hX, wholeOf, if_pos h2]
      have HQ := Lib.hid hq; clear hq hX
      refine leaves_cons (f := 165) (args := #[.pointer (some ⟨w.heap.size, 0, none⟩), .pointer (some ⟨w.heap.size + 1, 0, none⟩)]) (by simp) (by simp [go_sem]) ?_
      refine (catch165_stop _ _ _ _ _ _ HT2.out.1 HT2.out.2.1 hAB).mono ?_
      rintro e u' w'' ⟨rfl, rfl, hw⟩
      have c1 := hw.cellsA
      have c2 := hw.cellB
      have HR := Lib.hid (Below.trans HT2.out.2.2 hw.2.2); clear hw
      simp [Leaves, settle, results, Tryz.results70, go_sem, caughtChain, c1, c2]
      rw [HQ.out]
      exact ⟨rfl, HR.out⟩
    | some xr =>
      obtain ⟨a, r⟩ := xr
      rw [hX] at hp
      obtain ⟨⟨v, rfl, hR⟩, hc, hg⟩ := hp
      have hT2 := HT.out.grown hg (by omega) (by omega)
      have hszg := hg.size
      clear hg
      obtain ⟨A', c', rfl, ho⟩ := hR
      have HO := Lib.hid (own_mono ho (show w.heap.size ≤ W.heap.size by omega)); clear ho
      have cA := hT2.cellsA
      have fA := hT2.frozenA
      have cB := hT2.cellB
      have fB := hT2.frozenB
      have cC := cell_of_one hc
      have hneA : w.heap.size ≠ w.heap.size + 1 + 1 := by omega
      have hT3 : TSt w.heap.size (w.heap.size + 1) 55 #[.string a.next, .slice A' a.types.length c'] (.int .i64 0) w (((w2).setCell ⟨w.heap.size, 0, none⟩ (.string a.next)).setCell ⟨w.heap.size, 1, none⟩ (.slice A' a.types.length c')) := by
        have h := ((hT2.setA hAB 0 (.string a.next)).setA hAB 1 (.slice A' a.types.length c'))
        simpa using h
      have HT3 := Lib.hid hT3; clear hT3
      have HC := Lib.hid hc; clear hc
      have HT2 := Lib.hid hT2; clear hT2
      by_cases hr : r.size = 0
      · obtain rfl := empty_eq hr
        have hq : P = some a := by rw [HP.out, hX, wholeOf, if_pos h2]; rfl
        have HQ := Lib.hid hq; clear hq hX hr
        obtain ⟨V, hV⟩ : ∃ V, V = (((((w2).setCell ⟨w.heap.size, 0, none⟩ (.string a.next)).setCell ⟨w.heap.size, 1, none⟩ (.slice A' a.types.length c')).setCell ⟨w.heap.size, 0, none⟩ (.string a.next)).setCell ⟨w.heap.size, 1, none⟩ (.slice A' a.types.length c')).setCell ⟨w.heap.size + 1, 0, none⟩ (.int .i64 0) := ⟨_, rfl⟩
        have hTV : TSt w.heap.size (w.heap.size + 1) 55 #[.string a.next, .slice A' a.types.length c'] (.int .i64 0) w V := by
          rw [hV]; have h := (((HT3.out.setA hAB 0 (.string a.next)).setA hAB 1 (.slice A' a.types.length c'))).setB hAB (.int .i64 0)
          simpa using h
        have HOV := Lib.hid (show V.ownsRow w.heap.size 3 1 (.slice A' a.types.length c') a.types.length (ints a.types) by
          rw [hV]; have h := HO.out; have hn := own_ne h HT2.out.1 (by decide); have hm := own_ne h HT2.out.2.1 (by decide)
          replace h := ownsRow_setCell_other h (a := ⟨w.heap.size, 0, none⟩) hn (.string a.next)
          replace h := ownsRow_setCell_other h (a := ⟨w.heap.size, 1, none⟩) hn (.slice A' a.types.length c')
          replace h := ownsRow_setCell_other h (a := ⟨w.heap.size, 0, none⟩) hn (.string a.next)
          replace h := ownsRow_setCell_other h (a := ⟨w.heap.size, 1, none⟩) hn (.slice A' a.types.length c')
          replace h := ownsRow_setCell_other h (a := ⟨w.heap.size + 1, 0, none⟩) hm (.int .i64 0)
          exact h)
        have HTV := Lib.hid hTV; clear hTV
        go_wp2_with fail
        refine (must_true _ _).mono ?_
        rintro e w3 ⟨rfl, rfl⟩
        go_wp2_with fail
        rw [← hV]
        clear hV cA fA cB fB cC
        refine leaves_cons (f := 165) (args := #[.pointer (some ⟨w.heap.size, 0, none⟩), .pointer (some ⟨w.heap.size + 1, 0, none⟩)]) (by simp) (by simp [go_sem]) ?_
        refine (catch165_idle _ _ _).mono ?_
        rintro e u' w'' ⟨rfl, rfl, rfl⟩
        have c1 := HTV.out.cellsA
        have c2 := HTV.out.cellB
        simp [Leaves, settle, results, Tryz.results70, go_sem, c1, c2]
        rw [HQ.out]
        exact ⟨⟨_, rfl, A', c', rfl, HOV.out⟩, HTV.out.2.2⟩
      · have ce := empty_not r hr
        have hq : P = none := by rw [HP.out, hX, wholeOf, if_pos h2]; exact if_neg hr
        have HQ := Lib.hid hq; clear hq hX hr
        go_wp2_with fail
        refine (must_false _ _).mono ?_
        rintro e w3 ⟨rfl, rfl⟩
        clear cA fA cB fB cC
        refine leaves_cons (f := 165) (args := #[.pointer (some ⟨w.heap.size, 0, none⟩), .pointer (some ⟨w.heap.size + 1, 0, none⟩)]) (by simp) (by simp [go_sem]) ?_
        refine (catch165_stop _ _ _ _ _ _ HT3.out.1 HT3.out.2.1 hAB).mono ?_
        rintro e u' w'' ⟨rfl, rfl, hw⟩
        have c1 := hw.cellsA
        have c2 := hw.cellB
        have HR := Lib.hid (Below.trans HT3.out.2.2 hw.2.2); clear hw
        simp [Leaves, settle, results, Tryz.results70, go_sem, caughtChain, c1, c2]
        rw [HQ.out]
        exact ⟨rfl, HR.out⟩
  · have hq : P = none := by rw [HP.out]; unfold wholeOf; exact if_neg h2
    have HQ := Lib.hid hq; clear hq
    have HT := Lib.hid hT; clear hT hC
    go_enter_defers Tryz.func70, Tryz.ntmps70
    go_wp2_with fail
    rw [show decide ((s.size : Int) ≤ 2000) = false from decide_eq_false (by omega)]
    refine (must_false _ _).mono ?_
    rintro e w1 ⟨rfl, rfl⟩
    rw [← hW]
    clear hW
    refine leaves_cons (f := 165) (args := #[.pointer (some ⟨w.heap.size, 0, none⟩), .pointer (some ⟨w.heap.size + 1, 0, none⟩)]) (by simp) (by simp [go_sem]) ?_
    refine (catch165_stop _ _ _ _ _ _ HT.out.1 HT.out.2.1 hAB).mono ?_
    rintro e u' w'' ⟨rfl, rfl, hw⟩
    have c1 := hw.cellsA
    have c2 := hw.cellB
    have HR := Lib.hid (Below.trans HT.out.2.2 hw.2.2); clear hw
    simp [Leaves, settle, results, Tryz.results70, go_sem, caughtChain, c1, c2]
    rw [HQ.out]
    exact ⟨rfl, HR.out⟩

set_option maxRecDepth 100000 in
set_option maxHeartbeats 2000000 in
theorem catch166_stop (A B : Nat) (x0 x1 x2 x3 x4 x5 : Value) (y : Value) (w : World) (hx : w.heap[A]? = some (.cells #[x0, x1, x2, x3, x4, x5] 61 (0, 0))) (hy : w.heap[B]? = some (.cells #[y] 23 (0, 0))) (hAB : A < B) :
    CallsD Tryz.prog 166 #[.pointer (some ⟨A, 0, none⟩), .pointer (some ⟨B, 0, none⟩)] (.panicking stopChain) w fun e u' w' =>
      e = .returned (.tuple #[]) ∧ u' = .panicking caughtChain ∧ TSt A B 61 #[.int .i64 0, .int .i64 0, .int .i64 0, .string ⟨#[]⟩, .string ⟨#[]⟩, .slice none 0 0] (.int .i64 6) w w' := by
  have hA : A < w.heap.size := (Array.getElem?_eq_some_iff.1 hx).1
  have hB : B < w.heap.size := (Array.getElem?_eq_some_iff.1 hy).1
  have cA : ∀ i, w.cell? ⟨A, i, none⟩ = #[x0, x1, x2, x3, x4, x5][i]? := fun i => by simp [World.cell?, hx]
  have fA : ∀ i, w.frozen? ⟨A, i, none⟩ = false := fun i => by simp [World.frozen?, hx]
  have hcy := cell_of_one hy
  have hfy : w.frozen? ⟨B, 0, none⟩ = false := by simp [World.frozen?, hy]
  have HX := Lib.hid (And.intro hx hy); clear hx hy
  refine callsD_of_wpS Tryz.func166 rfl fun c₀ cs hu => ?_
  simp only [Tryz.ntmps166, List.size_toArray, List.length_cons, List.length_nil, Nat.reduceAdd, Nat.reduceSub, Array.replicate_succ, Array.replicate_zero, List.push_toArray, List.append_toArray, List.nil_append, List.cons_append]
  apply wpS_seq
  apply wpS_region
  simp [wpOpsS, go_sem, recoverD, hu, Tryz.ntmps166, Exit.thenS, stopChain]
  refine wpS_of_wp ?_
  have ka := assert_stop w
  go_wp2_with fail
  refine ⟨rfl, _, rfl, _, ?_, rfl, rfl, ?_⟩
  · simp [results, Tryz.results166, go_sem]
  · have h := (((((((((((TSt.start HX.out.1 HX.out.2 : TSt A B 61 _ _ w w).setA hAB 0 (.int .i64 0)).setA hAB 1 (.int .i64 0)).setA hAB 2 (.int .i64 0)).setA hAB 3 (.string ⟨#[]⟩)).setA hAB 4 (.string ⟨#[]⟩)).setA hAB 5 (.slice none 0 0))).setB hAB (.int .i64 6)).alloc (.cells #[] 186)).alloc (.cells #[.int .i64 0, .int .i64 0, .int .i64 0, .string ⟨#[]⟩, .string ⟨#[]⟩, .slice none 0 0] 61))
    simpa using h
set_option maxRecDepth 100000 in
set_option maxHeartbeats 2000000 in
theorem catch166_idle (A B : Nat) (w : World) :
    CallsD Tryz.prog 166 #[.pointer (some ⟨A, 0, none⟩), .pointer (some ⟨B, 0, none⟩)] .returning w fun e u' w' => e = .returned (.tuple #[]) ∧ u' = .returning ∧ w' = w := by
  refine callsD_of_wpS Tryz.func166 rfl fun c₀ cs hu => ?_
  simp only [Tryz.ntmps166, List.size_toArray, List.length_cons, List.length_nil, Nat.reduceAdd, Nat.reduceSub, Array.replicate_succ, Array.replicate_zero, List.push_toArray, List.append_toArray, List.nil_append, List.cons_append]
  apply wpS_seq
  apply wpS_region
  simp [wpOpsS, go_sem, recoverD, hu, Tryz.ntmps166, Exit.thenS]
  refine wpS_of_wp ?_
  go_wp2_with fail
  refine ⟨rfl, _, ?_, _, ?_, rfl, rfl, rfl⟩
  · rw [← hu]
  · simp [results, Tryz.results166, go_sem]
set_option maxRecDepth 100000 in
set_option maxHeartbeats 4000000 in
theorem take74_any (s : ByteArray) (w : World) : Calls Tryz.prog 74 #[.string s, .func (.func 75) #[] #[]] w (TakePostR (nsec3R) (.agg #[.int .i64 0, .int .i64 0, .int .i64 0, .string ⟨#[]⟩, .string ⟨#[]⟩, .slice none 0 0]) w (wholeOf s (takeNsec3 s))) := by
  have hmf : ∀ (fn : Fn) (first cap : Array Value) (w : World), (Instr.makeFunc fn first cap).run Tryz.prog w = .ok (.func fn first cap) w := fun _ _ _ _ => rfl
  obtain ⟨W, hW⟩ : ∃ W, W = ((w.alloc (.cells #[.int .i64 0, .int .i64 0, .int .i64 0, .string ⟨#[]⟩, .string ⟨#[]⟩, .slice none 0 0] 61)).alloc (.cells #[.int .i64 0] 23)).alloc (.cells #[.string s] 189) := ⟨_, rfl⟩
  have hsW : W.heap.size = w.heap.size + 3 := by rw [hW]; simp
  have hT : TSt w.heap.size (w.heap.size + 1) 61 #[.int .i64 0, .int .i64 0, .int .i64 0, .string ⟨#[]⟩, .string ⟨#[]⟩, .slice none 0 0] (.int .i64 0) w W := by
    rw [hW]
    refine ⟨?_, ?_, (((Below.refl _ _).alloc (Nat.le_refl _) _).alloc (by simp) _).alloc (by simp; omega) _⟩
    · rw [Below.heap_alloc _ _ _ (by simp; omega), Below.heap_alloc _ _ _ (by simp)]; exact World.alloc_heap_new w _
    · rw [Below.heap_alloc _ _ _ (by simp)]
      have := World.alloc_heap_new (w.alloc (.cells #[.int .i64 0, .int .i64 0, .int .i64 0, .string ⟨#[]⟩, .string ⟨#[]⟩, .slice none 0 0] 61)) (.cells #[.int .i64 0] 23)
      rwa [World.size_alloc] at this
  have hC : W.heap[w.heap.size + 1 + 1]? = some (.cells #[.string s] 189 (0, 0)) := by
    rw [hW]
    have := World.alloc_heap_new ((w.alloc (.cells #[.int .i64 0, .int .i64 0, .int .i64 0, .string ⟨#[]⟩, .string ⟨#[]⟩, .slice none 0 0] 61)).alloc (.cells #[.int .i64 0] 23)) (.cells #[.string s] 189)
    rwa [World.size_alloc, World.size_alloc] at this
  have hAB : w.heap.size < w.heap.size + 1 := by omega
  obtain ⟨P, hP⟩ : ∃ P, P = wholeOf s (takeNsec3 s) := ⟨_, rfl⟩
  rw [← hP]
  have HP := Lib.hid hP; clear hP
  by_cases h2 : s.size ≤ 2000
  · have hS := nsec31_src (w.heap.size + 1 + 1) s W hC (by omega)
    have HS := Lib.hid hS; clear hS hC
    have HT := Lib.hid hT; clear hT
    go_enter_defers Tryz.func74, Tryz.ntmps74
    go_wp2_with fail
    rw [show decide ((s.size : Int) ≤ 2000) = true from decide_eq_true (by omega)]
    refine (must_true _ _).mono ?_
    rintro e w1 ⟨rfl, rfl⟩
    go_wp2_with fail
    rw [← hW]
    clear hW
    refine HS.out.mono ?_
    intro e w2 hp
    clear HS
    cases hX : takeNsec3 s with
    | none =>
      rw [hX] at hp
      obtain ⟨rfl, hg⟩ := hp
      have hT2 := HT.out.grown hg (by omega) (by omega)
      have HT2 := Lib.hid hT2; clear hT2 hg
      have hq : P = none := by rw [HP.out, hX, wholeOf, if_pos h2]
      have HQ := Lib.hid hq; clear hq hX
      refine leaves_cons (f := 166) (args := #[.pointer (some ⟨w.heap.size, 0, none⟩), .pointer (some ⟨w.heap.size + 1, 0, none⟩)]) (by simp) (by simp [go_sem]) ?_
      refine (catch166_stop _ _ _ _ _ _ _ _ _ _ HT2.out.1 HT2.out.2.1 hAB).mono ?_
      rintro e u' w'' ⟨rfl, rfl, hw⟩
      have c1 := hw.cellsA
      have c2 := hw.cellB
      have HR := Lib.hid (Below.trans HT2.out.2.2 hw.2.2); clear hw
      simp [Leaves, settle, results, Tryz.results74, go_sem, caughtChain, c1, c2]
      rw [HQ.out]
      exact ⟨rfl, HR.out⟩
    | some xr =>
      obtain ⟨a, r⟩ := xr
      rw [hX] at hp
      obtain ⟨⟨v, rfl, hR⟩, hc, hg⟩ := hp
      have hT2 := HT.out.grown hg (by omega) (by omega)
      have hszg := hg.size
      clear hg
      obtain ⟨A', c', rfl, ho⟩ := hR
      have HO := Lib.hid (own_mono ho (show w.heap.size ≤ W.heap.size by omega)); clear ho
      have cA := hT2.cellsA
      have fA := hT2.frozenA
      have cB := hT2.cellB
      have fB := hT2.frozenB
      have cC := cell_of_one hc
      have hneA : w.heap.size ≠ w.heap.size + 1 + 1 := by omega
      have hT3 : TSt w.heap.size (w.heap.size + 1) 61 #[.int .i64 a.alg, .int .i64 a.flags, .int .i64 a.rounds, .string a.salt, .string a.next, .slice A' a.types.length c'] (.int .i64 0) w (((((((w2).setCell ⟨w.heap.size, 0, none⟩ (.int .i64 a.alg)).setCell ⟨w.heap.size, 1, none⟩ (.int .i64 a.flags)).setCell ⟨w.heap.size, 2, none⟩ (.int .i64 a.rounds)).setCell ⟨w.heap.size, 3, none⟩ (.string a.salt)).setCell ⟨w.heap.size, 4, none⟩ (.string a.next)).setCell ⟨w.heap.size, 5, none⟩ (.slice A' a.types.length c')) := by
        have h := ((((((hT2.setA hAB 0 (.int .i64 a.alg)).setA hAB 1 (.int .i64 a.flags)).setA hAB 2 (.int .i64 a.rounds)).setA hAB 3 (.string a.salt)).setA hAB 4 (.string a.next)).setA hAB 5 (.slice A' a.types.length c'))
        simpa using h
      have HT3 := Lib.hid hT3; clear hT3
      have HC := Lib.hid hc; clear hc
      have HT2 := Lib.hid hT2; clear hT2
      by_cases hr : r.size = 0
      · obtain rfl := empty_eq hr
        have hq : P = some a := by rw [HP.out, hX, wholeOf, if_pos h2]; rfl
        have HQ := Lib.hid hq; clear hq hX hr
        obtain ⟨V, hV⟩ : ∃ V, V = (((((((((((((w2).setCell ⟨w.heap.size, 0, none⟩ (.int .i64 a.alg)).setCell ⟨w.heap.size, 1, none⟩ (.int .i64 a.flags)).setCell ⟨w.heap.size, 2, none⟩ (.int .i64 a.rounds)).setCell ⟨w.heap.size, 3, none⟩ (.string a.salt)).setCell ⟨w.heap.size, 4, none⟩ (.string a.next)).setCell ⟨w.heap.size, 5, none⟩ (.slice A' a.types.length c')).setCell ⟨w.heap.size, 0, none⟩ (.int .i64 a.alg)).setCell ⟨w.heap.size, 1, none⟩ (.int .i64 a.flags)).setCell ⟨w.heap.size, 2, none⟩ (.int .i64 a.rounds)).setCell ⟨w.heap.size, 3, none⟩ (.string a.salt)).setCell ⟨w.heap.size, 4, none⟩ (.string a.next)).setCell ⟨w.heap.size, 5, none⟩ (.slice A' a.types.length c')).setCell ⟨w.heap.size + 1, 0, none⟩ (.int .i64 0) := ⟨_, rfl⟩
        have hTV : TSt w.heap.size (w.heap.size + 1) 61 #[.int .i64 a.alg, .int .i64 a.flags, .int .i64 a.rounds, .string a.salt, .string a.next, .slice A' a.types.length c'] (.int .i64 0) w V := by
          rw [hV]; have h := (((((((HT3.out.setA hAB 0 (.int .i64 a.alg)).setA hAB 1 (.int .i64 a.flags)).setA hAB 2 (.int .i64 a.rounds)).setA hAB 3 (.string a.salt)).setA hAB 4 (.string a.next)).setA hAB 5 (.slice A' a.types.length c'))).setB hAB (.int .i64 0)
          simpa using h
        have HOV := Lib.hid (show V.ownsRow w.heap.size 3 1 (.slice A' a.types.length c') a.types.length (ints a.types) by
          rw [hV]; have h := HO.out; have hn := own_ne h HT2.out.1 (by decide); have hm := own_ne h HT2.out.2.1 (by decide)
          replace h := ownsRow_setCell_other h (a := ⟨w.heap.size, 0, none⟩) hn (.int .i64 a.alg)
          replace h := ownsRow_setCell_other h (a := ⟨w.heap.size, 1, none⟩) hn (.int .i64 a.flags)
          replace h := ownsRow_setCell_other h (a := ⟨w.heap.size, 2, none⟩) hn (.int .i64 a.rounds)
          replace h := ownsRow_setCell_other h (a := ⟨w.heap.size, 3, none⟩) hn (.string a.salt)
          replace h := ownsRow_setCell_other h (a := ⟨w.heap.size, 4, none⟩) hn (.string a.next)
          replace h := ownsRow_setCell_other h (a := ⟨w.heap.size, 5, none⟩) hn (.slice A' a.types.length c')
          replace h := ownsRow_setCell_other h (a := ⟨w.heap.size, 0, none⟩) hn (.int .i64 a.alg)
          replace h := ownsRow_setCell_other h (a := ⟨w.heap.size, 1, none⟩) hn (.int .i64 a.flags)
          replace h := ownsRow_setCell_other h (a := ⟨w.heap.size, 2, none⟩) hn (.int .i64 a.rounds)
          replace h := ownsRow_setCell_other h (a := ⟨w.heap.size, 3, none⟩) hn (.string a.salt)
          replace h := ownsRow_setCell_other h (a := ⟨w.heap.size, 4, none⟩) hn (.string a.next)
          replace h := ownsRow_setCell_other h (a := ⟨w.heap.size, 5, none⟩) hn (.slice A' a.types.length c')
          replace h := ownsRow_setCell_other h (a := ⟨w.heap.size + 1, 0, none⟩) hm (.int .i64 0)
          exact h)
        have HTV := Lib.hid hTV; clear hTV
        go_wp2_with fail
        refine (must_true _ _).mono ?_
        rintro e w3 ⟨rfl, rfl⟩
        go_wp2_with fail
        rw [← hV]
        clear hV cA fA cB fB cC
        refine leaves_cons (f := 166) (args := #[.pointer (some ⟨w.heap.size, 0, none⟩), .pointer (some ⟨w.heap.size + 1, 0, none⟩)]) (by simp) (by simp [go_sem]) ?_
        refine (catch166_idle _ _ _).mono ?_
        rintro e u' w'' ⟨rfl, rfl, rfl⟩
        have c1 := HTV.out.cellsA
        have c2 := HTV.out.cellB
        simp [Leaves, settle, results, Tryz.results74, go_sem, c1, c2]
        rw [HQ.out]
        exact ⟨⟨_, rfl, A', c', rfl, HOV.out⟩, HTV.out.2.2⟩
      · have ce := empty_not r hr
        have hq : P = none := by rw [HP.out, hX, wholeOf, if_pos h2]; exact if_neg hr
        have HQ := Lib.hid hq; clear hq hX hr
        go_wp2_with fail
        refine (must_false _ _).mono ?_
        rintro e w3 ⟨rfl, rfl⟩
        clear cA fA cB fB cC
        refine leaves_cons (f := 166) (args := #[.pointer (some ⟨w.heap.size, 0, none⟩), .pointer (some ⟨w.heap.size + 1, 0, none⟩)]) (by simp) (by simp [go_sem]) ?_
        refine (catch166_stop _ _ _ _ _ _ _ _ _ _ HT3.out.1 HT3.out.2.1 hAB).mono ?_
        rintro e u' w'' ⟨rfl, rfl, hw⟩
        have c1 := hw.cellsA
        have c2 := hw.cellB
        have HR := Lib.hid (Below.trans HT3.out.2.2 hw.2.2); clear hw
        simp [Leaves, settle, results, Tryz.results74, go_sem, caughtChain, c1, c2]
        rw [HQ.out]
        exact ⟨rfl, HR.out⟩
  · have hq : P = none := by rw [HP.out]; unfold wholeOf; exact if_neg h2
    have HQ := Lib.hid hq; clear hq
    have HT := Lib.hid hT; clear hT hC
    go_enter_defers Tryz.func74, Tryz.ntmps74
    go_wp2_with fail
    rw [show decide ((s.size : Int) ≤ 2000) = false from decide_eq_false (by omega)]
    refine (must_false _ _).mono ?_
    rintro e w1 ⟨rfl, rfl⟩
    rw [← hW]
    clear hW
    refine leaves_cons (f := 166) (args := #[.pointer (some ⟨w.heap.size, 0, none⟩), .pointer (some ⟨w.heap.size + 1, 0, none⟩)]) (by simp) (by simp [go_sem]) ?_
    refine (catch166_stop _ _ _ _ _ _ _ _ _ _ HT.out.1 HT.out.2.1 hAB).mono ?_
    rintro e u' w'' ⟨rfl, rfl, hw⟩
    have c1 := hw.cellsA
    have c2 := hw.cellB
    have HR := Lib.hid (Below.trans HT.out.2.2 hw.2.2); clear hw
    simp [Leaves, settle, results, Tryz.results74, go_sem, caughtChain, c1, c2]
    rw [HQ.out]
    exact ⟨rfl, HR.out⟩

end Go.Proofs.YtnllofjjffflkaaGreatDoor
namespace Go.Proofs.YtnllofjjffflkaaGreatDoor
open Go.RowKit Gp
theorem heap_set {W : World} {A : Nat} {cs : Array Value} {T : TypeId} (h : W.heap[A]? = some (.cells cs T (0, 0))) (i : Nat) (v : Value) : (W.setCell ⟨A, i, none⟩ v).heap[A]? = some (.cells (cs.setIfInBounds i v) T (0, 0)) := by
  simp [World.setCell, Array.getElem?_modify, h]
set_option maxRecDepth 100000 in
set_option maxHeartbeats 2000000 in
theorem key_any (s : ByteArray) (w : World) : Calls Tryz.prog 19 #[.string s] w (TakePostR (fun _ a v _ => v = keyV a) (.agg #[.int .i64 0, .int .i64 0, .int .i64 0, .string ⟨#[]⟩]) w (wholeOf s (takeKey s))) := by
  obtain ⟨P, hP⟩ : ∃ P, P = wholeOf s (takeKey s) := ⟨_, rfl⟩
  have c := take66_any s (w.alloc (.cells #[.int .i64 0, .int .i64 0, .int .i64 0, .string ⟨#[]⟩] 42))
  rw [← hP] at c ⊢
  clear hP
  have C := Lib.hid c; clear c
  go_enter Tryz.func19, Tryz.ntmps19
  go_wp2_with fail
  refine C.out.mono ?_
  intro e w1 hp
  clear C
  have hN := World.alloc_heap_new w (.cells #[.int .i64 0, .int .i64 0, .int .i64 0, .string ⟨#[]⟩] 42)
  cases P with
  | none =>
    obtain ⟨rfl, hb⟩ := hp
    have hA : w1.heap[w.heap.size]? = some (.cells #[.int .i64 0, .int .i64 0, .int .i64 0, .string ⟨#[]⟩] 42 (0, 0)) := (hb.block _ (by simp)).trans hN
    have hBl : Below w.heap.size w w1 := ((Below.refl _ _).alloc (Nat.le_refl _) _).trans (hb.mono (by simp))
    clear hN hb
    obtain ⟨V, hV⟩ : ∃ V, V = ((((w1).setCell ⟨w.heap.size, 0, none⟩ (.int .i64 0)).setCell ⟨w.heap.size, 1, none⟩ (.int .i64 0)).setCell ⟨w.heap.size, 2, none⟩ (.int .i64 0)).setCell ⟨w.heap.size, 3, none⟩ (.string ⟨#[]⟩) := ⟨_, rfl⟩
    have hAV : V.heap[w.heap.size]? = some (.cells #[.int .i64 0, .int .i64 0, .int .i64 0, .string ⟨#[]⟩] 42 (0, 0)) := by rw [hV]; have h := (heap_set ((heap_set ((heap_set ((heap_set (hA) 0 (.int .i64 0))) 1 (.int .i64 0))) 2 (.int .i64 0))) 3 (.string ⟨#[]⟩)); simpa using h
    have hBV : Below w.heap.size w V := by rw [hV]; exact (Below.setCell ((Below.setCell ((Below.setCell ((Below.setCell (hBl) (p := ⟨w.heap.size, 0, none⟩) (Nat.le_refl _) (.int .i64 0))) (p := ⟨w.heap.size, 1, none⟩) (Nat.le_refl _) (.int .i64 0))) (p := ⟨w.heap.size, 2, none⟩) (Nat.le_refl _) (.int .i64 0))) (p := ⟨w.heap.size, 3, none⟩) (Nat.le_refl _) (.string ⟨#[]⟩))
    have cA : ∀ i, w1.cell? ⟨w.heap.size, i, none⟩ = #[.int .i64 0, .int .i64 0, .int .i64 0, .string ⟨#[]⟩][i]? := fun i => by simp [World.cell?, hA]
    have fA : ∀ i, w1.frozen? ⟨w.heap.size, i, none⟩ = false := fun i => by simp [World.frozen?, hA]
    have cF : ∀ i, V.cell? ⟨w.heap.size, i, none⟩ = #[.int .i64 0, .int .i64 0, .int .i64 0, .string ⟨#[]⟩][i]? := fun i => by simp [World.cell?, hAV]
    have HV := Lib.hid (And.intro hAV hBV); clear hAV hBV hA hBl
    have CF := Lib.hid cF; clear cF
    go_wp2_with fail
    rw [← hV]
    clear hV cA fA
    have cF := CF.out
    refine bodyPost_ret (v := .tuple #[.agg #[.int .i64 0, .int .i64 0, .int .i64 0, .string ⟨#[]⟩], .int .i64 6]) (by simp [results, Tryz.results19, go_sem, cF]) rfl ?_
    exact ⟨rfl, HV.out.2⟩
  | some a =>
    obtain ⟨⟨v, rfl, hR⟩, hb⟩ := hp
    have hA : w1.heap[w.heap.size]? = some (.cells #[.int .i64 0, .int .i64 0, .int .i64 0, .string ⟨#[]⟩] 42 (0, 0)) := (hb.block _ (by simp)).trans hN
    have hBl : Below w.heap.size w w1 := ((Below.refl _ _).alloc (Nat.le_refl _) _).trans (hb.mono (by simp))
    clear hN hb
    obtain rfl : v = keyV a := hR
    obtain ⟨V, hV⟩ : ∃ V, V = ((((w1).setCell ⟨w.heap.size, 0, none⟩ (.int .i64 a.flags)).setCell ⟨w.heap.size, 1, none⟩ (.int .i64 a.protocol)).setCell ⟨w.heap.size, 2, none⟩ (.int .i64 a.alg)).setCell ⟨w.heap.size, 3, none⟩ (.string a.pub) := ⟨_, rfl⟩
    have hAV : V.heap[w.heap.size]? = some (.cells #[.int .i64 a.flags, .int .i64 a.protocol, .int .i64 a.alg, .string a.pub] 42 (0, 0)) := by rw [hV]; have h := (heap_set ((heap_set ((heap_set ((heap_set (hA) 0 (.int .i64 a.flags))) 1 (.int .i64 a.protocol))) 2 (.int .i64 a.alg))) 3 (.string a.pub)); simpa using h
    have hBV : Below w.heap.size w V := by rw [hV]; exact (Below.setCell ((Below.setCell ((Below.setCell ((Below.setCell (hBl) (p := ⟨w.heap.size, 0, none⟩) (Nat.le_refl _) (.int .i64 a.flags))) (p := ⟨w.heap.size, 1, none⟩) (Nat.le_refl _) (.int .i64 a.protocol))) (p := ⟨w.heap.size, 2, none⟩) (Nat.le_refl _) (.int .i64 a.alg))) (p := ⟨w.heap.size, 3, none⟩) (Nat.le_refl _) (.string a.pub))
    have cA : ∀ i, w1.cell? ⟨w.heap.size, i, none⟩ = #[.int .i64 0, .int .i64 0, .int .i64 0, .string ⟨#[]⟩][i]? := fun i => by simp [World.cell?, hA]
    have fA : ∀ i, w1.frozen? ⟨w.heap.size, i, none⟩ = false := fun i => by simp [World.frozen?, hA]
    have cF : ∀ i, V.cell? ⟨w.heap.size, i, none⟩ = #[.int .i64 a.flags, .int .i64 a.protocol, .int .i64 a.alg, .string a.pub][i]? := fun i => by simp [World.cell?, hAV]
    have HV := Lib.hid (And.intro hAV hBV); clear hAV hBV hA hBl
    have CF := Lib.hid cF; clear cF
    go_wp2_with fail
    rw [← hV]
    clear hV cA fA
    have cF := CF.out
    refine bodyPost_ret (v := .tuple #[.agg #[.int .i64 a.flags, .int .i64 a.protocol, .int .i64 a.alg, .string a.pub], .int .i64 0]) (by simp [results, Tryz.results19, go_sem, cF]) rfl ?_
    exact ⟨⟨_, rfl, rfl⟩, HV.out.2⟩

set_option maxRecDepth 100000 in
set_option maxHeartbeats 2000000 in
theorem ds_any (s : ByteArray) (w : World) : Calls Tryz.prog 21 #[.string s] w (TakePostR (fun _ a v _ => v = dsV a) (.agg #[.int .i64 0, .int .i64 0, .int .i64 0, .string ⟨#[]⟩]) w (wholeOf s (takeDs s))) := by
  obtain ⟨P, hP⟩ : ∃ P, P = wholeOf s (takeDs s) := ⟨_, rfl⟩
  have c := take68_any s (w.alloc (.cells #[.int .i64 0, .int .i64 0, .int .i64 0, .string ⟨#[]⟩] 48))
  rw [← hP] at c ⊢
  clear hP
  have C := Lib.hid c; clear c
  go_enter Tryz.func21, Tryz.ntmps21
  go_wp2_with fail
  refine C.out.mono ?_
  intro e w1 hp
  clear C
  have hN := World.alloc_heap_new w (.cells #[.int .i64 0, .int .i64 0, .int .i64 0, .string ⟨#[]⟩] 48)
  cases P with
  | none =>
    obtain ⟨rfl, hb⟩ := hp
    have hA : w1.heap[w.heap.size]? = some (.cells #[.int .i64 0, .int .i64 0, .int .i64 0, .string ⟨#[]⟩] 48 (0, 0)) := (hb.block _ (by simp)).trans hN
    have hBl : Below w.heap.size w w1 := ((Below.refl _ _).alloc (Nat.le_refl _) _).trans (hb.mono (by simp))
    clear hN hb
    obtain ⟨V, hV⟩ : ∃ V, V = ((((w1).setCell ⟨w.heap.size, 0, none⟩ (.int .i64 0)).setCell ⟨w.heap.size, 1, none⟩ (.int .i64 0)).setCell ⟨w.heap.size, 2, none⟩ (.int .i64 0)).setCell ⟨w.heap.size, 3, none⟩ (.string ⟨#[]⟩) := ⟨_, rfl⟩
    have hAV : V.heap[w.heap.size]? = some (.cells #[.int .i64 0, .int .i64 0, .int .i64 0, .string ⟨#[]⟩] 48 (0, 0)) := by rw [hV]; have h := (heap_set ((heap_set ((heap_set ((heap_set (hA) 0 (.int .i64 0))) 1 (.int .i64 0))) 2 (.int .i64 0))) 3 (.string ⟨#[]⟩)); simpa using h
    have hBV : Below w.heap.size w V := by rw [hV]; exact (Below.setCell ((Below.setCell ((Below.setCell ((Below.setCell (hBl) (p := ⟨w.heap.size, 0, none⟩) (Nat.le_refl _) (.int .i64 0))) (p := ⟨w.heap.size, 1, none⟩) (Nat.le_refl _) (.int .i64 0))) (p := ⟨w.heap.size, 2, none⟩) (Nat.le_refl _) (.int .i64 0))) (p := ⟨w.heap.size, 3, none⟩) (Nat.le_refl _) (.string ⟨#[]⟩))
    have cA : ∀ i, w1.cell? ⟨w.heap.size, i, none⟩ = #[.int .i64 0, .int .i64 0, .int .i64 0, .string ⟨#[]⟩][i]? := fun i => by simp [World.cell?, hA]
    have fA : ∀ i, w1.frozen? ⟨w.heap.size, i, none⟩ = false := fun i => by simp [World.frozen?, hA]
    have cF : ∀ i, V.cell? ⟨w.heap.size, i, none⟩ = #[.int .i64 0, .int .i64 0, .int .i64 0, .string ⟨#[]⟩][i]? := fun i => by simp [World.cell?, hAV]
    have HV := Lib.hid (And.intro hAV hBV); clear hAV hBV hA hBl
    have CF := Lib.hid cF; clear cF
    go_wp2_with fail
    rw [← hV]
    clear hV cA fA
    have cF := CF.out
    refine bodyPost_ret (v := .tuple #[.agg #[.int .i64 0, .int .i64 0, .int .i64 0, .string ⟨#[]⟩], .int .i64 6]) (by simp [results, Tryz.results21, go_sem, cF]) rfl ?_
    exact ⟨rfl, HV.out.2⟩
  | some a =>
    obtain ⟨⟨v, rfl, hR⟩, hb⟩ := hp
    have hA : w1.heap[w.heap.size]? = some (.cells #[.int .i64 0, .int .i64 0, .int .i64 0, .string ⟨#[]⟩] 48 (0, 0)) := (hb.block _ (by simp)).trans hN
    have hBl : Below w.heap.size w w1 := ((Below.refl _ _).alloc (Nat.le_refl _) _).trans (hb.mono (by simp))
    clear hN hb
    obtain rfl : v = dsV a := hR
    obtain ⟨V, hV⟩ : ∃ V, V = ((((w1).setCell ⟨w.heap.size, 0, none⟩ (.int .i64 a.tag)).setCell ⟨w.heap.size, 1, none⟩ (.int .i64 a.alg)).setCell ⟨w.heap.size, 2, none⟩ (.int .i64 a.kind)).setCell ⟨w.heap.size, 3, none⟩ (.string a.digest) := ⟨_, rfl⟩
    have hAV : V.heap[w.heap.size]? = some (.cells #[.int .i64 a.tag, .int .i64 a.alg, .int .i64 a.kind, .string a.digest] 48 (0, 0)) := by rw [hV]; have h := (heap_set ((heap_set ((heap_set ((heap_set (hA) 0 (.int .i64 a.tag))) 1 (.int .i64 a.alg))) 2 (.int .i64 a.kind))) 3 (.string a.digest)); simpa using h
    have hBV : Below w.heap.size w V := by rw [hV]; exact (Below.setCell ((Below.setCell ((Below.setCell ((Below.setCell (hBl) (p := ⟨w.heap.size, 0, none⟩) (Nat.le_refl _) (.int .i64 a.tag))) (p := ⟨w.heap.size, 1, none⟩) (Nat.le_refl _) (.int .i64 a.alg))) (p := ⟨w.heap.size, 2, none⟩) (Nat.le_refl _) (.int .i64 a.kind))) (p := ⟨w.heap.size, 3, none⟩) (Nat.le_refl _) (.string a.digest))
    have cA : ∀ i, w1.cell? ⟨w.heap.size, i, none⟩ = #[.int .i64 0, .int .i64 0, .int .i64 0, .string ⟨#[]⟩][i]? := fun i => by simp [World.cell?, hA]
    have fA : ∀ i, w1.frozen? ⟨w.heap.size, i, none⟩ = false := fun i => by simp [World.frozen?, hA]
    have cF : ∀ i, V.cell? ⟨w.heap.size, i, none⟩ = #[.int .i64 a.tag, .int .i64 a.alg, .int .i64 a.kind, .string a.digest][i]? := fun i => by simp [World.cell?, hAV]
    have HV := Lib.hid (And.intro hAV hBV); clear hAV hBV hA hBl
    have CF := Lib.hid cF; clear cF
    go_wp2_with fail
    rw [← hV]
    clear hV cA fA
    have cF := CF.out
    refine bodyPost_ret (v := .tuple #[.agg #[.int .i64 a.tag, .int .i64 a.alg, .int .i64 a.kind, .string a.digest], .int .i64 0]) (by simp [results, Tryz.results21, go_sem, cF]) rfl ?_
    exact ⟨⟨_, rfl, rfl⟩, HV.out.2⟩

set_option maxRecDepth 100000 in
set_option maxHeartbeats 2000000 in
theorem sig_any (s : ByteArray) (w : World) : Calls Tryz.prog 17 #[.string s] w (TakePostR (fun _ a v _ => v = sigV a) (.agg #[.int .i64 0, .int .i64 0, .int .i64 0, .int .i64 0, .int .i64 0, .int .i64 0, .int .i64 0, .string ⟨#[]⟩, .string ⟨#[]⟩]) w (wholeOf s (takeSig s))) := by
  obtain ⟨P, hP⟩ : ∃ P, P = wholeOf s (takeSig s) := ⟨_, rfl⟩
  have c := take62_any s (w.alloc (.cells #[.int .i64 0, .int .i64 0, .int .i64 0, .int .i64 0, .int .i64 0, .int .i64 0, .int .i64 0, .string ⟨#[]⟩, .string ⟨#[]⟩] 36))
  rw [← hP] at c ⊢
  clear hP
  have C := Lib.hid c; clear c
  go_enter Tryz.func17, Tryz.ntmps17
  go_wp2_with fail
  refine C.out.mono ?_
  intro e w1 hp
  clear C
  have hN := World.alloc_heap_new w (.cells #[.int .i64 0, .int .i64 0, .int .i64 0, .int .i64 0, .int .i64 0, .int .i64 0, .int .i64 0, .string ⟨#[]⟩, .string ⟨#[]⟩] 36)
  cases P with
  | none =>
    obtain ⟨rfl, hb⟩ := hp
    have hA : w1.heap[w.heap.size]? = some (.cells #[.int .i64 0, .int .i64 0, .int .i64 0, .int .i64 0, .int .i64 0, .int .i64 0, .int .i64 0, .string ⟨#[]⟩, .string ⟨#[]⟩] 36 (0, 0)) := (hb.block _ (by simp)).trans hN
    have hBl : Below w.heap.size w w1 := ((Below.refl _ _).alloc (Nat.le_refl _) _).trans (hb.mono (by simp))
    clear hN hb
    obtain ⟨V, hV⟩ : ∃ V, V = (((((((((w1).setCell ⟨w.heap.size, 0, none⟩ (.int .i64 0)).setCell ⟨w.heap.size, 1, none⟩ (.int .i64 0)).setCell ⟨w.heap.size, 2, none⟩ (.int .i64 0)).setCell ⟨w.heap.size, 3, none⟩ (.int .i64 0)).setCell ⟨w.heap.size, 4, none⟩ (.int .i64 0)).setCell ⟨w.heap.size, 5, none⟩ (.int .i64 0)).setCell ⟨w.heap.size, 6, none⟩ (.int .i64 0)).setCell ⟨w.heap.size, 7, none⟩ (.string ⟨#[]⟩)).setCell ⟨w.heap.size, 8, none⟩ (.string ⟨#[]⟩) := ⟨_, rfl⟩
    have hAV : V.heap[w.heap.size]? = some (.cells #[.int .i64 0, .int .i64 0, .int .i64 0, .int .i64 0, .int .i64 0, .int .i64 0, .int .i64 0, .string ⟨#[]⟩, .string ⟨#[]⟩] 36 (0, 0)) := by rw [hV]; have h := (heap_set ((heap_set ((heap_set ((heap_set ((heap_set ((heap_set ((heap_set ((heap_set ((heap_set (hA) 0 (.int .i64 0))) 1 (.int .i64 0))) 2 (.int .i64 0))) 3 (.int .i64 0))) 4 (.int .i64 0))) 5 (.int .i64 0))) 6 (.int .i64 0))) 7 (.string ⟨#[]⟩))) 8 (.string ⟨#[]⟩)); simpa using h
    have hBV : Below w.heap.size w V := by rw [hV]; exact (Below.setCell ((Below.setCell ((Below.setCell ((Below.setCell ((Below.setCell ((Below.setCell ((Below.setCell ((Below.setCell ((Below.setCell (hBl) (p := ⟨w.heap.size, 0, none⟩) (Nat.le_refl _) (.int .i64 0))) (p := ⟨w.heap.size, 1, none⟩) (Nat.le_refl _) (.int .i64 0))) (p := ⟨w.heap.size, 2, none⟩) (Nat.le_refl _) (.int .i64 0))) (p := ⟨w.heap.size, 3, none⟩) (Nat.le_refl _) (.int .i64 0))) (p := ⟨w.heap.size, 4, none⟩) (Nat.le_refl _) (.int .i64 0))) (p := ⟨w.heap.size, 5, none⟩) (Nat.le_refl _) (.int .i64 0))) (p := ⟨w.heap.size, 6, none⟩) (Nat.le_refl _) (.int .i64 0))) (p := ⟨w.heap.size, 7, none⟩) (Nat.le_refl _) (.string ⟨#[]⟩))) (p := ⟨w.heap.size, 8, none⟩) (Nat.le_refl _) (.string ⟨#[]⟩))
    have cA : ∀ i, w1.cell? ⟨w.heap.size, i, none⟩ = #[.int .i64 0, .int .i64 0, .int .i64 0, .int .i64 0, .int .i64 0, .int .i64 0, .int .i64 0, .string ⟨#[]⟩, .string ⟨#[]⟩][i]? := fun i => by simp [World.cell?, hA]
    have fA : ∀ i, w1.frozen? ⟨w.heap.size, i, none⟩ = false := fun i => by simp [World.frozen?, hA]
    have cF : ∀ i, V.cell? ⟨w.heap.size, i, none⟩ = #[.int .i64 0, .int .i64 0, .int .i64 0, .int .i64 0, .int .i64 0, .int .i64 0, .int .i64 0, .string ⟨#[]⟩, .string ⟨#[]⟩][i]? := fun i => by simp [World.cell?, hAV]
    have HV := Lib.hid (And.intro hAV hBV); clear hAV hBV hA hBl
    have CF := Lib.hid cF; clear cF
    go_wp2_with fail
    rw [← hV]
    clear hV cA fA
    have cF := CF.out
    refine bodyPost_ret (v := .tuple #[.agg #[.int .i64 0, .int .i64 0, .int .i64 0, .int .i64 0, .int .i64 0, .int .i64 0, .int .i64 0, .string ⟨#[]⟩, .string ⟨#[]⟩], .int .i64 6]) (by simp [results, Tryz.results17, go_sem, cF]) rfl ?_
    exact ⟨rfl, HV.out.2⟩
  | some a =>
    obtain ⟨⟨v, rfl, hR⟩, hb⟩ := hp
    have hA : w1.heap[w.heap.size]? = some (.cells #[.int .i64 0, .int .i64 0, .int .i64 0, .int .i64 0, .int .i64 0, .int .i64 0, .int .i64 0, .string ⟨#[]⟩, .string ⟨#[]⟩] 36 (0, 0)) := (hb.block _ (by simp)).trans hN
    have hBl : Below w.heap.size w w1 := ((Below.refl _ _).alloc (Nat.le_refl _) _).trans (hb.mono (by simp))
    clear hN hb
    obtain rfl : v = sigV a := hR
    obtain ⟨V, hV⟩ : ∃ V, V = (((((((((w1).setCell ⟨w.heap.size, 0, none⟩ (.int .i64 a.covered)).setCell ⟨w.heap.size, 1, none⟩ (.int .i64 a.alg)).setCell ⟨w.heap.size, 2, none⟩ (.int .i64 a.labels)).setCell ⟨w.heap.size, 3, none⟩ (.int .i64 a.ttl)).setCell ⟨w.heap.size, 4, none⟩ (.int .i64 a.fin)).setCell ⟨w.heap.size, 5, none⟩ (.int .i64 a.start)).setCell ⟨w.heap.size, 6, none⟩ (.int .i64 a.tag)).setCell ⟨w.heap.size, 7, none⟩ (.string a.signer)).setCell ⟨w.heap.size, 8, none⟩ (.string a.sign) := ⟨_, rfl⟩
    have hAV : V.heap[w.heap.size]? = some (.cells #[.int .i64 a.covered, .int .i64 a.alg, .int .i64 a.labels, .int .i64 a.ttl, .int .i64 a.fin, .int .i64 a.start, .int .i64 a.tag, .string a.signer, .string a.sign] 36 (0, 0)) := by rw [hV]; have h := (heap_set ((heap_set ((heap_set ((heap_set ((heap_set ((heap_set ((heap_set ((heap_set ((heap_set (hA) 0 (.int .i64 a.covered))) 1 (.int .i64 a.alg))) 2 (.int .i64 a.labels))) 3 (.int .i64 a.ttl))) 4 (.int .i64 a.fin))) 5 (.int .i64 a.start))) 6 (.int .i64 a.tag))) 7 (.string a.signer))) 8 (.string a.sign)); simpa using h
    have hBV : Below w.heap.size w V := by rw [hV]; exact (Below.setCell ((Below.setCell ((Below.setCell ((Below.setCell ((Below.setCell ((Below.setCell ((Below.setCell ((Below.setCell ((Below.setCell (hBl) (p := ⟨w.heap.size, 0, none⟩) (Nat.le_refl _) (.int .i64 a.covered))) (p := ⟨w.heap.size, 1, none⟩) (Nat.le_refl _) (.int .i64 a.alg))) (p := ⟨w.heap.size, 2, none⟩) (Nat.le_refl _) (.int .i64 a.labels))) (p := ⟨w.heap.size, 3, none⟩) (Nat.le_refl _) (.int .i64 a.ttl))) (p := ⟨w.heap.size, 4, none⟩) (Nat.le_refl _) (.int .i64 a.fin))) (p := ⟨w.heap.size, 5, none⟩) (Nat.le_refl _) (.int .i64 a.start))) (p := ⟨w.heap.size, 6, none⟩) (Nat.le_refl _) (.int .i64 a.tag))) (p := ⟨w.heap.size, 7, none⟩) (Nat.le_refl _) (.string a.signer))) (p := ⟨w.heap.size, 8, none⟩) (Nat.le_refl _) (.string a.sign))
    have cA : ∀ i, w1.cell? ⟨w.heap.size, i, none⟩ = #[.int .i64 0, .int .i64 0, .int .i64 0, .int .i64 0, .int .i64 0, .int .i64 0, .int .i64 0, .string ⟨#[]⟩, .string ⟨#[]⟩][i]? := fun i => by simp [World.cell?, hA]
    have fA : ∀ i, w1.frozen? ⟨w.heap.size, i, none⟩ = false := fun i => by simp [World.frozen?, hA]
    have cF : ∀ i, V.cell? ⟨w.heap.size, i, none⟩ = #[.int .i64 a.covered, .int .i64 a.alg, .int .i64 a.labels, .int .i64 a.ttl, .int .i64 a.fin, .int .i64 a.start, .int .i64 a.tag, .string a.signer, .string a.sign][i]? := fun i => by simp [World.cell?, hAV]
    have HV := Lib.hid (And.intro hAV hBV); clear hAV hBV hA hBl
    have CF := Lib.hid cF; clear cF
    go_wp2_with fail
    rw [← hV]
    clear hV cA fA
    have cF := CF.out
    refine bodyPost_ret (v := .tuple #[.agg #[.int .i64 a.covered, .int .i64 a.alg, .int .i64 a.labels, .int .i64 a.ttl, .int .i64 a.fin, .int .i64 a.start, .int .i64 a.tag, .string a.signer, .string a.sign], .int .i64 0]) (by simp [results, Tryz.results17, go_sem, cF]) rfl ?_
    exact ⟨⟨_, rfl, rfl⟩, HV.out.2⟩

set_option maxRecDepth 100000 in
set_option maxHeartbeats 2000000 in
theorem soa_any (s : ByteArray) (w : World) : Calls Tryz.prog 15 #[.string s] w (TakePostR (soaR) (.agg #[.string ⟨#[]⟩, .string ⟨#[]⟩, .int .i64 0, .int .i64 0, .int .i64 0, .int .i64 0, .int .i64 0]) w (wholeOf s (takeSoa s))) := by
  obtain ⟨P, hP⟩ : ∃ P, P = wholeOf s (takeSoa s) := ⟨_, rfl⟩
  have c := take56_any s (w.alloc (.cells #[.string ⟨#[]⟩, .string ⟨#[]⟩, .int .i64 0, .int .i64 0, .int .i64 0, .int .i64 0, .int .i64 0] 30))
  rw [← hP] at c ⊢
  clear hP
  have C := Lib.hid c; clear c
  go_enter Tryz.func15, Tryz.ntmps15
  go_wp2_with fail
  refine C.out.mono ?_
  intro e w1 hp
  clear C
  have hN := World.alloc_heap_new w (.cells #[.string ⟨#[]⟩, .string ⟨#[]⟩, .int .i64 0, .int .i64 0, .int .i64 0, .int .i64 0, .int .i64 0] 30)
  cases P with
  | none =>
    obtain ⟨rfl, hb⟩ := hp
    have hA : w1.heap[w.heap.size]? = some (.cells #[.string ⟨#[]⟩, .string ⟨#[]⟩, .int .i64 0, .int .i64 0, .int .i64 0, .int .i64 0, .int .i64 0] 30 (0, 0)) := (hb.block _ (by simp)).trans hN
    have hBl : Below w.heap.size w w1 := ((Below.refl _ _).alloc (Nat.le_refl _) _).trans (hb.mono (by simp))
    clear hN hb
    obtain ⟨V, hV⟩ : ∃ V, V = (((((((w1).setCell ⟨w.heap.size, 0, none⟩ (.string ⟨#[]⟩)).setCell ⟨w.heap.size, 1, none⟩ (.string ⟨#[]⟩)).setCell ⟨w.heap.size, 2, none⟩ (.int .i64 0)).setCell ⟨w.heap.size, 3, none⟩ (.int .i64 0)).setCell ⟨w.heap.size, 4, none⟩ (.int .i64 0)).setCell ⟨w.heap.size, 5, none⟩ (.int .i64 0)).setCell ⟨w.heap.size, 6, none⟩ (.int .i64 0) := ⟨_, rfl⟩
    have hAV : V.heap[w.heap.size]? = some (.cells #[.string ⟨#[]⟩, .string ⟨#[]⟩, .int .i64 0, .int .i64 0, .int .i64 0, .int .i64 0, .int .i64 0] 30 (0, 0)) := by rw [hV]; have h := (heap_set ((heap_set ((heap_set ((heap_set ((heap_set ((heap_set ((heap_set (hA) 0 (.string ⟨#[]⟩))) 1 (.string ⟨#[]⟩))) 2 (.int .i64 0))) 3 (.int .i64 0))) 4 (.int .i64 0))) 5 (.int .i64 0))) 6 (.int .i64 0)); simpa using h
    have hBV : Below w.heap.size w V := by rw [hV]; exact (Below.setCell ((Below.setCell ((Below.setCell ((Below.setCell ((Below.setCell ((Below.setCell ((Below.setCell (hBl) (p := ⟨w.heap.size, 0, none⟩) (Nat.le_refl _) (.string ⟨#[]⟩))) (p := ⟨w.heap.size, 1, none⟩) (Nat.le_refl _) (.string ⟨#[]⟩))) (p := ⟨w.heap.size, 2, none⟩) (Nat.le_refl _) (.int .i64 0))) (p := ⟨w.heap.size, 3, none⟩) (Nat.le_refl _) (.int .i64 0))) (p := ⟨w.heap.size, 4, none⟩) (Nat.le_refl _) (.int .i64 0))) (p := ⟨w.heap.size, 5, none⟩) (Nat.le_refl _) (.int .i64 0))) (p := ⟨w.heap.size, 6, none⟩) (Nat.le_refl _) (.int .i64 0))
    have cA : ∀ i, w1.cell? ⟨w.heap.size, i, none⟩ = #[.string ⟨#[]⟩, .string ⟨#[]⟩, .int .i64 0, .int .i64 0, .int .i64 0, .int .i64 0, .int .i64 0][i]? := fun i => by simp [World.cell?, hA]
    have fA : ∀ i, w1.frozen? ⟨w.heap.size, i, none⟩ = false := fun i => by simp [World.frozen?, hA]
    have cF : ∀ i, V.cell? ⟨w.heap.size, i, none⟩ = #[.string ⟨#[]⟩, .string ⟨#[]⟩, .int .i64 0, .int .i64 0, .int .i64 0, .int .i64 0, .int .i64 0][i]? := fun i => by simp [World.cell?, hAV]
    have HV := Lib.hid (And.intro hAV hBV); clear hAV hBV hA hBl
    have CF := Lib.hid cF; clear cF
    go_wp2_with fail
    rw [← hV]
    clear hV cA fA
    have cF := CF.out
    refine bodyPost_ret (v := .tuple #[.agg #[.string ⟨#[]⟩, .string ⟨#[]⟩, .int .i64 0, .int .i64 0, .int .i64 0, .int .i64 0, .int .i64 0], .int .i64 6]) (by simp [results, Tryz.results15, go_sem, cF]) rfl ?_
    exact ⟨rfl, HV.out.2⟩
  | some a =>
    obtain ⟨⟨v, rfl, hR⟩, hb⟩ := hp
    have hA : w1.heap[w.heap.size]? = some (.cells #[.string ⟨#[]⟩, .string ⟨#[]⟩, .int .i64 0, .int .i64 0, .int .i64 0, .int .i64 0, .int .i64 0] 30 (0, 0)) := (hb.block _ (by simp)).trans hN
    have hBl : Below w.heap.size w w1 := ((Below.refl _ _).alloc (Nat.le_refl _) _).trans (hb.mono (by simp))
    clear hN hb
    obtain rfl : v = soaV a := hR
    obtain ⟨V, hV⟩ : ∃ V, V = (((((((w1).setCell ⟨w.heap.size, 0, none⟩ (.string a.primary)).setCell ⟨w.heap.size, 1, none⟩ (.string a.mail)).setCell ⟨w.heap.size, 2, none⟩ (.int .i64 a.serial)).setCell ⟨w.heap.size, 3, none⟩ (.int .i64 a.refresh)).setCell ⟨w.heap.size, 4, none⟩ (.int .i64 a.retry)).setCell ⟨w.heap.size, 5, none⟩ (.int .i64 a.expire)).setCell ⟨w.heap.size, 6, none⟩ (.int .i64 a.minimum) := ⟨_, rfl⟩
    have hAV : V.heap[w.heap.size]? = some (.cells #[.string a.primary, .string a.mail, .int .i64 a.serial, .int .i64 a.refresh, .int .i64 a.retry, .int .i64 a.expire, .int .i64 a.minimum] 30 (0, 0)) := by rw [hV]; have h := (heap_set ((heap_set ((heap_set ((heap_set ((heap_set ((heap_set ((heap_set (hA) 0 (.string a.primary))) 1 (.string a.mail))) 2 (.int .i64 a.serial))) 3 (.int .i64 a.refresh))) 4 (.int .i64 a.retry))) 5 (.int .i64 a.expire))) 6 (.int .i64 a.minimum)); simpa using h
    have hBV : Below w.heap.size w V := by rw [hV]; exact (Below.setCell ((Below.setCell ((Below.setCell ((Below.setCell ((Below.setCell ((Below.setCell ((Below.setCell (hBl) (p := ⟨w.heap.size, 0, none⟩) (Nat.le_refl _) (.string a.primary))) (p := ⟨w.heap.size, 1, none⟩) (Nat.le_refl _) (.string a.mail))) (p := ⟨w.heap.size, 2, none⟩) (Nat.le_refl _) (.int .i64 a.serial))) (p := ⟨w.heap.size, 3, none⟩) (Nat.le_refl _) (.int .i64 a.refresh))) (p := ⟨w.heap.size, 4, none⟩) (Nat.le_refl _) (.int .i64 a.retry))) (p := ⟨w.heap.size, 5, none⟩) (Nat.le_refl _) (.int .i64 a.expire))) (p := ⟨w.heap.size, 6, none⟩) (Nat.le_refl _) (.int .i64 a.minimum))
    have cA : ∀ i, w1.cell? ⟨w.heap.size, i, none⟩ = #[.string ⟨#[]⟩, .string ⟨#[]⟩, .int .i64 0, .int .i64 0, .int .i64 0, .int .i64 0, .int .i64 0][i]? := fun i => by simp [World.cell?, hA]
    have fA : ∀ i, w1.frozen? ⟨w.heap.size, i, none⟩ = false := fun i => by simp [World.frozen?, hA]
    have cF : ∀ i, V.cell? ⟨w.heap.size, i, none⟩ = #[.string a.primary, .string a.mail, .int .i64 a.serial, .int .i64 a.refresh, .int .i64 a.retry, .int .i64 a.expire, .int .i64 a.minimum][i]? := fun i => by simp [World.cell?, hAV]
    have HV := Lib.hid (And.intro hAV hBV); clear hAV hBV hA hBl
    have CF := Lib.hid cF; clear cF
    go_wp2_with fail
    rw [← hV]
    clear hV cA fA
    have cF := CF.out
    refine bodyPost_ret (v := .tuple #[.agg #[.string a.primary, .string a.mail, .int .i64 a.serial, .int .i64 a.refresh, .int .i64 a.retry, .int .i64 a.expire, .int .i64 a.minimum], .int .i64 0]) (by simp [results, Tryz.results15, go_sem, cF]) rfl ?_
    exact ⟨⟨_, rfl, rfl⟩, HV.out.2⟩

set_option maxRecDepth 100000 in
set_option maxHeartbeats 2000000 in
theorem nsec_any (s : ByteArray) (w : World) : Calls Tryz.prog 23 #[.string s] w (TakePostR (nsecR) (.agg #[.string ⟨#[]⟩, .slice none 0 0]) w (wholeOf s (takeNsec s))) := by
  obtain ⟨P, hP⟩ : ∃ P, P = wholeOf s (takeNsec s) := ⟨_, rfl⟩
  have c := take70_any s (w.alloc (.cells #[.string ⟨#[]⟩, .slice none 0 0] 55))
  rw [← hP] at c ⊢
  clear hP
  have C := Lib.hid c; clear c
  go_enter Tryz.func23, Tryz.ntmps23
  go_wp2_with fail
  refine C.out.mono ?_
  intro e w1 hp
  clear C
  have hN := World.alloc_heap_new w (.cells #[.string ⟨#[]⟩, .slice none 0 0] 55)
  cases P with
  | none =>
    obtain ⟨rfl, hb⟩ := hp
    have hA : w1.heap[w.heap.size]? = some (.cells #[.string ⟨#[]⟩, .slice none 0 0] 55 (0, 0)) := (hb.block _ (by simp)).trans hN
    have hBl : Below w.heap.size w w1 := ((Below.refl _ _).alloc (Nat.le_refl _) _).trans (hb.mono (by simp))
    clear hN hb
    obtain ⟨V, hV⟩ : ∃ V, V = ((w1).setCell ⟨w.heap.size, 0, none⟩ (.string ⟨#[]⟩)).setCell ⟨w.heap.size, 1, none⟩ (.slice none 0 0) := ⟨_, rfl⟩
    have hAV : V.heap[w.heap.size]? = some (.cells #[.string ⟨#[]⟩, .slice none 0 0] 55 (0, 0)) := by rw [hV]; have h := (heap_set ((heap_set (hA) 0 (.string ⟨#[]⟩))) 1 (.slice none 0 0)); simpa using h
    have hBV : Below w.heap.size w V := by rw [hV]; exact (Below.setCell ((Below.setCell (hBl) (p := ⟨w.heap.size, 0, none⟩) (Nat.le_refl _) (.string ⟨#[]⟩))) (p := ⟨w.heap.size, 1, none⟩) (Nat.le_refl _) (.slice none 0 0))
    have cA : ∀ i, w1.cell? ⟨w.heap.size, i, none⟩ = #[.string ⟨#[]⟩, .slice none 0 0][i]? := fun i => by simp [World.cell?, hA]
    have fA : ∀ i, w1.frozen? ⟨w.heap.size, i, none⟩ = false := fun i => by simp [World.frozen?, hA]
    have cF : ∀ i, V.cell? ⟨w.heap.size, i, none⟩ = #[.string ⟨#[]⟩, .slice none 0 0][i]? := fun i => by simp [World.cell?, hAV]
    have HV := Lib.hid (And.intro hAV hBV); clear hAV hBV hA hBl
    have CF := Lib.hid cF; clear cF
    go_wp2_with fail
    rw [← hV]
    clear hV cA fA
    have cF := CF.out
    refine bodyPost_ret (v := .tuple #[.agg #[.string ⟨#[]⟩, .slice none 0 0], .int .i64 6]) (by simp [results, Tryz.results23, go_sem, cF]) rfl ?_
    exact ⟨rfl, HV.out.2⟩
  | some a =>
    obtain ⟨⟨v, rfl, hR⟩, hb⟩ := hp
    have hA : w1.heap[w.heap.size]? = some (.cells #[.string ⟨#[]⟩, .slice none 0 0] 55 (0, 0)) := (hb.block _ (by simp)).trans hN
    have hBl : Below w.heap.size w w1 := ((Below.refl _ _).alloc (Nat.le_refl _) _).trans (hb.mono (by simp))
    clear hN hb
    obtain ⟨A', c', rfl, ho⟩ := hR
    have hn := own_ne ho hA (by decide)
    have HOV := Lib.hid (show (((w1).setCell ⟨w.heap.size, 0, none⟩ (.string a.next)).setCell ⟨w.heap.size, 1, none⟩ (.slice A' a.types.length c')).ownsRow w.heap.size 3 1 (.slice A' a.types.length c') a.types.length (ints a.types) by
      have h := own_mono ho (show w.heap.size ≤ (w.alloc (.cells #[.string ⟨#[]⟩, .slice none 0 0] 55)).heap.size by simp)
      replace h := ownsRow_setCell_other h (a := ⟨w.heap.size, 0, none⟩) hn (.string a.next)
      replace h := ownsRow_setCell_other h (a := ⟨w.heap.size, 1, none⟩) hn (.slice A' a.types.length c')
      exact h)
    clear ho hn
    obtain ⟨V, hV⟩ : ∃ V, V = ((w1).setCell ⟨w.heap.size, 0, none⟩ (.string a.next)).setCell ⟨w.heap.size, 1, none⟩ (.slice A' a.types.length c') := ⟨_, rfl⟩
    have hAV : V.heap[w.heap.size]? = some (.cells #[.string a.next, .slice A' a.types.length c'] 55 (0, 0)) := by rw [hV]; have h := (heap_set ((heap_set (hA) 0 (.string a.next))) 1 (.slice A' a.types.length c')); simpa using h
    have hBV : Below w.heap.size w V := by rw [hV]; exact (Below.setCell ((Below.setCell (hBl) (p := ⟨w.heap.size, 0, none⟩) (Nat.le_refl _) (.string a.next))) (p := ⟨w.heap.size, 1, none⟩) (Nat.le_refl _) (.slice A' a.types.length c'))
    have cA : ∀ i, w1.cell? ⟨w.heap.size, i, none⟩ = #[.string ⟨#[]⟩, .slice none 0 0][i]? := fun i => by simp [World.cell?, hA]
    have fA : ∀ i, w1.frozen? ⟨w.heap.size, i, none⟩ = false := fun i => by simp [World.frozen?, hA]
    have cF : ∀ i, V.cell? ⟨w.heap.size, i, none⟩ = #[.string a.next, .slice A' a.types.length c'][i]? := fun i => by simp [World.cell?, hAV]
    have HV := Lib.hid (And.intro hAV hBV); clear hAV hBV hA hBl
    have CF := Lib.hid cF; clear cF
    rw [← hV] at HOV
    go_wp2_with fail
    rw [← hV]
    clear hV cA fA
    have cF := CF.out
    refine bodyPost_ret (v := .tuple #[.agg #[.string a.next, .slice A' a.types.length c'], .int .i64 0]) (by simp [results, Tryz.results23, go_sem, cF]) rfl ?_
    exact ⟨⟨_, rfl, A', c', rfl, HOV.out⟩, HV.out.2⟩

set_option maxRecDepth 100000 in
set_option maxHeartbeats 2000000 in
theorem nsec3_any (s : ByteArray) (w : World) : Calls Tryz.prog 25 #[.string s] w (TakePostR (nsec3R) (.agg #[.int .i64 0, .int .i64 0, .int .i64 0, .string ⟨#[]⟩, .string ⟨#[]⟩, .slice none 0 0]) w (wholeOf s (takeNsec3 s))) := by
  obtain ⟨P, hP⟩ : ∃ P, P = wholeOf s (takeNsec3 s) := ⟨_, rfl⟩
  have c := take74_any s (w.alloc (.cells #[.int .i64 0, .int .i64 0, .int .i64 0, .string ⟨#[]⟩, .string ⟨#[]⟩, .slice none 0 0] 61))
  rw [← hP] at c ⊢
  clear hP
  have C := Lib.hid c; clear c
  go_enter Tryz.func25, Tryz.ntmps25
  go_wp2_with fail
  refine C.out.mono ?_
  intro e w1 hp
  clear C
  have hN := World.alloc_heap_new w (.cells #[.int .i64 0, .int .i64 0, .int .i64 0, .string ⟨#[]⟩, .string ⟨#[]⟩, .slice none 0 0] 61)
  cases P with
  | none =>
    obtain ⟨rfl, hb⟩ := hp
    have hA : w1.heap[w.heap.size]? = some (.cells #[.int .i64 0, .int .i64 0, .int .i64 0, .string ⟨#[]⟩, .string ⟨#[]⟩, .slice none 0 0] 61 (0, 0)) := (hb.block _ (by simp)).trans hN
    have hBl : Below w.heap.size w w1 := ((Below.refl _ _).alloc (Nat.le_refl _) _).trans (hb.mono (by simp))
    clear hN hb
    obtain ⟨V, hV⟩ : ∃ V, V = ((((((w1).setCell ⟨w.heap.size, 0, none⟩ (.int .i64 0)).setCell ⟨w.heap.size, 1, none⟩ (.int .i64 0)).setCell ⟨w.heap.size, 2, none⟩ (.int .i64 0)).setCell ⟨w.heap.size, 3, none⟩ (.string ⟨#[]⟩)).setCell ⟨w.heap.size, 4, none⟩ (.string ⟨#[]⟩)).setCell ⟨w.heap.size, 5, none⟩ (.slice none 0 0) := ⟨_, rfl⟩
    have hAV : V.heap[w.heap.size]? = some (.cells #[.int .i64 0, .int .i64 0, .int .i64 0, .string ⟨#[]⟩, .string ⟨#[]⟩, .slice none 0 0] 61 (0, 0)) := by rw [hV]; have h := (heap_set ((heap_set ((heap_set ((heap_set ((heap_set ((heap_set (hA) 0 (.int .i64 0))) 1 (.int .i64 0))) 2 (.int .i64 0))) 3 (.string ⟨#[]⟩))) 4 (.string ⟨#[]⟩))) 5 (.slice none 0 0)); simpa using h
    have hBV : Below w.heap.size w V := by rw [hV]; exact (Below.setCell ((Below.setCell ((Below.setCell ((Below.setCell ((Below.setCell ((Below.setCell (hBl) (p := ⟨w.heap.size, 0, none⟩) (Nat.le_refl _) (.int .i64 0))) (p := ⟨w.heap.size, 1, none⟩) (Nat.le_refl _) (.int .i64 0))) (p := ⟨w.heap.size, 2, none⟩) (Nat.le_refl _) (.int .i64 0))) (p := ⟨w.heap.size, 3, none⟩) (Nat.le_refl _) (.string ⟨#[]⟩))) (p := ⟨w.heap.size, 4, none⟩) (Nat.le_refl _) (.string ⟨#[]⟩))) (p := ⟨w.heap.size, 5, none⟩) (Nat.le_refl _) (.slice none 0 0))
    have cA : ∀ i, w1.cell? ⟨w.heap.size, i, none⟩ = #[.int .i64 0, .int .i64 0, .int .i64 0, .string ⟨#[]⟩, .string ⟨#[]⟩, .slice none 0 0][i]? := fun i => by simp [World.cell?, hA]
    have fA : ∀ i, w1.frozen? ⟨w.heap.size, i, none⟩ = false := fun i => by simp [World.frozen?, hA]
    have cF : ∀ i, V.cell? ⟨w.heap.size, i, none⟩ = #[.int .i64 0, .int .i64 0, .int .i64 0, .string ⟨#[]⟩, .string ⟨#[]⟩, .slice none 0 0][i]? := fun i => by simp [World.cell?, hAV]
    have HV := Lib.hid (And.intro hAV hBV); clear hAV hBV hA hBl
    have CF := Lib.hid cF; clear cF
    go_wp2_with fail
    rw [← hV]
    clear hV cA fA
    have cF := CF.out
    refine bodyPost_ret (v := .tuple #[.agg #[.int .i64 0, .int .i64 0, .int .i64 0, .string ⟨#[]⟩, .string ⟨#[]⟩, .slice none 0 0], .int .i64 6]) (by simp [results, Tryz.results25, go_sem, cF]) rfl ?_
    exact ⟨rfl, HV.out.2⟩
  | some a =>
    obtain ⟨⟨v, rfl, hR⟩, hb⟩ := hp
    have hA : w1.heap[w.heap.size]? = some (.cells #[.int .i64 0, .int .i64 0, .int .i64 0, .string ⟨#[]⟩, .string ⟨#[]⟩, .slice none 0 0] 61 (0, 0)) := (hb.block _ (by simp)).trans hN
    have hBl : Below w.heap.size w w1 := ((Below.refl _ _).alloc (Nat.le_refl _) _).trans (hb.mono (by simp))
    clear hN hb
    obtain ⟨A', c', rfl, ho⟩ := hR
    have hn := own_ne ho hA (by decide)
    have HOV := Lib.hid (show (((((((w1).setCell ⟨w.heap.size, 0, none⟩ (.int .i64 a.alg)).setCell ⟨w.heap.size, 1, none⟩ (.int .i64 a.flags)).setCell ⟨w.heap.size, 2, none⟩ (.int .i64 a.rounds)).setCell ⟨w.heap.size, 3, none⟩ (.string a.salt)).setCell ⟨w.heap.size, 4, none⟩ (.string a.next)).setCell ⟨w.heap.size, 5, none⟩ (.slice A' a.types.length c')).ownsRow w.heap.size 3 1 (.slice A' a.types.length c') a.types.length (ints a.types) by
      have h := own_mono ho (show w.heap.size ≤ (w.alloc (.cells #[.int .i64 0, .int .i64 0, .int .i64 0, .string ⟨#[]⟩, .string ⟨#[]⟩, .slice none 0 0] 61)).heap.size by simp)
      replace h := ownsRow_setCell_other h (a := ⟨w.heap.size, 0, none⟩) hn (.int .i64 a.alg)
      replace h := ownsRow_setCell_other h (a := ⟨w.heap.size, 1, none⟩) hn (.int .i64 a.flags)
      replace h := ownsRow_setCell_other h (a := ⟨w.heap.size, 2, none⟩) hn (.int .i64 a.rounds)
      replace h := ownsRow_setCell_other h (a := ⟨w.heap.size, 3, none⟩) hn (.string a.salt)
      replace h := ownsRow_setCell_other h (a := ⟨w.heap.size, 4, none⟩) hn (.string a.next)
      replace h := ownsRow_setCell_other h (a := ⟨w.heap.size, 5, none⟩) hn (.slice A' a.types.length c')
      exact h)
    clear ho hn
    obtain ⟨V, hV⟩ : ∃ V, V = ((((((w1).setCell ⟨w.heap.size, 0, none⟩ (.int .i64 a.alg)).setCell ⟨w.heap.size, 1, none⟩ (.int .i64 a.flags)).setCell ⟨w.heap.size, 2, none⟩ (.int .i64 a.rounds)).setCell ⟨w.heap.size, 3, none⟩ (.string a.salt)).setCell ⟨w.heap.size, 4, none⟩ (.string a.next)).setCell ⟨w.heap.size, 5, none⟩ (.slice A' a.types.length c') := ⟨_, rfl⟩
    have hAV : V.heap[w.heap.size]? = some (.cells #[.int .i64 a.alg, .int .i64 a.flags, .int .i64 a.rounds, .string a.salt, .string a.next, .slice A' a.types.length c'] 61 (0, 0)) := by rw [hV]; have h := (heap_set ((heap_set ((heap_set ((heap_set ((heap_set ((heap_set (hA) 0 (.int .i64 a.alg))) 1 (.int .i64 a.flags))) 2 (.int .i64 a.rounds))) 3 (.string a.salt))) 4 (.string a.next))) 5 (.slice A' a.types.length c')); simpa using h
    have hBV : Below w.heap.size w V := by rw [hV]; exact (Below.setCell ((Below.setCell ((Below.setCell ((Below.setCell ((Below.setCell ((Below.setCell (hBl) (p := ⟨w.heap.size, 0, none⟩) (Nat.le_refl _) (.int .i64 a.alg))) (p := ⟨w.heap.size, 1, none⟩) (Nat.le_refl _) (.int .i64 a.flags))) (p := ⟨w.heap.size, 2, none⟩) (Nat.le_refl _) (.int .i64 a.rounds))) (p := ⟨w.heap.size, 3, none⟩) (Nat.le_refl _) (.string a.salt))) (p := ⟨w.heap.size, 4, none⟩) (Nat.le_refl _) (.string a.next))) (p := ⟨w.heap.size, 5, none⟩) (Nat.le_refl _) (.slice A' a.types.length c'))
    have cA : ∀ i, w1.cell? ⟨w.heap.size, i, none⟩ = #[.int .i64 0, .int .i64 0, .int .i64 0, .string ⟨#[]⟩, .string ⟨#[]⟩, .slice none 0 0][i]? := fun i => by simp [World.cell?, hA]
    have fA : ∀ i, w1.frozen? ⟨w.heap.size, i, none⟩ = false := fun i => by simp [World.frozen?, hA]
    have cF : ∀ i, V.cell? ⟨w.heap.size, i, none⟩ = #[.int .i64 a.alg, .int .i64 a.flags, .int .i64 a.rounds, .string a.salt, .string a.next, .slice A' a.types.length c'][i]? := fun i => by simp [World.cell?, hAV]
    have HV := Lib.hid (And.intro hAV hBV); clear hAV hBV hA hBl
    have CF := Lib.hid cF; clear cF
    rw [← hV] at HOV
    go_wp2_with fail
    rw [← hV]
    clear hV cA fA
    have cF := CF.out
    refine bodyPost_ret (v := .tuple #[.agg #[.int .i64 a.alg, .int .i64 a.flags, .int .i64 a.rounds, .string a.salt, .string a.next, .slice A' a.types.length c'], .int .i64 0]) (by simp [results, Tryz.results25, go_sem, cF]) rfl ?_
    exact ⟨⟨_, rfl, A', c', rfl, HOV.out⟩, HV.out.2⟩

end Go.Proofs.YtnllofjjffflkaaGreatDoor
