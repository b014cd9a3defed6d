/- Walk of the taking of a list, with its door for the stop; for every text. -/
import Derived.Test.YtnllofjjffflkaaGreatDoorF1
import Derived.Defers
import Derived.Recover
import Derived.Laws.Pointers
set_option linter.unusedSimpArgs false
set_option linter.unusedVariables false
namespace Go.Proofs.YtnllofjjffflkaaGreatDoor
open Go.RowKit Gp
theorem assert_stop (w : World) : (Instr.typeAssert (.iface 186 (.agg #[])) 20 186 true).run Tryz.prog w = .ok (.tuple #[.agg #[], .bool true]) w := by kernel_rfl
def caughtChain : List PanicEntry := [{ v := .iface 186 (.agg #[]), recovered := true }]
set_option maxRecDepth 100000 in
set_option maxHeartbeats 2000000 in
theorem catch240_stop (A B : Nat) (x y : Value) (w : World) (hx : w.heap[A]? = some (.cells #[x] 89 (0, 0))) (hy : w.heap[B]? = some (.cells #[y] 23 (0, 0))) (hAB : A ≠ B) :
    CallsD Tryz.prog 240 #[.pointer (some ⟨A, 0, none⟩), .pointer (some ⟨B, 0, none⟩)] (.panicking stopChain) w fun e u' w' =>
      e = .returned (.tuple #[]) ∧ u' = .panicking caughtChain ∧
        w' = ((w.setCell ⟨A, 0, none⟩ (.slice none 0 0)).setCell ⟨B, 0, none⟩ (.int .i64 6)).alloc (.cells #[] 186) := by
  have hcx := cell_of_one hx
  have hcy := cell_of_one hy
  refine callsD_of_wpS Tryz.func240 rfl fun c₀ cs hu => ?_
  simp only [Tryz.ntmps240, List.size_toArray, List.length_cons, List.length_nil, Nat.reduceAdd, Nat.reduceSub, Array.replicate_succ, Array.replicate_zero, List.push_toArray, List.append_toArray, List.nil_append, List.cons_append]
  apply wpS_seq
  apply wpS_region
  simp [wpOpsS, go_sem, recoverD, hu, Tryz.ntmps240, Exit.thenS, stopChain]
  refine wpS_of_wp ?_
  have ka := assert_stop w
  have hA : A < w.heap.size := (Array.getElem?_eq_some_iff.1 hx).1
  have hB : B < w.heap.size := (Array.getElem?_eq_some_iff.1 hy).1
  have hfx : w.frozen? ⟨A, 0, none⟩ = false := by simp [World.frozen?, hx]
  have hfy : w.frozen? ⟨B, 0, none⟩ = false := by simp [World.frozen?, hy]
  go_wp2_with fail
  refine ⟨rfl, _, rfl, _, ?_, rfl, rfl, rfl⟩
  simp [results, Tryz.results240, go_sem]
set_option maxRecDepth 100000 in
set_option maxHeartbeats 2000000 in
theorem catch240_idle (A B : Nat) (w : World) :
    CallsD Tryz.prog 240 #[.pointer (some ⟨A, 0, none⟩), .pointer (some ⟨B, 0, none⟩)] .returning w fun e u' w' => e = .returned (.tuple #[]) ∧ u' = .returning ∧ w' = w := by
  refine callsD_of_wpS Tryz.func240 rfl fun c₀ cs hu => ?_
  simp only [Tryz.ntmps240, List.size_toArray, List.length_cons, List.length_nil, Nat.reduceAdd, Nat.reduceSub, Array.replicate_succ, Array.replicate_zero, List.push_toArray, List.append_toArray, List.nil_append, List.cons_append]
  apply wpS_seq
  apply wpS_region
  simp [wpOpsS, go_sem, recoverD, hu, Tryz.ntmps240, Exit.thenS]
  refine wpS_of_wp ?_
  go_wp2_with fail
  refine ⟨rfl, _, ?_, _, ?_, rfl, rfl, rfl⟩
  · rw [← hu]
  · simp [results, Tryz.results240, go_sem]
/-- What the taking of a list comes to. -/
def takeL (s : ByteArray) : Option (List ByteArray) := if s.size ≤ 2000 then textsP s else none
def TakeListPost (l? : Option (List ByteArray)) (w : World) (e : Ending) (w' : World) : Prop :=
  match l? with
  | some l => (∃ v, e = .returned (.tuple #[v, .int .i64 0]) ∧ w'.ownsRow w.heap.size 9 1 v l.length (strs l)) ∧ Below w.heap.size w w'
  | none => e = .returned (.tuple #[.slice none 0 0, .int .i64 6]) ∧ Below w.heap.size w w'
theorem after_catch {A B n : Nat} {x y z u : Value} {t1 t2 : TypeId} {w : World} (o : Obj) (hx : w.heap[A]? = some (.cells #[x] t1 (0, 0))) (hy : w.heap[B]? = some (.cells #[y] t2 (0, 0))) (hAB : A ≠ B) (hA : n ≤ A) (hB : n ≤ B) :
    (((w.setCell ⟨A, 0, none⟩ z).setCell ⟨B, 0, none⟩ u).alloc o).cell? ⟨A, 0, none⟩ = some z ∧ (((w.setCell ⟨A, 0, none⟩ z).setCell ⟨B, 0, none⟩ u).alloc o).cell? ⟨B, 0, none⟩ = some u ∧
      Below n w (((w.setCell ⟨A, 0, none⟩ z).setCell ⟨B, 0, none⟩ u).alloc o) := by
  have hAw : A < w.heap.size := (Array.getElem?_eq_some_iff.1 hx).1
  have hBw : B < w.heap.size := (Array.getElem?_eq_some_iff.1 hy).1
  refine ⟨?_, ?_, ?_⟩
  · refine cell_of_one (t := t1) ?_
    rw [Below.heap_alloc _ _ _ (by simpa [World.size_setCell] using hAw), Below.heap_setCell _ _ _ _ hAB]
    exact one_setCell hx
  · refine cell_of_one (t := t2) ?_
    rw [Below.heap_alloc _ _ _ (by simpa [World.size_setCell] using hBw)]
    refine one_setCell (v := y) ?_
    rw [Below.heap_setCell _ _ _ _ (Ne.symm hAB)]; exact hy
  · exact (((Below.refl n w).setCell (p := ⟨A, 0, none⟩) hA z).setCell (p := ⟨B, 0, none⟩) hB u).alloc (by simp [World.size_setCell]; omega) o
theorem after_done {A B n : Nat} {x y z u : Value} {t1 t2 : TypeId} {w : World} (hx : w.heap[A]? = some (.cells #[x] t1 (0, 0))) (hy : w.heap[B]? = some (.cells #[y] t2 (0, 0))) (hAB : A ≠ B) (hA : n ≤ A) (hB : n ≤ B) :
    (((w.setCell ⟨A, 0, none⟩ z).setCell ⟨A, 0, none⟩ z).setCell ⟨B, 0, none⟩ u).cell? ⟨A, 0, none⟩ = some z ∧ (((w.setCell ⟨A, 0, none⟩ z).setCell ⟨A, 0, none⟩ z).setCell ⟨B, 0, none⟩ u).cell? ⟨B, 0, none⟩ = some u ∧
      Below n w (((w.setCell ⟨A, 0, none⟩ z).setCell ⟨A, 0, none⟩ z).setCell ⟨B, 0, none⟩ u) := by
  refine ⟨?_, ?_, ?_⟩
  · refine cell_of_one (t := t1) ?_
    rw [Below.heap_setCell _ _ _ _ hAB]
    exact one_setCell (one_setCell hx)
  · refine cell_of_one (t := t2) ?_
    refine one_setCell (v := y) ?_
    rw [Below.heap_setCell _ _ _ _ (Ne.symm hAB), Below.heap_setCell _ _ _ _ (Ne.symm hAB)]; exact hy
  · exact (((Below.refl n w).setCell (p := ⟨A, 0, none⟩) hA z).setCell (p := ⟨A, 0, none⟩) hA z).setCell (p := ⟨B, 0, none⟩) hB u
theorem below_of_grown {w W w' : World} {B : Nat} (h : Below w.heap.size w W) (hg : W.grownBy w' (some B)) (hB : w.heap.size ≤ B) : Below w.heap.size w w' :=
  h.grown hg h.size (fun k e => by have : B = k := by simpa using e
                                   omega)
set_option maxRecDepth 100000 in
set_option maxHeartbeats 4000000 in
theorem take200_any (s : ByteArray) (w : World) : Calls Tryz.prog 200 #[.string s, .func (.func 201) #[] #[]] w (TakeListPost (takeL s) w) := by
  have hmf : ∀ (fn : Fn) (first cap : Array Value) (w : World), (Instr.makeFunc fn first cap).run Tryz.prog w = .ok (.func fn first cap) w := fun _ _ _ _ => rfl
  obtain ⟨W, hW⟩ : ∃ W, W = ((w.alloc (.cells #[.slice none 0 0] 89)).alloc (.cells #[.int .i64 0] 23)).alloc (.cells #[.string s] 189) := ⟨_, rfl⟩
  have hsW : W.heap.size = w.heap.size + 3 := by rw [hW]; simp
  have hBW : Below w.heap.size w W := by
    rw [hW]
    exact (((Below.refl _ _).alloc (Nat.le_refl _) _).alloc (by simp) _).alloc (by simp; omega) _
  have hA : W.heap[w.heap.size]? = some (.cells #[.slice none 0 0] 89 (0, 0)) := by
    rw [hW, Below.heap_alloc _ _ _ (by simp; omega), Below.heap_alloc _ _ _ (by simp)]; exact World.alloc_heap_new w _
  have hB : W.heap[w.heap.size + 1]? = some (.cells #[.int .i64 0] 23 (0, 0)) := by
    rw [hW, Below.heap_alloc _ _ _ (by simp)]
    have := World.alloc_heap_new (w.alloc (.cells #[.slice none 0 0] 89)) (.cells #[.int .i64 0] 23)
    rwa [World.size_alloc] at this
  have hC : W.heap[w.heap.size + 1 + 1]? = some (.cells #[.string s] 189 (0, 0)) := by
    rw [hW]
    have := World.alloc_heap_new ((w.alloc (.cells #[.slice none 0 0] 89)).alloc (.cells #[.int .i64 0] 23)) (.cells #[.string s] 189)
    rwa [World.size_alloc, World.size_alloc] at this
  by_cases h2 : s.size ≤ 2000
  · have hL : takeL s = textsP s := by rw [takeL, if_pos h2]
    have hS := texts1_src (w.heap.size + 1 + 1) s W hC (by omega)
    have HL := Lib.hid hL; clear hL
    have HS := Lib.hid hS; clear hS
    have HWB := Lib.hid hBW; clear hBW
    have HABC := Lib.hid (And.intro hA (And.intro hB hC)); clear hA hB hC
    go_enter_defers Tryz.func200, Tryz.ntmps200
    go_wp2_with fail
    rw [show decide ((s.size : Int) ≤ 2000) = true from decide_eq_true (by omega)]
    refine (must_true _ _).mono ?_
    rintro e w1 ⟨rfl, rfl⟩
    go_wp2_with fail
    rw [← hW]
    refine HS.out.mono ?_
    intro e w2 hp
    cases hT : textsP s with
    | none =>
      rw [hT] at hp
      obtain ⟨rfl, hg⟩ := hp
      have hA2 : w2.heap[w.heap.size]? = some (.cells #[.slice none 0 0] 89 (0, 0)) := (hg.block _ (by omega) (fun e => by have := Option.some.inj e; omega)).trans HABC.out.1
      have hB2 : w2.heap[w.heap.size + 1]? = some (.cells #[.int .i64 0] 23 (0, 0)) := (hg.block _ (by omega) (fun e => by have := Option.some.inj e; omega)).trans HABC.out.2.1
      have hsz2 := hg.size
      have HB2 := Lib.hid (below_of_grown HWB.out hg (by omega)); clear hg
      refine leaves_cons (f := 240) (args := #[.pointer (some ⟨w.heap.size, 0, none⟩), .pointer (some ⟨w.heap.size + 1, 0, none⟩)]) (by simp) (by simp [go_sem]) ?_
      refine (catch240_stop _ _ _ _ _ hA2 hB2 (by omega)).mono ?_
      rintro e u' w'' ⟨rfl, rfl, hw⟩
      obtain ⟨c1, c2, c3⟩ := after_catch (n := w.heap.size) (z := .slice none 0 0) (u := .int .i64 6) (.cells #[] 186) hA2 hB2 (by omega) (Nat.le_refl _) (by omega)
      rw [← hw] at c1 c2 c3
      have HR := Lib.hid (HB2.out.trans c3)
      clear hw c3 hA2 hB2
      simp [Leaves, settle, results, Tryz.results200, go_sem, caughtChain, c1, c2]
      rw [HL.out, hT]
      exact ⟨rfl, HR.out⟩
    | some l =>
      rw [hT] at hp
      obtain ⟨⟨v, rfl, ho⟩, hc, hg⟩ := hp
      have hA2 : w2.heap[w.heap.size]? = some (.cells #[.slice none 0 0] 89 (0, 0)) := (hg.block _ (by omega) (fun e => by have := Option.some.inj e; omega)).trans HABC.out.1
      have hB2 : w2.heap[w.heap.size + 1]? = some (.cells #[.int .i64 0] 23 (0, 0)) := (hg.block _ (by omega) (fun e => by have := Option.some.inj e; omega)).trans HABC.out.2.1
      have hsz2 := hg.size
      have HB2 := Lib.hid (below_of_grown HWB.out hg (by omega)); clear hg
      obtain ⟨g, c, rfl⟩ := own_slice ho
      have cA := cell_of_one hA2
      have cB := cell_of_one hB2
      have cC := cell_of_one hc
      have fA : w2.frozen? ⟨w.heap.size, 0, none⟩ = false := by simp [World.frozen?, hA2]
      have fB : w2.frozen? ⟨w.heap.size + 1, 0, none⟩ = false := by simp [World.frozen?, hB2]
      have e1 := ownsRow_setCell_other ho (a := ⟨w.heap.size, 0, none⟩) (fun e => by have := own_from ho _ e; simp at this; omega) (.slice g l.length c)
      have e2 := ownsRow_setCell_other e1 (a := ⟨w.heap.size, 0, none⟩) (fun e => by have := own_from ho _ e; simp at this; omega) (.slice g l.length c)
      have e3 := own_mono (ownsRow_setCell_other e2 (a := ⟨w.heap.size + 1, 0, none⟩) (fun e => by have := own_from ho _ e; simp at this; omega) (.int .i64 0)) (show w.heap.size ≤ W.heap.size by omega)
      obtain ⟨c1, c2, c3⟩ := after_done (n := w.heap.size) (z := .slice g l.length c) (u := .int .i64 0) hA2 hB2 (by omega) (Nat.le_refl _) (by omega)
      have HO := Lib.hid (And.intro e3 (HB2.out.trans c3)); clear ho e1 e2 e3 c3
      clear hA2 hB2 hc
      have H12 := Lib.hid (And.intro c1 c2); clear c1 c2
      go_wp2_with fail
      refine (must_true _ _).mono ?_
      rintro e w3 ⟨rfl, rfl⟩
      go_wp2_with fail
      obtain ⟨W3, hW3⟩ : ∃ W3, W3 = ((w2.setCell ⟨w.heap.size, 0, none⟩ (.slice g l.length c)).setCell ⟨w.heap.size, 0, none⟩ (.slice g l.length c)).setCell ⟨w.heap.size + 1, 0, none⟩ (.int .i64 0) := ⟨_, rfl⟩
      rw [← hW3] at HO H12 ⊢
      have h1 := H12.out.1
      have h2' := H12.out.2
      refine leaves_cons (f := 240) (args := #[.pointer (some ⟨w.heap.size, 0, none⟩), .pointer (some ⟨w.heap.size + 1, 0, none⟩)]) (by simp) (by simp [go_sem]) ?_
      refine (catch240_idle _ _ _).mono ?_
      rintro e u' w'' ⟨rfl, rfl, rfl⟩
      clear hW3
      simp [Leaves, settle, results, Tryz.results200, go_sem, h1, h2']
      rw [HL.out, hT]
      exact ⟨⟨_, rfl, HO.out.1⟩, HO.out.2⟩
  · have hL : takeL s = none := by rw [takeL, if_neg h2]
    have HL := Lib.hid hL; clear hL
    have HWB := Lib.hid hBW; clear hBW
    have HABC := Lib.hid (And.intro hA (And.intro hB hC)); clear hA hB hC
    go_enter_defers Tryz.func200, Tryz.ntmps200
    go_wp2_with fail
    rw [show decide ((s.size : Int) ≤ 2000) = false from decide_eq_false (by omega)]
    refine (must_false _ _).mono ?_
    rintro e w1 ⟨rfl, rfl⟩
    rw [← hW]
    refine leaves_cons (f := 240) (args := #[.pointer (some ⟨w.heap.size, 0, none⟩), .pointer (some ⟨w.heap.size + 1, 0, none⟩)]) (by simp) (by simp [go_sem]) ?_
    refine (catch240_stop _ _ _ _ _ HABC.out.1 HABC.out.2.1 (by omega)).mono ?_
    rintro e u' w'' ⟨rfl, rfl, hw⟩
    obtain ⟨c1, c2, c3⟩ := after_catch (n := w.heap.size) (z := .slice none 0 0) (u := .int .i64 6) (.cells #[] 186) HABC.out.1 HABC.out.2.1 (by omega) (Nat.le_refl _) (by omega)
    rw [← hw] at c1 c2 c3
    have HR := Lib.hid (HWB.out.trans c3)
    clear hw c3
    simp [Leaves, settle, results, Tryz.results200, go_sem, caughtChain, c1, c2]
    rw [HL.out]
    exact ⟨rfl, HR.out⟩
end Go.Proofs.YtnllofjjffflkaaGreatDoor
