/- Walk of rise: numbers become types that rise. -/
import Derived.Test.YtnllofjjffflkaaGreatDoorK1
import Derived.Test.YtnllofjjffflkaaGreatDoorB1
import Derived.Laws.AppendOwnNone
set_option linter.unusedSimpArgs false
set_option linter.unusedVariables false
namespace Gp
/-- Types that rise. -/
def Rising (R : List Nat) : Prop := (∀ t ∈ R, t < 65536) ∧ R.Pairwise (· < ·)
theorem rising_nil : Rising [] := ⟨fun t h => by simp at h, List.Pairwise.nil⟩
theorem rising_put {R : List Nat} {n k : Nat} (h : Rising R) (hn : n < 65536) (hk : k ≤ R.length) (h1 : ∀ j (hj : j < R.length), j < k → R[j] < n) (h2 : ∀ hj : k < R.length, n < R[k]) : Rising (R.take k ++ [n] ++ R.drop k) := by
  constructor
  · intro t ht
    simp only [List.mem_append, List.mem_singleton] at ht
    rcases ht with (h3 | rfl) | h3
    · exact h.1 t (List.mem_of_mem_take h3)
    · exact hn
    · exact h.1 t (List.mem_of_mem_drop h3)
  · have ha : ∀ t ∈ R.take k, t < n := by
      intro t ht
      obtain ⟨j, hj, rfl⟩ := List.getElem_of_mem ht
      rw [List.getElem_take]
      rw [List.length_take] at hj
      exact h1 j (by omega) (by omega)
    have hb : ∀ t ∈ R.drop k, n < t := by
      intro t ht
      obtain ⟨j, hj, rfl⟩ := List.getElem_of_mem ht
      rw [List.getElem_drop]
      rw [List.length_drop] at hj
      have h3 := h2 (by omega)
      rcases Nat.eq_zero_or_pos j with rfl | h0
      · simpa using h3
      · have := List.pairwise_iff_getElem.1 h.2 k (k + j) (by omega) (by omega) (by omega)
        omega
    rw [List.pairwise_append]
    refine ⟨?_, h.2.sublist (List.drop_sublist _ _), ?_⟩
    · rw [List.pairwise_append]
      refine ⟨h.2.sublist (List.take_sublist _ _), by simp, fun x hx y hy => ?_⟩
      rw [List.mem_singleton] at hy; subst hy; exact ha x hx
    · intro x hx y hy
      have hy' := hb y hy
      rcases List.mem_append.1 hx with h3 | h3
      · have := ha x h3; omega
      · rw [List.mem_singleton] at h3; omega
end Gp
namespace Go.Proofs.YtnllofjjffflkaaGreatDoor
open Go.RowKit Gp
set_option maxRecDepth 100000 in
theorem wpList_append_more {w : World} {ops : Array Oper} {rest : List Oper} {o : Oper} {a : Act} {Q : Exit → Act → World → Prop} (hgd : o.guard = none) (s x : Operand)
    (ho : o.op = .call { callee := .builtin .append, args := #[s, x], argTypes := #[53, 53] })
    (base : Nat) (v : Value) (l : List Int) (A : Option Addr) (c : Nat) (l2 : List Int) (n2 : Nat) (hn2 : l2.length = n2) (hs : a.eval s = v) (hx : a.eval x = .slice A n2 c) (hc : A = none → c = 0)
    (hown : w.ownsRow base 3 1 v l.length (ints l)) (hb : base ≤ w.heap.size) (hI : Ints w w.heap.size A l2) (hl : l.length + l2.length ≤ 1073741824)
    (h : ∀ v' w', w'.ownsRow base 3 1 v' (l ++ l2).length (ints (l ++ l2)) → w.grownBy w' v.ownBlock → wpList Tryz.prog ops Q rest (a.put o.dst v') w') : wpList Tryz.prog ops Q (o :: rest) a w := by
  obtain ⟨i0, hi0, hz0, hz1, hz2⟩ := info_parts info3
  subst hn2
  rcases A with _ | ad
  · have hn : l2 = [] := by
      cases l2 with
      | nil => rfl
      | cons y r =>
        obtain ⟨ad, e, _⟩ := hI 0 (by simp)
        cases e
    subst hn
    obtain rfl := hc rfl
    refine wpList_append_own_none hgd s x 53 ho base 3 i0 1 Tryz.underlying53 hi0 v l.length (ints l) hs hown hx ?_
    exact h _ _ (by rw [List.append_nil]; exact hown) (World.grownBy.refl _ _)
  · refine wpList_append_own w hgd s x 53 ho base 3 i0 (.int .i64 0) 1 8 Tryz.underlying53 hi0 hz0 hz1 hz2 rfl (by decide) v l.length (ints l) hs hown ad l2.length c (ints l2) hx (by simp [ints]) ?_ ?_ ?_ ?_ hb ?_
    · intro j u hu
      obtain ⟨hj, rfl⟩ := ints_get hu
      obtain ⟨ad', e, _, hcc⟩ := hI j hj
      obtain rfl : ad' = ad := by injection e with e; exact e.symm
      exact hcc
    · intro u hu
      unfold ints at hu
      obtain ⟨y, _, rfl⟩ := List.mem_map.1 hu
      simp [Value.oneCell']
    · unfold maxLen; omega
    · omega
    · intro v' w' h2 h3 _
      exact h v' w' (by rw [List.length_append, ints_append]; exact h2) h3
theorem own_shape2 {w : World} {base n : Nat} {v : Value} {xs : List Value} (h : w.ownsRow base 3 1 v n xs) : (v = .slice none 0 0 ∧ n = 0) ∨ ∃ g c, v = .slice (some ⟨g, 0, none⟩) n c ∧ n ≤ c ∧ g < w.heap.size := by
  rcases h.2 with h1 | ⟨g, cap, cur, e, _, hg, hn, _⟩
  · exact .inl h1
  · exact .inr ⟨g, cap, e, hn, (Array.getElem?_eq_some_iff.1 hg).1⟩
theorem add_flat (g k : Nat) : (⟨g, 0, none⟩ : Addr).add k = ⟨g, k, none⟩ := by unfold Addr.add; split <;> simp_all
theorem Ints.nil (w : World) (B : Nat) (A : Option Addr) : Ints w B A [] := fun k hk => by simp at hk
theorem Ints.one (w : World) (m : Int) : Ints (w.alloc (.cells #[.int .i64 m] 3)) (w.alloc (.cells #[.int .i64 m] 3)).heap.size (some ⟨w.heap.size, 0, none⟩) [m] := fun k hk => by
  obtain rfl : k = 0 := by simpa using hk
  exact ⟨_, rfl, by simp, cell_one_new _ _ _ 0 _ rfl⟩
theorem Ints.take {w : World} {B : Nat} {A : Option Addr} {l : List Int} (h : Ints w B A l) (n : Nat) : Ints w B A (l.take n) := fun k hk => by
  rw [List.length_take] at hk
  obtain ⟨ad, e, h1, h2⟩ := h k (by omega)
  refine ⟨ad, e, h1, ?_⟩
  rw [h2, iAt, iAt, List.getD_eq_getElem?_getD, List.getD_eq_getElem?_getD, List.getElem?_take, if_pos (by omega)]
theorem Ints.drop {w : World} {B : Nat} {g : Nat} {l : List Int} (h : Ints w B (some ⟨g, 0, none⟩) l) (n : Nat) : Ints w B (some ⟨g, n, none⟩) (l.drop n) := fun k hk => by
  rw [List.length_drop] at hk
  obtain ⟨ad, e, h1, h2⟩ := h (n + k) (by omega)
  obtain rfl : ad = ⟨g, 0, none⟩ := by injection e with e; exact e.symm
  refine ⟨_, rfl, h1, ?_⟩
  have e2 : (⟨g, n, none⟩ : Addr).add k = (⟨g, 0, none⟩ : Addr).add (n + k) := by rw [add_flat]; unfold Addr.add; split <;> simp_all
  rw [e2, h2, iAt, iAt, List.getD_eq_getElem?_getD, List.getD_eq_getElem?_getD, List.getElem?_drop]
theorem iAt_mem (l : List Int) (i : Nat) (h : i < l.length) : iAt l i ∈ l := by
  rw [iAt, List.getD_eq_getElem?_getD, List.getElem?_eq_getElem h]; exact List.getElem_mem h
theorem take_len {R : List Nat} {k : Nat} (hk : k ≤ R.length) : ((intsOf R).take k).length = k := by rw [List.length_take, intsOf_length]; omega
theorem drop_len (R : List Nat) (k : Nat) : ((intsOf R).drop k).length = R.length - k := by rw [List.length_drop, intsOf_length]
theorem rise_ints (R : List Nat) (m k : Nat) : intsOf (R.take k ++ [m] ++ R.drop k) = (intsOf R).take k ++ [(m : Int)] ++ (intsOf R).drop k := by simp [intsOf, List.map_take, List.map_drop]
theorem own_lower {w : World} {b b' : Nat} {e : TypeId} {z n : Nat} {v : Value} {xs : List Value} (h : w.ownsRow b e z v n xs) (hb : b' ≤ b) : w.ownsRow b' e z v n xs := by
  refine ⟨h.1, ?_⟩
  rcases h.2 with h1 | ⟨g, cap, cur, e, h2, h3⟩
  · exact .inl h1
  · exact .inr ⟨g, cap, cur, e, Nat.le_trans hb h2, h3⟩
theorem drop_all (R : List Nat) : (intsOf R).drop R.length = [] := by rw [List.drop_eq_nil_iff, intsOf_length]; exact Nat.le_refl _
theorem own_ints {w : World} {base g c : Nat} {R : List Nat} (h : w.ownsRow base 3 1 (.slice (some ⟨g, 0, none⟩) R.length c) R.length (ints (intsOf R))) : Ints w w.heap.size (some ⟨g, 0, none⟩) (intsOf R) :=
  Ints.of_own (A := some ⟨g, 0, none⟩) (c := c) (l := intsOf R) (by rw [intsOf_length]; exact h)
theorem rise_at {R : List Nat} {m k : Nat} (hm : m < 65536) (hR : Rising R) (hk : k ≤ R.length) (h1 : ∀ j, j < k → iAt (intsOf R) j < (m : Int)) (h2 : k < R.length → (m : Int) < iAt (intsOf R) k) : Rising (R.take k ++ [m] ++ R.drop k) := by
  refine rising_put hR hm hk (fun j hj hjk => ?_) (fun hj => ?_)
  · have := h1 j hjk; rw [iAt_intsOf R j hj] at this; omega
  · have := h2 hj; rw [iAt_intsOf R k hj] at this; omega
theorem rise_first {w wr : World} {i m : Nat} (hm : m < 65536) (hB : Below w.heap.size w wr) : Rising [m] ∧ ((wr.alloc (Obj.cells #[Value.int IntKind.i64 ↑m] 3)).alloc (Obj.cells (#[Value.int IntKind.i64 ↑m] ++ Builtin.zeroCells #[Value.int IntKind.i64 0] ((Question.appendCap 1 0 3).cut (wr.tape wr.drawn (Question.appendCap 1 0 3)) - 1)) 3)).drew.ownsRow w.heap.size 3 1
      (Value.slice (some { block := wr.heap.size + 1, off := 0 }) 1 ((Question.appendCap 1 0 3).cut (wr.tape wr.drawn (Question.appendCap 1 0 3)))) 1 (ints (intsOf [m])) ∧
    Below w.heap.size w ((wr.alloc (Obj.cells #[Value.int IntKind.i64 ↑m] 3)).alloc (Obj.cells (#[Value.int IntKind.i64 ↑m] ++ Builtin.zeroCells #[Value.int IntKind.i64 0] ((Question.appendCap 1 0 3).cut (wr.tape wr.drawn (Question.appendCap 1 0 3)) - 1)) 3)).drew := by
  have hc1 : 1 ≤ (Question.appendCap 1 0 3).cut (wr.tape wr.drawn (Question.appendCap 1 0 3)) := grownCap_ge wr 1 0 3
  have hc2 : (Question.appendCap 1 0 3).cut (wr.tape wr.drawn (Question.appendCap 1 0 3)) ≤ maxLen := grownCap_le_maxLen wr 1 0 3 (by unfold maxLen; omega)
  generalize (Question.appendCap 1 0 3).cut (wr.tape wr.drawn (Question.appendCap 1 0 3)) = cap at hc1 hc2 ⊢
  have hs := hB.size
  refine ⟨⟨fun t ht => by rw [List.mem_singleton] at ht; omega, List.pairwise_singleton _ _⟩, ⟨rfl, .inr ⟨wr.heap.size + 1, cap, #[Value.int IntKind.i64 ↑m] ++ Builtin.zeroCells #[Value.int IntKind.i64 0] (cap - 1), rfl, by omega, ?_, hc1, hc2, ?_, ?_⟩⟩, ?_⟩
  · have e : wr.heap.size + 1 = (wr.alloc (Obj.cells #[Value.int IntKind.i64 ↑m] 3)).heap.size := by simp
    rw [e]
    exact World.alloc_heap_new _ _
  · rw [Array.size_append, size_zeroCells]; simp; omega
  · simp [ints, intsOf]
  · have h := (hB.alloc hs (Obj.cells #[Value.int IntKind.i64 ↑m] 3)).alloc (by simp; omega) (Obj.cells (#[Value.int IntKind.i64 ↑m] ++ Builtin.zeroCells #[Value.int IntKind.i64 0] (cap - 1)) 3)
    exact ⟨h.os, h.tape, h.output, h.size, h.block⟩
theorem tmod_nat (x : Int) (h : 0 ≤ x) : ∃ m : Nat, m < 65536 ∧ x.tmod 65536 = (m : Int) := by
  refine ⟨(x % 65536).toNat, by omega, ?_⟩
  rw [Int.tmod_eq_emod_of_nonneg h]; omega
set_option maxRecDepth 100000 in
set_option maxHeartbeats 8000000 in
theorem rise_own (A : Option Addr) (c : Nat) (l : List Int) (w : World) (hI : Ints w w.heap.size A l) (hl : l.length ≤ 1073741824) (hr : ∀ n ∈ l, I64 n) :
    Calls Tryz.prog 42 #[.slice A l.length c] w fun e w' => ∃ (v : Value) (R : List Nat), e = .returned v ∧ Rising R ∧ R.length ≤ l.length ∧ w'.ownsRow w.heap.size 3 1 v R.length (ints (intsOf R)) ∧ Below w.heap.size w w' := by
  have HI := Lib.hid hI; clear hI
  go_enter Tryz.func42, Tryz.ntmps42
  go_wp2_with fail
  go_loopw [3, 4] (fun ov iv wr => ∃ (i : Nat) (R : List Nat), i ≤ l.length ∧ iv = .int .i64 (i : Int) ∧ Rising R ∧ R.length ≤ i ∧ wr.ownsRow w.heap.size 3 1 ov R.length (ints (intsOf R)) ∧ Below w.heap.size w wr) (fun _ v _ => l.length - (intOf v).toNat)
  case atStart => exact ⟨0, [], by omega, rfl, rising_nil, by simp, World.ownsRow_nil _ _ _ _, Below.refl _ _⟩
  case round =>
    obtain ⟨i, R, hi, rfl, hR, hRi, hown, hB⟩ := hrel
    by_cases hlt : i < l.length
    · obtain ⟨ad, rfl, hab, hcell0⟩ := HI.out i hlt
      have hcell := (hB.cell (p := ad.add i) (by rw [add_block]; exact hab)).trans hcell0
      clear hcell0
      have hn64 : I64 (iAt l i) := hr _ (iAt_mem l i hlt)
      obtain ⟨n, hn⟩ : ∃ n, n = iAt l i := ⟨_, rfl⟩
      rw [← hn] at hcell hn64
      clear hn
      unfold I64 at hn64
      rcases own_shape2 hown with ⟨rfl, hn0⟩ | ⟨g, cp, rfl, hnc, hg⟩
      · have HH := Lib.hid (And.intro hown (And.intro hB hR)); clear hown hB hR
        rcases Int.lt_or_le n 0 with hneg | hneg
        · obtain ⟨m, hm, hmod⟩ := tmod_nat (-(n + 1)) (by omega)
          have HF := Lib.hid (rise_first (i := i) (m := m) hm HH.out.2.1); clear HH
          have hc1 : 1 ≤ (Question.appendCap 1 0 3).cut (wr.tape wr.drawn (Question.appendCap 1 0 3)) := grownCap_ge wr 1 0 3
          go_wp2_with fail
          go_loopw [6] (fun av wq => av = .int .i64 0 ∧ wq = wr) (fun _ _ => 0)
          case atStart => exact ⟨rfl, rfl⟩
          case round =>
            obtain ⟨rfl, rfl⟩ := hrel
            go_wp2_with fail
            exact ⟨⟨i + 1, [m], by omega, by go_num, HF.out.1, by simp, HF.out.2.1, HF.out.2.2⟩, by simp [intOf]; omega⟩
        · obtain ⟨m, hm, hmod⟩ := tmod_nat n hneg
          have HF := Lib.hid (rise_first (i := i) (m := m) hm HH.out.2.1); clear HH
          have hc1 : 1 ≤ (Question.appendCap 1 0 3).cut (wr.tape wr.drawn (Question.appendCap 1 0 3)) := grownCap_ge wr 1 0 3
          go_wp2_with fail
          go_loopw [6] (fun av wq => av = .int .i64 0 ∧ wq = wr) (fun _ _ => 0)
          case atStart => exact ⟨rfl, rfl⟩
          case round =>
            obtain ⟨rfl, rfl⟩ := hrel
            go_wp2_with fail
            exact ⟨⟨i + 1, [m], by omega, by go_num, HF.out.1, by simp, HF.out.2.1, HF.out.2.2⟩, by simp [intOf]; omega⟩
      · have HH := Lib.hid (And.intro hown (And.intro hB hR)); clear hown hB hR
        rcases Int.lt_or_le n 0 with hneg | hneg
        · obtain ⟨m, hm, hmod⟩ := tmod_nat (-(n + 1)) (by omega)
          go_wp2_with fail
          go_loopw [6] (fun av wq => ∃ k : Nat, k ≤ R.length ∧ av = .int .i64 (k : Int) ∧ (∀ j, j < k → iAt (intsOf R) j < (m : Int)) ∧ wq = wr) (fun av _ => R.length - (intOf av).toNat)
          case atStart => exact ⟨0, by omega, rfl, fun j hj => by omega, rfl⟩
          case round =>
            obtain ⟨k, hk, rfl, hjk, rfl⟩ := hrel
            have HJ := Lib.hid hjk; clear hjk
            by_cases hkl : k < R.length
            · have hIR := Ints.of_own (A := some ⟨g, 0, none⟩) (c := cp) (l := intsOf R) (by rw [intsOf_length]; exact HH.out.1)
              obtain ⟨ad2, he2, _, hcr⟩ := hIR k (by rw [intsOf_length]; exact hkl)
              obtain rfl : ad2 = ⟨g, 0, none⟩ := by injection he2 with e; exact e.symm
              rw [add_flat] at hcr
              clear he2 hIR
              obtain ⟨r, hr⟩ : ∃ r, r = iAt (intsOf R) k := ⟨_, rfl⟩
              rw [← hr] at hcr
              have Hr := Lib.hid hr; clear hr
              rcases Int.lt_or_le r (m : Int) with hrm | hrm
              · go_wp2_with fail
                go_roundw
                case rel =>
                  refine ⟨k + 1, by omega, by go_num, fun j hj => ?_, trivial⟩
                  rcases Nat.lt_succ_iff_lt_or_eq.1 hj with h | rfl
                  · exact HJ.out j h
                  · rw [← Hr.out]; exact hrm
                case measure => simp [intOf]; omega
              · by_cases hre : r = (m : Int)
                · have HB := Lib.hid (show R.length ≤ i + 1 by omega)
                  go_wp2_with fail
                  exact ⟨⟨i + 1, R, by omega, by go_num, HH.out.2.2, HB.out, HH.out.1, HH.out.2.1⟩, by simp [intOf]; omega⟩
                · have HR := Lib.hid (rise_at hm HH.out.2.2 hk HJ.out (fun _ => by rw [← Hr.out]; omega))
                  have HI1 := Lib.hid (own_ints HH.out.1); 
                  go_wp2_with (at_builtin; go_loud (refine wpList_append_more rfl _ _ rfl wr.heap.size _ [] (some ⟨g, 0, none⟩) cp ((intsOf R).take k) k (take_len hk) rfl rfl (fun e => by cases e) (World.ownsRow_nil wr wr.heap.size 3 1) (Nat.le_refl _) (HI1.out.take _) (by rw [take_len hk]; simp; omega) ?_))
                  intro v1 w1 h1 g1
                  have b1 := (Below.refl wr.heap.size wr).grown g1 (Nat.le_refl _) (fun k e => by cases e)
                  have h1' : w1.ownsRow wr.heap.size 3 1 v1 ((intsOf R).take k).length (ints ((intsOf R).take k)) := by simpa using h1
                  have HP := Lib.hid (And.intro h1' b1); clear b1 g1 h1 h1'
                  go_wp2_with (at_builtin; go_loud (refine wpList_append_more rfl _ _ rfl wr.heap.size _ ((intsOf R).take k) (some ⟨w1.heap.size, 0, none⟩) 1 [(m : Int)] 1 rfl rfl rfl (fun e => by cases e) (HP.out.1.alloc _) (by have := HP.out.2.size; simp; omega) (Ints.one _ _) (by rw [take_len hk]; simp; omega) ?_))
                  intro v2 w2 h2 g2
                  have b2 := (HP.out.2.alloc HP.out.2.size _).grown g2 (by have := HP.out.2.size; simp; omega) (fun k e => own_from HP.out.1 k e)
                  have h2' : w2.ownsRow wr.heap.size 3 1 v2 ((intsOf R).take k ++ [(m : Int)]).length (ints ((intsOf R).take k ++ [(m : Int)])) := by simpa using h2
                  have HQ := Lib.hid (And.intro h2' b2); clear h2 h2' g2 b2 HP
                  go_wp2_with (at_builtin; refine wpList_append_more rfl _ _ rfl wr.heap.size _ ((intsOf R).take k ++ [(m : Int)]) (some ⟨g, k, none⟩) (cp - k) ((intsOf R).drop k) (R.length - k) (drop_len _ _) rfl rfl (fun e => by cases e) HQ.out.1 HQ.out.2.size (((HI1.out.drop _).below HQ.out.2).more HQ.out.2.size) (by rw [drop_len]; simp; omega) ?_)
                  intro v3 w3 h3 g3
                  have h3' : w3.ownsRow wr.heap.size 3 1 v3 (R.take k ++ [m] ++ R.drop k).length (ints (intsOf (R.take k ++ [m] ++ R.drop k))) := by
                    rw [← intsOf_length (R.take k ++ [m] ++ R.drop k), rise_ints]
                    simpa using h3
                  have b3 := HQ.out.2.grown g3 HQ.out.2.size (fun k e => own_from HQ.out.1 k e)
                  have b4 := HH.out.2.1.trans (b3.mono HH.out.2.1.size)
                  have HS := Lib.hid (And.intro (own_lower h3' HH.out.2.1.size) b4); clear h3 h3' g3 b3 b4 HQ
                  have HL := Lib.hid (show (R.take k ++ [m] ++ R.drop k).length ≤ i + 1 by rw [List.length_append, List.length_append, List.length_take, List.length_drop]; simp; omega)
                  go_wp2_with fail
                  go_roundw
                  case rel => exact ⟨i + 1, R.take k ++ [m] ++ R.drop k, by omega, by go_num, HR.out, HL.out, HS.out.1, HS.out.2⟩
                  case measure => simp [intOf]; omega
            · obtain rfl : k = R.length := by omega
              have HR := Lib.hid (rise_at hm HH.out.2.2 hk HJ.out (fun h => absurd h hkl))
              have HI1 := Lib.hid (own_ints HH.out.1); 
              go_wp2_with (at_builtin; go_loud (refine wpList_append_more rfl _ _ rfl wr.heap.size _ [] (some ⟨g, 0, none⟩) cp ((intsOf R).take R.length) R.length (take_len hk) rfl rfl (fun e => by cases e) (World.ownsRow_nil wr wr.heap.size 3 1) (Nat.le_refl _) (HI1.out.take _) (by rw [take_len hk]; simp; omega) ?_))
              intro v1 w1 h1 g1
              have b1 := (Below.refl wr.heap.size wr).grown g1 (Nat.le_refl _) (fun k e => by cases e)
              have h1' : w1.ownsRow wr.heap.size 3 1 v1 ((intsOf R).take R.length).length (ints ((intsOf R).take R.length)) := by simpa using h1
              have HP := Lib.hid (And.intro h1' b1); clear b1 g1 h1 h1'
              go_wp2_with (at_builtin; go_loud (refine wpList_append_more rfl _ _ rfl wr.heap.size _ ((intsOf R).take R.length) (some ⟨w1.heap.size, 0, none⟩) 1 [(m : Int)] 1 rfl rfl rfl (fun e => by cases e) (HP.out.1.alloc _) (by have := HP.out.2.size; simp; omega) (Ints.one _ _) (by rw [take_len hk]; simp; omega) ?_))
              intro v2 w2 h2 g2
              have b2 := (HP.out.2.alloc HP.out.2.size _).grown g2 (by have := HP.out.2.size; simp; omega) (fun k e => own_from HP.out.1 k e)
              have h2' : w2.ownsRow wr.heap.size 3 1 v2 ((intsOf R).take R.length ++ [(m : Int)]).length (ints ((intsOf R).take R.length ++ [(m : Int)])) := by simpa using h2
              have HQ := Lib.hid (And.intro h2' b2); clear h2 h2' g2 b2 HP
              go_wp2_with (at_builtin; go_loud (refine wpList_append_more rfl _ _ rfl wr.heap.size _ ((intsOf R).take R.length ++ [(m : Int)]) _ _ [] 0 rfl rfl rfl (fun e => by split at e <;> cases e) HQ.out.1 HQ.out.2.size (Ints.nil _ _ _) (by simp; omega) ?_))
              all_goals
                intro v3 w3 h3 g3
                have h3' : w3.ownsRow wr.heap.size 3 1 v3 (R.take R.length ++ [m] ++ R.drop R.length).length (ints (intsOf (R.take R.length ++ [m] ++ R.drop R.length))) := by
                  rw [← intsOf_length (R.take R.length ++ [m] ++ R.drop R.length), rise_ints]
                  rw [drop_all]; simpa using h3
                have b3 := HQ.out.2.grown g3 HQ.out.2.size (fun k e => own_from HQ.out.1 k e)
                have b4 := HH.out.2.1.trans (b3.mono HH.out.2.1.size)
                have HS := Lib.hid (And.intro (own_lower h3' HH.out.2.1.size) b4); clear h3 h3' g3 b3 b4 HQ
                have HL := Lib.hid (show (R.take R.length ++ [m] ++ R.drop R.length).length ≤ i + 1 by rw [List.length_append, List.length_append, List.length_take, List.length_drop]; simp; omega)
                go_wp2_with fail
                go_roundw
                case rel => exact ⟨i + 1, R.take R.length ++ [m] ++ R.drop R.length, by omega, by go_num, HR.out, HL.out, HS.out.1, HS.out.2⟩
                case measure => simp [intOf]; omega
        · obtain ⟨m, hm, hmod⟩ := tmod_nat n hneg
          go_wp2_with fail
          go_loopw [6] (fun av wq => ∃ k : Nat, k ≤ R.length ∧ av = .int .i64 (k : Int) ∧ (∀ j, j < k → iAt (intsOf R) j < (m : Int)) ∧ wq = wr) (fun av _ => R.length - (intOf av).toNat)
          case atStart => exact ⟨0, by omega, rfl, fun j hj => by omega, rfl⟩
          case round =>
            obtain ⟨k, hk, rfl, hjk, rfl⟩ := hrel
            have HJ := Lib.hid hjk; clear hjk
            by_cases hkl : k < R.length
            · have hIR := Ints.of_own (A := some ⟨g, 0, none⟩) (c := cp) (l := intsOf R) (by rw [intsOf_length]; exact HH.out.1)
              obtain ⟨ad2, he2, _, hcr⟩ := hIR k (by rw [intsOf_length]; exact hkl)
              obtain rfl : ad2 = ⟨g, 0, none⟩ := by injection he2 with e; exact e.symm
              rw [add_flat] at hcr
              clear he2 hIR
              obtain ⟨r, hr⟩ : ∃ r, r = iAt (intsOf R) k := ⟨_, rfl⟩
              rw [← hr] at hcr
              have Hr := Lib.hid hr; clear hr
              rcases Int.lt_or_le r (m : Int) with hrm | hrm
              · go_wp2_with fail
                go_roundw
                case rel =>
                  refine ⟨k + 1, by omega, by go_num, fun j hj => ?_, trivial⟩
                  rcases Nat.lt_succ_iff_lt_or_eq.1 hj with h | rfl
                  · exact HJ.out j h
                  · rw [← Hr.out]; exact hrm
                case measure => simp [intOf]; omega
              · by_cases hre : r = (m : Int)
                · have HB := Lib.hid (show R.length ≤ i + 1 by omega)
                  go_wp2_with fail
                  exact ⟨⟨i + 1, R, by omega, by go_num, HH.out.2.2, HB.out, HH.out.1, HH.out.2.1⟩, by simp [intOf]; omega⟩
                · have HR := Lib.hid (rise_at hm HH.out.2.2 hk HJ.out (fun _ => by rw [← Hr.out]; omega))
                  have HI1 := Lib.hid (own_ints HH.out.1); 
                  go_wp2_with (at_builtin; go_loud (refine wpList_append_more rfl _ _ rfl wr.heap.size _ [] (some ⟨g, 0, none⟩) cp ((intsOf R).take k) k (take_len hk) rfl rfl (fun e => by cases e) (World.ownsRow_nil wr wr.heap.size 3 1) (Nat.le_refl _) (HI1.out.take _) (by rw [take_len hk]; simp; omega) ?_))
                  intro v1 w1 h1 g1
                  have b1 := (Below.refl wr.heap.size wr).grown g1 (Nat.le_refl _) (fun k e => by cases e)
                  have h1' : w1.ownsRow wr.heap.size 3 1 v1 ((intsOf R).take k).length (ints ((intsOf R).take k)) := by simpa using h1
                  have HP := Lib.hid (And.intro h1' b1); clear b1 g1 h1 h1'
                  go_wp2_with (at_builtin; go_loud (refine wpList_append_more rfl _ _ rfl wr.heap.size _ ((intsOf R).take k) (some ⟨w1.heap.size, 0, none⟩) 1 [(m : Int)] 1 rfl rfl rfl (fun e => by cases e) (HP.out.1.alloc _) (by have := HP.out.2.size; simp; omega) (Ints.one _ _) (by rw [take_len hk]; simp; omega) ?_))
                  intro v2 w2 h2 g2
                  have b2 := (HP.out.2.alloc HP.out.2.size _).grown g2 (by have := HP.out.2.size; simp; omega) (fun k e => own_from HP.out.1 k e)
                  have h2' : w2.ownsRow wr.heap.size 3 1 v2 ((intsOf R).take k ++ [(m : Int)]).length (ints ((intsOf R).take k ++ [(m : Int)])) := by simpa using h2
                  have HQ := Lib.hid (And.intro h2' b2); clear h2 h2' g2 b2 HP
                  go_wp2_with (at_builtin; refine wpList_append_more rfl _ _ rfl wr.heap.size _ ((intsOf R).take k ++ [(m : Int)]) (some ⟨g, k, none⟩) (cp - k) ((intsOf R).drop k) (R.length - k) (drop_len _ _) rfl rfl (fun e => by cases e) HQ.out.1 HQ.out.2.size (((HI1.out.drop _).below HQ.out.2).more HQ.out.2.size) (by rw [drop_len]; simp; omega) ?_)
                  intro v3 w3 h3 g3
                  have h3' : w3.ownsRow wr.heap.size 3 1 v3 (R.take k ++ [m] ++ R.drop k).length (ints (intsOf (R.take k ++ [m] ++ R.drop k))) := by
                    rw [← intsOf_length (R.take k ++ [m] ++ R.drop k), rise_ints]
                    simpa using h3
                  have b3 := HQ.out.2.grown g3 HQ.out.2.size (fun k e => own_from HQ.out.1 k e)
                  have b4 := HH.out.2.1.trans (b3.mono HH.out.2.1.size)
                  have HS := Lib.hid (And.intro (own_lower h3' HH.out.2.1.size) b4); clear h3 h3' g3 b3 b4 HQ
                  have HL := Lib.hid (show (R.take k ++ [m] ++ R.drop k).length ≤ i + 1 by rw [List.length_append, List.length_append, List.length_take, List.length_drop]; simp; omega)
                  go_wp2_with fail
                  go_roundw
                  case rel => exact ⟨i + 1, R.take k ++ [m] ++ R.drop k, by omega, by go_num, HR.out, HL.out, HS.out.1, HS.out.2⟩
                  case measure => simp [intOf]; omega
            · obtain rfl : k = R.length := by omega
              have HR := Lib.hid (rise_at hm HH.out.2.2 hk HJ.out (fun h => absurd h hkl))
              have HI1 := Lib.hid (own_ints HH.out.1); 
              go_wp2_with (at_builtin; go_loud (refine wpList_append_more rfl _ _ rfl wr.heap.size _ [] (some ⟨g, 0, none⟩) cp ((intsOf R).take R.length) R.length (take_len hk) rfl rfl (fun e => by cases e) (World.ownsRow_nil wr wr.heap.size 3 1) (Nat.le_refl _) (HI1.out.take _) (by rw [take_len hk]; simp; omega) ?_))
              intro v1 w1 h1 g1
              have b1 := (Below.refl wr.heap.size wr).grown g1 (Nat.le_refl _) (fun k e => by cases e)
              have h1' : w1.ownsRow wr.heap.size 3 1 v1 ((intsOf R).take R.length).length (ints ((intsOf R).take R.length)) := by simpa using h1
              have HP := Lib.hid (And.intro h1' b1); clear b1 g1 h1 h1'
              go_wp2_with (at_builtin; go_loud (refine wpList_append_more rfl _ _ rfl wr.heap.size _ ((intsOf R).take R.length) (some ⟨w1.heap.size, 0, none⟩) 1 [(m : Int)] 1 rfl rfl rfl (fun e => by cases e) (HP.out.1.alloc _) (by have := HP.out.2.size; simp; omega) (Ints.one _ _) (by rw [take_len hk]; simp; omega) ?_))
              intro v2 w2 h2 g2
              have b2 := (HP.out.2.alloc HP.out.2.size _).grown g2 (by have := HP.out.2.size; simp; omega) (fun k e => own_from HP.out.1 k e)
              have h2' : w2.ownsRow wr.heap.size 3 1 v2 ((intsOf R).take R.length ++ [(m : Int)]).length (ints ((intsOf R).take R.length ++ [(m : Int)])) := by simpa using h2
              have HQ := Lib.hid (And.intro h2' b2); clear h2 h2' g2 b2 HP
              go_wp2_with (at_builtin; go_loud (refine wpList_append_more rfl _ _ rfl wr.heap.size _ ((intsOf R).take R.length ++ [(m : Int)]) _ _ [] 0 rfl rfl rfl (fun e => by split at e <;> cases e) HQ.out.1 HQ.out.2.size (Ints.nil _ _ _) (by simp; omega) ?_))
              all_goals
                intro v3 w3 h3 g3
                have h3' : w3.ownsRow wr.heap.size 3 1 v3 (R.take R.length ++ [m] ++ R.drop R.length).length (ints (intsOf (R.take R.length ++ [m] ++ R.drop R.length))) := by
                  rw [← intsOf_length (R.take R.length ++ [m] ++ R.drop R.length), rise_ints]
                  rw [drop_all]; simpa using h3
                have b3 := HQ.out.2.grown g3 HQ.out.2.size (fun k e => own_from HQ.out.1 k e)
                have b4 := HH.out.2.1.trans (b3.mono HH.out.2.1.size)
                have HS := Lib.hid (And.intro (own_lower h3' HH.out.2.1.size) b4); clear h3 h3' g3 b3 b4 HQ
                have HL := Lib.hid (show (R.take R.length ++ [m] ++ R.drop R.length).length ≤ i + 1 by rw [List.length_append, List.length_append, List.length_take, List.length_drop]; simp; omega)
                go_wp2_with fail
                go_roundw
                case rel => exact ⟨i + 1, R.take R.length ++ [m] ++ R.drop R.length, by omega, by go_num, HR.out, HL.out, HS.out.1, HS.out.2⟩
                case measure => simp [intOf]; omega
    · obtain rfl : i = l.length := by omega
      have HH := Lib.hid (And.intro hown (And.intro hB hR)); clear hown hB hR
      go_wp2_with fail
      go_ret
      exact ⟨_, R, rfl, HH.out.2.2, hRi, HH.out.1, HH.out.2.1⟩
end Go.Proofs.YtnllofjjffflkaaGreatDoor
