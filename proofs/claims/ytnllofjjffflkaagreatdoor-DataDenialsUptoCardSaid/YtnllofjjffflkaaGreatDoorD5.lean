/- Walk of DataDenials; for texts and lists of at most 2^30. -/
import Derived.Test.YtnllofjjffflkaaGreatDoorD1
import Derived.Test.YtnllofjjffflkaaGreatDoorG1
set_option linter.unusedSimpArgs false
set_option linter.unusedVariables false
namespace Go.Proofs.YtnllofjjffflkaaGreatDoor
open Go.RowKit Gp
set_option maxRecDepth 100000 in
theorem wpList_append_ints {w : World} {ops : Array Oper} {rest : List Oper} {o : Oper} {a : Act} {Q : Exit → Act → World → Prop} (hgd : o.guard = none) (s x : Operand)
    (ho : o.op = .call { callee := .builtin .append, args := #[s, x], argTypes := #[53, 53] })
    (B : Nat) (A : Option Addr) (c : Nat) (l : List Int) (hs : a.eval s = .slice none 0 0) (hx : a.eval x = .slice A l.length c) (hI : Ints w B A l) (hl : l.length ≤ 1073741824)
    (h : ∀ v' w', w'.ownsRow w.heap.size 3 1 v' l.length (ints l) → Below w.heap.size w w' → wpList Tryz.prog ops Q rest (a.put o.dst v') w') : wpList Tryz.prog ops Q (o :: rest) a w := by
  obtain ⟨i0, hi0, hz0, hz1, hz2⟩ := info_parts info3
  rcases A with _ | ad
  · have hn : l = [] := by
      cases l with
      | nil => rfl
      | cons y r =>
        obtain ⟨ad, e, _⟩ := hI 0 (by simp)
        cases e
    subst hn
    refine wpList_plain hgd fun K hK => ?_
    have hrun := run_append_nil2 w c o.type
    unfold Oper.wp execOp
    simp only [ho, resolve, invoke, builtin, Sem.run_bind, Sem.run_pure, Result.andThen_ok, List.map_toArray, List.map_cons, List.map_nil, hs, hx, List.length_nil, hrun]
    exact hK _ _ (h _ _ (World.ownsRow_nil _ _ _ _) (Below.refl _ _))
  · refine wpList_append_own w hgd s x 53 ho w.heap.size 3 i0 (.int .i64 0) 1 8 Tryz.underlying53 hi0 hz0 hz1 hz2 rfl (by decide) (.slice none 0 0) 0 [] hs (World.ownsRow_nil _ _ _ _) ad l.length c (ints l) hx (by simp [ints]) ?_ ?_ ?_ ?_ (Nat.le_refl _) ?_
    · intro j u hu
      obtain ⟨hj, rfl⟩ := ints_get hu
      obtain ⟨ad', e, _, hc⟩ := hI j hj
      obtain rfl : ad' = ad := by injection e with e; exact e.symm
      exact hc
    · intro u hu
      unfold ints at hu
      obtain ⟨y, _, rfl⟩ := List.mem_map.1 hu
      simp [Value.oneCell']
    · unfold maxLen; omega
    · omega
    · intro v' w' h2 h3 _
      refine h v' w' (by simpa using h2) ?_
      exact (Below.refl _ _).grown h3 (Nat.le_refl _) (fun k e => by cases e)
/-- Both answers of a putting together: the code's and the document's. -/
def BothD (x : ByteArray × Int) (y : ByteArray × Bool) : Prop := ∃ d, (x = (d, 0) ∧ y = (d, true)) ∨ (x = (d, 6) ∧ y = (d, false))
theorem done_bothD (l : List UInt8) (bad : Bool) : BothD (doneV l bad) (refDone l bad) := by
  cases bad with
  | true => exact ⟨⟨#[]⟩, .inr ⟨by simp [doneV], by simp [refDone, shortS, shortB]⟩⟩
  | false =>
    by_cases h : 2000 < l.length
    · refine ⟨⟨#[]⟩, .inr ⟨by simp [doneV, h], ?_⟩⟩
      have h2 : ¬ l.length ≤ 2000 := by omega
      simp [refDone, shortS, shortB, ofL_size, h2]
    · refine ⟨ofL l, .inl ⟨by simp [doneV, h, ofL], ?_⟩⟩
      have h2 : l.length ≤ 2000 := by omega
      simp [refDone, shortS, shortB, ofL_size, h2]
theorem own_below {w w1 : World} {base : Nat} {e : TypeId} {size n : Nat} {v : Value} {xs : List Value} (h : w.ownsRow base e size v n xs) (hb : Below w.heap.size w w1) : w1.ownsRow base e size v n xs := pw_own_below h hb
set_option maxRecDepth 100000 in
set_option maxHeartbeats 8000000 in
theorem denials_walk (nx : ByteArray) (A : Option Addr) (c : Nat) (ts : List Int) (x : Nsec3) (A' : Option Addr) (c' : Nat) (w : World) (hE : Env w) (hI : Ints w w.heap.size A ts) (hI' : Ints w w.heap.size A' x.types)
    (a1 : nx.size ≤ 1073741824) (a2 : ts.length ≤ 1073741824) (b1 : I64 x.alg) (b2 : I64 x.flags) (b3 : I64 x.rounds) (b4 : x.salt.size ≤ 1073741824) (b5 : x.next.size ≤ 1073741824) (b6 : x.types.length ≤ 1073741824) :
    Calls Tryz.prog 6 #[.agg #[.string nx, .slice A ts.length c], nsec3V x A' c'] w fun e w' => e = .returned (.bool true) ∧ Below w.heap.size w w' := by
  have k36 := Lib.hid (fun (W : World) (B : Option Addr) (d : Nat) (h : Ints W W.heap.size B ts) => ofNsec_any nx B d ts W h a1 a2)
  have k37 := Lib.hid (fun (W : World) (B : Option Addr) (d : Nat) (h : Ints W W.heap.size B ts) => refOfNsec_any nx B d ts W h a1 a2)
  have k38 := Lib.hid (fun (W : World) (B : Option Addr) (d : Nat) (h : Ints W W.heap.size B x.types) => ofNsec3_any x B d W h b1 b2 b3 b4 b5 b6)
  have k39 := Lib.hid (fun (W : World) (B : Option Addr) (d : Nat) (h : Ints W W.heap.size B x.types) => refOfNsec3_any x B d W h b4 b5 b6)
  have q1 := Lib.hid (done_bothD (nsecL ⟨nx, ts⟩) (nsecBad ⟨nx, ts⟩))
  have q2 := Lib.hid (done_bothD (nsec3L x) (nsec3Bad x))
  obtain ⟨xl, hxl⟩ : ∃ l, l = x.types := ⟨_, rfl⟩
  obtain ⟨x1, hx1⟩ : ∃ x, x = doneV (nsecL ⟨nx, ts⟩) (nsecBad ⟨nx, ts⟩) := ⟨_, rfl⟩
  obtain ⟨x2, hx2⟩ : ∃ y, y = doneV (nsec3L x) (nsec3Bad x) := ⟨_, rfl⟩
  obtain ⟨y1, hy1⟩ : ∃ x, x = refDone (nsecL ⟨nx, ts⟩) (nsecBad ⟨nx, ts⟩) := ⟨_, rfl⟩
  obtain ⟨y2, hy2⟩ : ∃ y, y = refDone (nsec3L x) (nsec3Bad x) := ⟨_, rfl⟩
  simp only [← hx1, ← hx2, ← hy1, ← hy2] at k36 k37 k38 k39 q1 q2
  clear hx1 hx2 hy1 hy2
  obtain ⟨al, fl, rd, sa, ne, tt⟩ := x
  dsimp only at hxl
  subst hxl
  dsimp only at k38 k39 hI' b6
  clear b1 b2 b3 b4 b5
  obtain ⟨W, hW⟩ : ∃ W, W = (w.alloc (.cells #[.string nx, .slice A ts.length c] 55)).alloc (.cells #[.int .i64 al, .int .i64 fl, .int .i64 rd, .string sa, .string ne, .slice A' xl.length c'] 61) := ⟨_, rfl⟩
  have hB0 : Below w.heap.size w W := by rw [hW]; exact ((Below.refl _ _).alloc (Nat.le_refl _) _).alloc (by simp) _
  have hsW : W.heap.size = w.heap.size + 2 := by rw [hW]; simp
  have K1 : Blk w.heap.size #[.string nx, .slice A ts.length c] 55 W := by rw [hW]; exact (Blk.new w _ 55).alloc _
  have K2 : Blk (w.heap.size + 1) #[.int .i64 al, .int .i64 fl, .int .i64 rd, .string sa, .string ne, .slice A' xl.length c'] 61 W := by
    rw [hW]
    have := Blk.new (w.alloc (.cells #[.string nx, .slice A ts.length c] 55)) #[.int .i64 al, .int .i64 fl, .int .i64 rd, .string sa, .string ne, .slice A' xl.length c'] 61
    rw [World.size_alloc] at this; exact this
  have HK := Lib.hid (And.intro K1 K2); clear K1 K2
  have HB0 := Lib.hid hB0; clear hB0
  have HI := Lib.hid (And.intro hI hI'); clear hI hI'
  go_enter Tryz.func6, Tryz.ntmps6
  go_wp2_with fail
  rw [← hW]
  have hEW := hE.next HB0.out
  clear hW
  refine (examples_any W hEW).mono ?_
  rintro e w0 ⟨rfl, hB⟩
  have H0 := Lib.hid hB; clear hB
  have c1 := (HK.out.1.below H0.out (by omega)).cells
  go_wp2_with (at_builtin; refine wpList_append_ints rfl _ _ rfl w.heap.size A c ts rfl rfl (HI.out.1.below (HB0.out.trans (H0.out.mono HB0.out.size))) a2 ?_)
  intro v1 w1 ho1 hB
  obtain ⟨B1, d1, rfl⟩ := own_slice ho1
  have I1 := Lib.hid (Ints.of_own ho1)
  have H1 := Lib.hid (H0.out.trans (hB.mono H0.out.size)); clear hB c1 ho1
  have c2 := (HK.out.2.below H1.out (by omega)).cells
  go_wp2_with (at_builtin; refine wpList_append_ints rfl _ _ rfl w.heap.size A' c' xl rfl rfl (HI.out.2.below (HB0.out.trans (H1.out.mono HB0.out.size))) b6 ?_)
  intro v2 w2 ho2 hB
  obtain ⟨B2, d2, rfl⟩ := own_slice ho2
  have I2 := Lib.hid (Ints.of_own ho2)
  have I1' := Lib.hid ((I1.out.below hB).more hB.size)
  have H2 := Lib.hid (H1.out.trans (hB.mono H1.out.size)); clear hB c2 ho2 I1
  have c3 := (HK.out.1.below H2.out (by omega)).cells
  go_wp2_with fail
  refine (k36.out w2 B1 d1 I1'.out).mono ?_
  rintro e w3 ⟨rfl, hB⟩
  have I2' := Lib.hid ((I2.out.below hB).more hB.size)
  have I1 := Lib.hid ((I1'.out.below hB).more hB.size); clear I1' I2
  have H3 := Lib.hid (H2.out.trans (hB.mono H2.out.size)); clear hB c3
  have c4 := (HK.out.1.below H3.out (by omega)).cells
  go_wp2_with fail
  refine (k37.out w3 A c ((HI.out.1.below (HB0.out.trans (H3.out.mono HB0.out.size))).more (by have := H3.out.size; omega))).mono ?_
  rintro e w4 ⟨rfl, hB⟩
  have I2 := Lib.hid ((I2'.out.below hB).more hB.size)
  have I1' := Lib.hid ((I1.out.below hB).more hB.size); clear I2' I1
  have H4 := Lib.hid (H3.out.trans (hB.mono H3.out.size)); clear hB c4
  have c5 := (HK.out.2.below H4.out (by omega)).cells
  go_wp2_with fail
  obtain ⟨W5, hW5⟩ : ∃ W5, W5 = w4.alloc (.cells #[.int .i64 al, .int .i64 fl, .int .i64 rd, .string sa, .string ne, .slice B2 xl.length d2] 61) := ⟨_, rfl⟩
  rw [← hW5]
  have hB : Below w4.heap.size w4 W5 := by rw [hW5]; exact (Below.refl _ _).alloc (Nat.le_refl _) _
  clear hW5
  have I2' := Lib.hid ((I2.out.below hB).more hB.size)
  have I1 := Lib.hid ((I1'.out.below hB).more hB.size); clear I2 I1'
  have H5 := Lib.hid (H4.out.trans (hB.mono H4.out.size)); clear hB c5
  refine (k38.out W5 B2 d2 I2'.out).mono ?_
  rintro e w6 ⟨rfl, hB⟩
  have I2 := Lib.hid ((I2'.out.below hB).more hB.size)
  have I1' := Lib.hid ((I1.out.below hB).more hB.size); clear I2' I1
  have H6 := Lib.hid (H5.out.trans (hB.mono H5.out.size)); clear hB
  have c6 := (HK.out.2.below H6.out (by omega)).cells
  go_wp2_with fail
  refine (k39.out w6 A' c' ((HI.out.2.below (HB0.out.trans (H6.out.mono HB0.out.size))).more (by have := H6.out.size; omega))).mono ?_
  rintro e w7 ⟨rfl, hB⟩
  have I2' := Lib.hid ((I2.out.below hB).more hB.size)
  have I1 := Lib.hid ((I1'.out.below hB).more hB.size); clear I2 I1'
  have H7 := Lib.hid (H6.out.trans (hB.mono H6.out.size)); clear hB c6
  have c7 := (HK.out.1.below H7.out (by omega)).cells
  have c8 := (HK.out.2.below H7.out (by omega)).cells
  clear k36 k37 k38 k39
  go_wp2_with fail
  refine (numbers_same B1 A d1 c ts w7.heap.size w7 I1.out ((HI.out.1.below (HB0.out.trans (H7.out.mono HB0.out.size))).more (by have := H7.out.size; omega)) a2).mono ?_
  rintro e w8 ⟨rfl, n1, rfl⟩
  go_wp2_with fail
  refine (numbers_same B2 A' d2 c' xl w7.heap.size (w7.drewN n1) (I2'.out.below (below_drewN (Below.refl _ _) _)) (((HI.out.2.below (HB0.out.trans (H7.out.mono HB0.out.size))).more (by have := H7.out.size; omega)).below (below_drewN (Below.refl _ _) _)) b6).mono ?_
  rintro e w9 ⟨rfl, n2, rfl⟩
  have HF := Lib.hid (HB0.out.trans (H7.out.mono HB0.out.size))
  clear H0 H1 H2 H3 H4 H5 H6 H7 HK HB0 hEW hE HI I1 I2' c7 c8
  obtain ⟨r1, h1⟩ := q1.out
  obtain ⟨r2, h2⟩ := q2.out
  clear q1 q2
  have z1 := str_eq (rfl : r1 = r1)
  have z2 := str_eq (rfl : r2 = r2)
  rcases h1 with ⟨rfl, rfl⟩ | ⟨rfl, rfl⟩ <;> rcases h2 with ⟨rfl, rfl⟩ | ⟨rfl, rfl⟩ <;>
    (go_wp2_with fail
     go_ret
     exact ⟨rfl, below_drewN HF.out _⟩)
end Go.Proofs.YtnllofjjffflkaaGreatDoor
