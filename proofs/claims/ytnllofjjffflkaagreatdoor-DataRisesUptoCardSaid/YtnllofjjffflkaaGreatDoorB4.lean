/- Walk of DataRises; for lists of at most 2^30. -/
import Derived.Test.YtnllofjjffflkaaGreatDoorB3
import Derived.Test.YtnllofjjffflkaaGreatDoorD1
import Derived.Test.YtnllofjjffflkaaGreatDoorG1
import Derived.Test.YtnllofjjffflkaaGreatDoorC1
set_option linter.unusedSimpArgs false
set_option linter.unusedVariables false
namespace Go.Proofs.YtnllofjjffflkaaGreatDoor
open Go.RowKit Gp
theorem Ints.add0 {w : World} {B : Nat} {A : Option Addr} {l : List Int} (h : Ints w B A l) : Ints w B (A.map (·.add 0)) l := fun k hk => by
  obtain ⟨ad, rfl, h1, h2⟩ := h k hk
  refine ⟨ad.add 0, rfl, by rw [add_block]; exact h1, ?_⟩
  have e : (ad.add 0).add k = ad.add k := by unfold Addr.add; split <;> simp
  rw [e]; exact h2
theorem rev_step (T : List Int) (k : Nat) (hk : k + 1 ≤ T.length) : (T.drop (k + 1)).reverse ++ [iAt T k] = (T.drop k).reverse := by
  have e : T.drop k = iAt T k :: T.drop (k + 1) := by
    rw [List.drop_eq_getElem_cons (by omega), iAt, List.getD_eq_getElem?_getD, List.getElem?_eq_getElem (by omega)]; rfl
  rw [e, List.reverse_cons]
set_option maxRecDepth 100000 in
set_option maxHeartbeats 16000000 in
theorem rises_walk (A : Option Addr) (c : Nat) (l : List Int) (w : World) (hE : Env w) (hI : Ints w w.heap.size A l) (hl : l.length ≤ 1073741824) (hr : ∀ n ∈ l, I64 n) (hc : l.length ≤ c) :
    Calls Tryz.prog 9 #[.slice A l.length c] w fun e w' => e = .returned (.bool true) ∧ Below w.heap.size w w' := by
  have HI := Lib.hid hI; clear hI
  have HR := Lib.hid hr; clear hr
  go_enter Tryz.func9, Tryz.ntmps9
  go_wp2_with fail
  refine (examples_any w hE).mono ?_
  rintro e v0 ⟨rfl, hB0⟩
  have HW := Lib.hid hB0; clear hB0
  go_wp2_with fail
  have hn : (min (l.length : Int) 40).toNat = (l.take 40).length := by rw [List.length_take]; omega
  rw [hn]
  clear hn
  refine (rise_own A c (l.take 40) v0 (((HI.out.take 40).below HW.out).more HW.out.size) (by rw [List.length_take]; omega) (fun n h => HR.out n (List.mem_of_mem_take h))).mono ?_
  rintro e u ⟨v, R, rfl, hRi, hR40, ho, hB⟩
  replace hR40 : R.length ≤ 40 := by rw [List.length_take] at hR40; omega
  replace HW := Lib.hid (HW.out.trans (hB.mono HW.out.size)); clear hB HI HR
  rw [← intsOf_length] at ho
  obtain ⟨A0, c0, rfl⟩ := own_slice ho
  have I0 := Lib.hid (Ints.of_own ho); clear ho
  have hTl : (intsOf R).length ≤ 40 := by rw [intsOf_length]; exact hR40
  have d1 := nsec_done hRi hR40
  have d3 := nsec3_done hRi hR40
  have g1 := get_rise hRi hR40
  have g3 := get_rise3 hRi hR40
  have db := Lib.hid (fun h => back_done hRi h)
  obtain ⟨S1, hS1⟩ : ∃ S, S = toB (0 :: typesL R) := ⟨_, rfl⟩
  obtain ⟨S3, hS3⟩ : ∃ S, S = toB (nsec3L (nsec3Of R)) := ⟨_, rfl⟩
  have k36 := Lib.hid (fun (W : World) (h : Ints W W.heap.size A0 (intsOf R)) => ofNsec_any (toB [0]) A0 c0 (intsOf R) W h (by decide) (by omega))
  have k38 := Lib.hid (fun (W : World) (h : Ints W W.heap.size A0 (intsOf R)) => ofNsec3_any (nsec3Of R) A0 c0 W h (show I64 1 by unfold I64; omega) (show I64 0 by unfold I64; omega) (show I64 0 by unfold I64; omega) (show (0 : Nat) ≤ 1073741824 by omega) (show (1 : Nat) ≤ 1073741824 by omega) (by show (intsOf R).length ≤ _; omega))
  have k23 := Lib.hid (fun (W : World) => nsec_c S1 W)
  have k25 := Lib.hid (fun (W : World) => nsec3_c S3 W)
  have kb := Lib.hid (fun (W : World) (B : Option Addr) (d : Nat) (h : Ints W W.heap.size B (intsOf R).reverse) => ofNsec_any (toB [0]) B d (intsOf R).reverse W h (by decide) (by rw [List.length_reverse]; omega))
  rw [show (⟨toB [0], intsOf R⟩ : Nsec) = nsecOf R from rfl, d1] at k36
  rw [d3] at k38
  rw [← hS1] at k36 g1
  rw [← hS3] at k38 g3
  rw [g1.1, g1.2] at k23
  rw [g3.1, g3.2] at k25
  clear d1 d3 g1 g3 hS1 hS3
  have h2 : (intsOf R).length = R.length := intsOf_length R
  rw [← h2] at db
  obtain ⟨T, hT⟩ : ∃ T, T = intsOf R := ⟨_, rfl⟩
  simp only [nsecOf, nsec3Of, nsec3V, ← hT] at k36 k38 k23 k25 kb db I0 hTl
  rw [← hT]
  clear hT h2 hRi hR40
  simp only [show toB [0] = (⟨#[0]⟩ : ByteArray) from rfl, show toB [110] = (⟨#[110]⟩ : ByteArray) from rfl, show errOf true = 0 from rfl] at k36 k38 k23 k25 kb db
  go_wp2_with fail
  refine (k36.out u I0.out).mono ?_
  rintro e u1 ⟨rfl, hB⟩
  replace I0 := Lib.hid ((I0.out.below hB).more hB.size)
  replace HW := Lib.hid (HW.out.trans (hB.mono HW.out.size)); clear hB k36
  go_wp2_with fail
  refine (k23.out u1).mono ?_
  rintro e u2 ⟨A1, c1, rfl, hI, hB⟩
  obtain ⟨X1, hX⟩ : ∃ X, X = u2.heap.size := ⟨_, rfl⟩
  obtain ⟨v1, hV⟩ : ∃ V, V = u2.alloc (.cells #[.string ⟨#[0]⟩, .slice A1 T.length c1] 55) := ⟨_, rfl⟩
  have hBA : Below u1.heap.size u1 v1 := by rw [hV]; exact hB.alloc hB.size _
  have K1 := Lib.hid (show Blk X1 #[.string ⟨#[0]⟩, .slice A1 T.length c1] 55 v1 by rw [hV, hX]; exact Blk.new u2 _ _)
  have I1 := Lib.hid (show Ints v1 v1.heap.size A1 T by rw [hV]; exact (hI.below ((Below.refl _ _).alloc (Nat.le_refl _) _)).more (by simp))
  replace I0 := Lib.hid ((I0.out.below hBA).more hBA.size)
  replace HW := Lib.hid (HW.out.trans (hBA.mono HW.out.size)); clear hB hBA hI k23
  go_wp2_with fail
  rw [← hV, ← hX]
  clear hV hX
  refine (k38.out v1 I0.out).mono ?_
  rintro e u3 ⟨rfl, hB⟩
  replace I0 := Lib.hid ((I0.out.below hB).more hB.size)
  replace I1 := Lib.hid ((I1.out.below hB).more hB.size)
  replace K1 := Lib.hid (K1.out.step hB)
  replace HW := Lib.hid (HW.out.trans (hB.mono HW.out.size)); clear hB k38
  go_wp2_with fail
  refine (k25.out u3).mono ?_
  rintro e u4 ⟨A2, c2, rfl, hI, hB⟩
  obtain ⟨X2, hX⟩ : ∃ X, X = u4.heap.size := ⟨_, rfl⟩
  obtain ⟨v2, hV⟩ : ∃ V, V = u4.alloc (.cells #[.int .i64 1, .int .i64 0, .int .i64 0, .string ⟨#[]⟩, .string ⟨#[110]⟩, .slice A2 T.length c2] 61) := ⟨_, rfl⟩
  have hBA : Below u3.heap.size u3 v2 := by rw [hV]; exact hB.alloc hB.size _
  have K1u := Lib.hid (Blk.below K1.out hB (Array.getElem?_eq_some_iff.1 K1.out).1)
  replace K1 := Lib.hid (K1.out.step hBA)
  replace I1 := Lib.hid ((I1.out.below hBA).more hBA.size)
  replace I0 := Lib.hid ((I0.out.below hBA).more hBA.size)
  have K2 := Lib.hid (show Blk X2 #[.int .i64 1, .int .i64 0, .int .i64 0, .string ⟨#[]⟩, .string ⟨#[110]⟩, .slice A2 T.length c2] 61 v2 by rw [hV, hX]; exact Blk.new u4 _ _)
  have I2 := Lib.hid (show Ints v2 v2.heap.size A2 T by rw [hV]; exact (hI.below ((Below.refl _ _).alloc (Nat.le_refl _) _)).more (by simp))
  replace HW := Lib.hid (HW.out.trans (hBA.mono HW.out.size)); clear hB hBA hI k25
  have cc := K1.out.cells
  rw [hV] at cc
  have cu := K1u.out.cells
  have hlu : X1 < u4.heap.size := (Array.getElem?_eq_some_iff.1 K1u.out).1
  have hnu : X1 ≠ u4.heap.size := by omega
  go_wp2_with fail
  rw [← hV, ← hX]
  clear hV hX
  refine (numbers_same A1 A0 c1 c0 T v2.heap.size v2 I1.out I0.out (by omega)).mono ?_
  rintro e u5 ⟨rfl, n1, rfl⟩
  clear cc cu hlu hnu K1u K1
  have hB := below_drewN (Below.refl v2.heap.size v2) n1
  replace I2 := Lib.hid ((I2.out.below hB).more hB.size)
  replace I0 := Lib.hid ((I0.out.below hB).more hB.size)
  replace K2 := Lib.hid (K2.out.step hB)
  replace HW := Lib.hid (HW.out.trans (hB.mono HW.out.size)); clear hB
  obtain ⟨v3, hv3⟩ : ∃ V, V = v2.drewN n1 := ⟨_, rfl⟩
  rw [← hv3] at I0 I2 K2 HW
  rw [← hv3]
  clear hv3
  have cc := K2.out.cells
  go_wp2_with fail
  refine (numbers_same A2 A0 c2 c0 T v3.heap.size v3 I2.out I0.out (by omega)).mono ?_
  rintro e u6 ⟨rfl, n2, rfl⟩
  clear cc K2
  have hB := below_drewN (Below.refl v3.heap.size v3) n2
  replace I0 := Lib.hid ((I0.out.below hB).more hB.size)
  replace HW := Lib.hid (HW.out.trans (hB.mono HW.out.size)); clear hB I1 I2
  obtain ⟨v4, hv4⟩ : ∃ V, V = v3.drewN n2 := ⟨_, rfl⟩
  rw [← hv4] at I0 HW
  rw [← hv4]
  clear hv4
  rcases Nat.lt_or_ge T.length 2 with hT2 | hT2
  · go_wp2_with fail
    go_ret
    exact ⟨rfl, HW.out⟩
  · have hdb := db.out hT2
    rw [hdb] at kb
    clear hdb db
    obtain ⟨i0, hi0, hz0, hz1, hz2⟩ := info_parts info3
    go_wp2_with fail
    go_loopw [15, 16] (fun bv iv wr => ∃ k : Nat, k ≤ T.length ∧ iv = .int .i64 ((k : Int) - 1) ∧ wr.ownsRow v4.heap.size 3 1 bv (T.drop k).reverse.length (ints (T.drop k).reverse) ∧ Below v4.heap.size v4 wr) (fun _ iv _ => (intOf iv + 1).toNat)
    case atStart => exact ⟨T.length, Nat.le_refl _, by go_num, by rw [List.drop_length]; exact World.ownsRow_nil _ _ _ _, Below.refl _ _⟩
    case round =>
      obtain ⟨k, hk, rfl, hown, hB⟩ := hrel
      rcases k with _ | k
      · rw [List.drop_zero, List.length_reverse] at hown
        obtain ⟨B1, b1, rfl⟩ := own_slice hown
        have IB := Lib.hid (Ints.of_own (l := T.reverse) (by rw [List.length_reverse]; exact hown))
        replace HW := Lib.hid (HW.out.trans (hB.mono HW.out.size)); clear hown hB
        simp only [List.length_reverse] at kb
        go_wp2_with fail
        refine (kb.out wr B1 b1 IB.out).mono ?_
        rintro e u7 ⟨rfl, hB⟩
        replace HW := Lib.hid (HW.out.trans (hB.mono HW.out.size)); clear hB
        go_wp2_with fail
        go_ret
        exact ⟨rfl, HW.out⟩
      · rw [show (((k + 1 : Nat) : Int) - 1) = (k : Int) by omega]
        have HS := Lib.hid (rev_step T k hk)
        obtain ⟨ad0, rfl, hab, hc0⟩ := I0.out k (by omega)
        have hcell := (hB.cell (p := ad0.add k) (by rw [add_block]; exact hab)).trans hc0
        clear hc0
        have hlen : (T.drop (k + 1)).reverse.length ≤ 40 := by rw [List.length_reverse, List.length_drop]; omega
        have q3 : v4.heap.size ≤ (wr.alloc (.cells #[.int .i64 (iAt T k)] 3)).heap.size := by have := hB.size; simp; omega
        have hkT : k < T.length := by omega
        have HK := Lib.hid (And.intro hown hB); clear hown hB
        go_wp2_with (at_builtin; refine wpList_append_more rfl _ _ rfl v4.heap.size _ ((T.drop (k + 1)).reverse) (some ⟨wr.heap.size, 0, none⟩) 1 [iAt T k] 1 rfl rfl rfl (fun e => by cases e) (HK.out.1.alloc _) q3 (Ints.one _ _) (by simp; omega) ?_)
        intro v' w4 h' g'
        have hown' : w4.ownsRow v4.heap.size 3 1 v' (T.drop k).reverse.length (ints (T.drop k).reverse) := by rw [← HS.out]; simpa using h'
        have hB' := (HK.out.2.alloc HK.out.2.size _).grown g' q3 (fun k e => own_from HK.out.1 k e)
        have HN := Lib.hid (And.intro hown' hB'); clear hown' hB' h' g' HK
        go_wp2_with fail
        go_roundw
        case rel => exact ⟨k, by omega, by go_num, HN.out.1, HN.out.2⟩
        case measure => simp [intOf]
end Go.Proofs.YtnllofjjffflkaaGreatDoor
