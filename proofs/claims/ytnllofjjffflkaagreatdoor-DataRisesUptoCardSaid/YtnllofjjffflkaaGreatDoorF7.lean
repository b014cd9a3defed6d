/- Walks of Right and Text at the types 1, 16 and those that are not known; for every text. -/
import Derived.Test.YtnllofjjffflkaaGreatDoorF6
set_option linter.unusedSimpArgs false
set_option linter.unusedVariables false
namespace Go.Proofs.YtnllofjjffflkaaGreatDoor
open Go.RowKit Gp
def spaceS : ByteArray := ⟨#[32]⟩
/-- A text, or that there is none. -/
def textV (b : Bool) (j : ByteArray) : ByteArray × Int := if b = true then (j, 0) else (⟨#[]⟩, 6)
set_option maxRecDepth 100000 in
set_option maxHeartbeats 2000000 in
theorem right_16 (d : ByteArray) (w : World) : Calls Tryz.prog 41 #[.int .i64 16, .string d] w fun e w' => e = .returned (.bool (takeL d).isSome) ∧ Below w.heap.size w w' := by
  by_cases h : d.size ≤ 2000
  · have b : decide ((d.size : Int) ≤ 2000) = true := decide_eq_true (by omega)
    go_enter Tryz.func41, Tryz.ntmps41
    go_wp2_with fail
    refine (isType_any 16 w).mono ?_
    rintro e w1 ⟨rfl, rfl⟩
    rw [show isTypeB 16 = true from rfl]
    go_wp2_with fail
    refine (formOf_16 w1).mono ?_
    rintro e w2 ⟨⟨N, rfl, hN, hNb⟩, hB⟩
    have HB := Lib.hid hB; clear hB
    have HN := Lib.hid hNb; clear hNb
    have kf := fld0 (.func 199) #[] #[.pointer (some ⟨N, 0, none⟩)] (fnV 128) .nilFunc .nilFunc w2
    go_wp2_with fail
    refine (is199_any N d w2 HN.out).mono ?_
    rintro e w3 ⟨rfl, hB3⟩
    have HB3 := Lib.hid (HB.out.trans (hB3.mono HB.out.size)); clear hB3
    obtain ⟨r, hr⟩ : ∃ r, r = (takeL d).isSome := ⟨_, rfl⟩
    rw [← hr]
    have HR := Lib.hid hr; clear hr
    cases r <;> (go_wp2_with fail; go_ret; exact ⟨ret_bool HR.out, HB3.out⟩)
  · have b : decide ((d.size : Int) ≤ 2000) = false := decide_eq_false (by omega)
    have hL : (takeL d).isSome = false := by rw [takeL, if_neg h]; rfl
    have HL := Lib.hid hL; clear hL
    go_enter Tryz.func41, Tryz.ntmps41
    go_wp2_with fail
    refine (isType_any 16 w).mono ?_
    rintro e w1 ⟨rfl, rfl⟩
    rw [show isTypeB 16 = true from rfl]
    go_wp2_with fail
    go_ret
    exact ⟨ret_bool (by rw [HL.out]), Below.refl _ _⟩
set_option maxRecDepth 100000 in
set_option maxHeartbeats 2000000 in
theorem right_no (t : Int) (d : ByteArray) (w : World) (ht : isTypeB t = false) : Calls Tryz.prog 41 #[.int .i64 t, .string d] w fun e w' => e = .returned (.bool false) ∧ Below w.heap.size w w' := by
  have HT := Lib.hid ht; clear ht
  go_enter Tryz.func41, Tryz.ntmps41
  go_wp2_with fail
  refine (isType_any t w).mono ?_
  rintro e w1 ⟨rfl, rfl⟩
  rw [HT.out]
  go_wp2_with fail
  go_ret
  exact ⟨rfl, Below.refl _ _⟩
set_option maxRecDepth 100000 in
set_option maxHeartbeats 2000000 in
theorem right_plain (t : Int) (d : ByteArray) (w : World) (ht : isTypeB t = true) (h1 : t ≠ 1) (h28 : t ≠ 28) (h2 : t ≠ 2) (h5 : t ≠ 5) (h39 : t ≠ 39) (h6 : t ≠ 6) (h15 : t ≠ 15) (h16 : t ≠ 16) (h43 : t ≠ 43) (h46 : t ≠ 46) (h47 : t ≠ 47) (h48 : t ≠ 48) (h50 : t ≠ 50) : Calls Tryz.prog 41 #[.int .i64 t, .string d] w fun e w' => e = .returned (.bool (decide (d.size ≤ 2000))) ∧ Below w.heap.size w w' := by
  have HF := Lib.hid (fun w => formOf_plain t w h1 h28 h2 h5 h39 h6 h15 h16 h43 h46 h47 h48 h50)
  have HT := Lib.hid ht; clear ht
  clear h1 h28 h2 h5 h39 h6 h15 h16 h43 h46 h47 h48 h50
  by_cases h : d.size ≤ 2000
  · have b : decide ((d.size : Int) ≤ 2000) = true := decide_eq_true (by omega)
    go_enter Tryz.func41, Tryz.ntmps41
    go_wp2_with fail
    refine (isType_any t w).mono ?_
    rintro e w1 ⟨rfl, rfl⟩
    rw [HT.out]
    go_wp2_with fail
    refine (HF.out w1).mono ?_
    rintro e w2 ⟨rfl, hB⟩
    have HB := Lib.hid hB; clear hB
    have kf := fld0 (.func 147) #[] #[] (fnV 148) (fnV 149) .nilFunc w2
    go_wp2_with fail
    refine (all_any d w2).mono ?_
    rintro e w3 ⟨rfl, rfl⟩
    go_wp2_with fail
    go_ret
    exact ⟨ret_bool (by simp [h]), HB.out⟩
  · have b : decide ((d.size : Int) ≤ 2000) = false := decide_eq_false (by omega)
    go_enter Tryz.func41, Tryz.ntmps41
    go_wp2_with fail
    refine (isType_any t w).mono ?_
    rintro e w1 ⟨rfl, rfl⟩
    rw [HT.out]
    go_wp2_with fail
    go_ret
    exact ⟨ret_bool (by simp; omega), Below.refl _ _⟩
theorem grp_len (k : Nat) (s : ByteArray) : ∀ n, (grp k s n).2.2.length ≤ 8 * n
  | 0 => by simp [grp]
  | n + 1 => by
    rw [grp_succ]
    have h1 := grp_len k s n
    have h2 := emit_length k ((grp k s n).2.1 * 256 + bN s n) 8 ((grp k s n).1 + 8)
    simp only [List.length_append]; omega
theorem groupedL_len (k : Nat) (s : ByteArray) : (groupedL k s).length ≤ 8 * s.size + 1 := by
  have h := grp_len k s s.size
  rw [groupedL_eq k s _ _ _ rfl rfl rfl]
  split
  · simp only [List.length_append, List.length_cons, List.length_nil]; omega
  · omega
theorem quoteS_size (s : ByteArray) : (quoteS s).size ≤ 4 * s.size + 2 := by
  have := quote_len s.data.toList
  rw [data_length] at this
  rw [quoteS, ofL_size, quoteL]
  simp only [List.length_append, List.length_cons, List.length_nil]; omega
theorem takeL_mem {d : ByteArray} {l : List ByteArray} (h : takeL d = some l) : d.size ≤ 2000 ∧ l.length ≤ 2000 ∧ ∀ x ∈ l, x.size ≤ 255 := by
  unfold takeL at h
  split at h
  · have := textsP_mem h; exact ⟨by omega, by omega, this.2⟩
  · cases h
theorem bound1 (d : ByteArray) (h : d.size = 4) : (joinS ([joinS (foursT d) dotS]) spaceS).size ≤ 140737488355328 ∧ ([joinS (foursT d) dotS]).length ≤ 1073741824 := by
  have hlen : (foursT d).length = d.size := by simp [foursT]
  have h1 := joinS_size (foursT d) dotS 21 (fun x hx => by
    simp only [foursT, List.mem_map] at hx
    obtain ⟨i, _, rfl⟩ := hx
    exact itoaS_size _ (by omega) (by have := bN_lt d i; omega))
  have e : dotS.size = 1 := rfl
  have e2 : spaceS.size = 1 := rfl
  rw [hlen, e, h] at h1
  have h2 := joinS_size [joinS (foursT d) dotS] spaceS 1000 (fun x hx => by rw [List.mem_singleton.1 hx]; omega)
  rw [e2] at h2
  simp only [List.length_cons, List.length_nil] at h2 ⊢
  omega
theorem bound16 (d : ByteArray) (h : (takeL d).isSome = true) : (joinS (textPartsS d) spaceS).size ≤ 140737488355328 ∧ (textPartsS d).length ≤ 1073741824 := by
  obtain ⟨l, hl⟩ := Option.isSome_iff_exists.1 h
  have hm := takeL_mem hl
  have hP : textPartsS d = l.map quoteS := by rw [textPartsS, hl]; rfl
  have h2 := joinS_size (textPartsS d) spaceS 2000 (fun x hx => by
    rw [hP, List.mem_map] at hx
    obtain ⟨y, hy, rfl⟩ := hx
    have := quoteS_size y
    have := hm.2.2 y hy
    omega)
  have e2 : spaceS.size = 1 := rfl
  have hl2 : (textPartsS d).length = l.length := by rw [hP, List.length_map]
  rw [e2, hl2] at h2
  rw [hl2]
  omega
theorem boundP (d : ByteArray) (h : d.size ≤ 2000) : (joinS (plainS d) spaceS).size ≤ 140737488355328 ∧ (plainS d).length ≤ 1073741824 := by
  have hl : (plainS d).length ≤ 3 := by unfold plainS; split <;> simp
  have h2 := joinS_size (plainS d) spaceS 20000 (fun x hx => by
    have hi := itoaS_size (d.size : Int) (by omega) (by omega)
    have hi0 := itoaS_size 0 (by omega) (by omega)
    have hh : (hexS d).size ≤ 8 * d.size + 1 := by rw [hexS, ofL_size]; exact groupedL_len 4 d
    have he : (⟨#[92, 35]⟩ : ByteArray).size = 2 := rfl
    unfold plainS at hx
    split at hx
    · simp only [List.mem_cons, List.not_mem_nil, or_false] at hx
      rcases hx with rfl | rfl <;> omega
    · simp only [List.mem_cons, List.not_mem_nil, or_false] at hx
      rcases hx with rfl | rfl | rfl <;> omega)
  have e2 : spaceS.size = 1 := rfl
  rw [e2] at h2
  have : 20000 * (plainS d).length ≤ 20000 * 3 := Nat.mul_le_mul_left _ hl
  omega
set_option maxRecDepth 100000 in
set_option maxHeartbeats 2000000 in
theorem text_1 (d : ByteArray) (w : World) (hE : Env w) : Calls Tryz.prog 40 #[.int .i64 1, .string d] w fun e w' => e = .returned (.tuple #[.string (textV (decide (d.size = 4)) (joinS ([joinS (foursT d) dotS]) spaceS)).1, .int .i64 (textV (decide (d.size = 4)) (joinS ([joinS (foursT d) dotS]) spaceS)).2]) ∧ Below w.heap.size w w' := by
  go_enter Tryz.func40, Tryz.ntmps40
  go_wp2_with fail
  refine (isType_any 1 w).mono ?_
  rintro e w1 ⟨rfl, rfl⟩
  rw [show isTypeB 1 = true from rfl]
  go_wp2_with fail
  refine (right_1 d w1).mono ?_
  rintro e w2 ⟨rfl, hB⟩
  have hE2 := hE.next hB
  have HB := Lib.hid hB; clear hB
  by_cases hr : d.size = 4
  · have hd : d.size ≤ 2000 := by omega
    have hJ : (joinS ([joinS (foursT d) dotS]) spaceS).size ≤ 140737488355328 ∧ ([joinS (foursT d) dotS]).length ≤ 1073741824 := bound1 d hr
    have ht : decide (d.size = 4) = true := decide_eq_true hr
    have hV : textV (decide (d.size = 4)) (joinS ([joinS (foursT d) dotS]) spaceS) = (joinS ([joinS (foursT d) dotS]) spaceS, 0) := by rw [ht, textV, if_pos rfl]
    rw [ht]
    have HV := Lib.hid hV; clear hV ht
    have HJ := Lib.hid hJ; clear hJ hr
    go_wp2_with fail
    refine (formOf_1 w2).mono ?_
    rintro e w3 ⟨rfl, hB3⟩
    have hE3 := hE2.next hB3
    have HB3 := Lib.hid (HB.out.trans (hB3.mono HB.out.size)); clear hB3
    have kf := fld1 (.func 111) #[] #[] (fnV 110) (fnV 112) .nilFunc w3
    go_wp2_with fail
    refine (fours_any d w3 hE3 (by omega)).mono ?_
    rintro e w4 ⟨⟨v, rfl, ho⟩, hB4⟩
    have HB4 := Lib.hid (HB3.out.trans (hB4.mono HB3.out.size)); clear hB4
    have hjo := join_any _ v _ spaceS w4 ho HJ.out.2 HJ.out.1
    have HO := Lib.hid hjo; clear hjo ho
    go_wp2_with fail
    refine HO.out.mono ?_
    rintro e w5 ⟨rfl, hB5⟩
    have HB5 := Lib.hid (HB4.out.trans (hB5.mono HB4.out.size)); clear hB5
    go_wp2_with fail
    go_ret2
    rw [HV.out]
    exact ⟨rfl, HB5.out⟩
  · have ht : decide (d.size = 4) = false := decide_eq_false hr
    have hV : textV (decide (d.size = 4)) (joinS ([joinS (foursT d) dotS]) spaceS) = (⟨#[]⟩, 6) := by rw [ht, textV, if_neg (by decide)]
    rw [ht]
    have HV := Lib.hid hV; clear hV ht hr
    go_wp2_with fail
    go_ret2
    rw [HV.out]
    exact ⟨rfl, HB.out⟩
set_option maxRecDepth 100000 in
set_option maxHeartbeats 2000000 in
theorem text_16 (d : ByteArray) (w : World) (hE : Env w) : Calls Tryz.prog 40 #[.int .i64 16, .string d] w fun e w' => e = .returned (.tuple #[.string (textV ((takeL d).isSome) (joinS (textPartsS d) spaceS)).1, .int .i64 (textV ((takeL d).isSome) (joinS (textPartsS d) spaceS)).2]) ∧ Below w.heap.size w w' := by
  go_enter Tryz.func40, Tryz.ntmps40
  go_wp2_with fail
  refine (isType_any 16 w).mono ?_
  rintro e w1 ⟨rfl, rfl⟩
  rw [show isTypeB 16 = true from rfl]
  go_wp2_with fail
  refine (right_16 d w1).mono ?_
  rintro e w2 ⟨rfl, hB⟩
  have hE2 := hE.next hB
  have HB := Lib.hid hB; clear hB
  by_cases hr : (takeL d).isSome = true
  · have hd : d.size ≤ 2000 := by obtain ⟨l, hl⟩ := Option.isSome_iff_exists.1 hr; exact (takeL_mem hl).1
    have hJ : (joinS (textPartsS d) spaceS).size ≤ 140737488355328 ∧ (textPartsS d).length ≤ 1073741824 := bound16 d hr
    have ht : (takeL d).isSome = true := hr
    have hV : textV ((takeL d).isSome) (joinS (textPartsS d) spaceS) = (joinS (textPartsS d) spaceS, 0) := by rw [ht, textV, if_pos rfl]
    rw [ht]
    have HV := Lib.hid hV; clear hV ht
    have HJ := Lib.hid hJ; clear hJ hr
    go_wp2_with fail
    refine (formOf_16 w2).mono ?_
    rintro e w3 ⟨⟨N, rfl, _, _⟩, hB3⟩
    have hE3 := hE2.next hB3
    have HB3 := Lib.hid (HB.out.trans (hB3.mono HB.out.size)); clear hB3
    have kf := fld1 (.func 128) #[] #[] (.func (.func 199) #[] #[.pointer (some ⟨N, 0, none⟩)]) .nilFunc .nilFunc w3
    go_wp2_with fail
    refine (textParts_any d w3 ).mono ?_
    rintro e w4 ⟨⟨v, rfl, ho⟩, hB4⟩
    have HB4 := Lib.hid (HB3.out.trans (hB4.mono HB3.out.size)); clear hB4
    have hjo := join_any _ v _ spaceS w4 ho HJ.out.2 HJ.out.1
    have HO := Lib.hid hjo; clear hjo ho
    go_wp2_with fail
    refine HO.out.mono ?_
    rintro e w5 ⟨rfl, hB5⟩
    have HB5 := Lib.hid (HB4.out.trans (hB5.mono HB4.out.size)); clear hB5
    go_wp2_with fail
    go_ret2
    rw [HV.out]
    exact ⟨rfl, HB5.out⟩
  · have ht : (takeL d).isSome = false := by simpa using hr
    have hV : textV ((takeL d).isSome) (joinS (textPartsS d) spaceS) = (⟨#[]⟩, 6) := by rw [ht, textV, if_neg (by decide)]
    rw [ht]
    have HV := Lib.hid hV; clear hV ht hr
    go_wp2_with fail
    go_ret2
    rw [HV.out]
    exact ⟨rfl, HB.out⟩
set_option maxRecDepth 100000 in
set_option maxHeartbeats 2000000 in
theorem text_plain (t : Int) (d : ByteArray) (w : World) (hE : Env w) (ht : isTypeB t = true) (h1 : t ≠ 1) (h28 : t ≠ 28) (h2 : t ≠ 2) (h5 : t ≠ 5) (h39 : t ≠ 39) (h6 : t ≠ 6) (h15 : t ≠ 15) (h16 : t ≠ 16) (h43 : t ≠ 43) (h46 : t ≠ 46) (h47 : t ≠ 47) (h48 : t ≠ 48) (h50 : t ≠ 50) : Calls Tryz.prog 40 #[.int .i64 t, .string d] w fun e w' => e = .returned (.tuple #[.string (textV (decide (d.size ≤ 2000)) (joinS (plainS d) spaceS)).1, .int .i64 (textV (decide (d.size ≤ 2000)) (joinS (plainS d) spaceS)).2]) ∧ Below w.heap.size w w' := by
  have HF := Lib.hid (fun w => formOf_plain t w h1 h28 h2 h5 h39 h6 h15 h16 h43 h46 h47 h48 h50)
  have HG := Lib.hid (fun w => right_plain t d w ht h1 h28 h2 h5 h39 h6 h15 h16 h43 h46 h47 h48 h50)
  have HT := Lib.hid ht; clear ht
  clear h1 h28 h2 h5 h39 h6 h15 h16 h43 h46 h47 h48 h50
  go_enter Tryz.func40, Tryz.ntmps40
  go_wp2_with fail
  refine (isType_any t w).mono ?_
  rintro e w1 ⟨rfl, rfl⟩
  rw [show isTypeB t = true from HT.out]
  go_wp2_with fail
  refine (HG.out w1).mono ?_
  rintro e w2 ⟨rfl, hB⟩
  have hE2 := hE.next hB
  have HB := Lib.hid hB; clear hB
  by_cases hr : d.size ≤ 2000
  · have hd : d.size ≤ 2000 := hr
    have hJ : (joinS (plainS d) spaceS).size ≤ 140737488355328 ∧ (plainS d).length ≤ 1073741824 := boundP d hr
    have ht : decide (d.size ≤ 2000) = true := decide_eq_true hr
    have hV : textV (decide (d.size ≤ 2000)) (joinS (plainS d) spaceS) = (joinS (plainS d) spaceS, 0) := by rw [ht, textV, if_pos rfl]
    rw [ht]
    have HV := Lib.hid hV; clear hV ht
    have HJ := Lib.hid hJ; clear hJ hr
    go_wp2_with fail
    refine (HF.out w2).mono ?_
    rintro e w3 ⟨rfl, hB3⟩
    have hE3 := hE2.next hB3
    have HB3 := Lib.hid (HB.out.trans (hB3.mono HB.out.size)); clear hB3
    have kf := fld1 (.func 148) #[] #[] (fnV 147) (fnV 149) .nilFunc w3
    go_wp2_with fail
    refine (plain_any d w3 hE3 (by omega)).mono ?_
    rintro e w4 ⟨⟨v, rfl, ho⟩, hB4⟩
    have HB4 := Lib.hid (HB3.out.trans (hB4.mono HB3.out.size)); clear hB4
    have hjo := join_any _ v _ spaceS w4 ho HJ.out.2 HJ.out.1
    have HO := Lib.hid hjo; clear hjo ho
    go_wp2_with fail
    refine HO.out.mono ?_
    rintro e w5 ⟨rfl, hB5⟩
    have HB5 := Lib.hid (HB4.out.trans (hB5.mono HB4.out.size)); clear hB5
    go_wp2_with fail
    go_ret2
    rw [HV.out]
    exact ⟨rfl, HB5.out⟩
  · have ht : decide (d.size ≤ 2000) = false := decide_eq_false hr
    have hV : textV (decide (d.size ≤ 2000)) (joinS (plainS d) spaceS) = (⟨#[]⟩, 6) := by rw [ht, textV, if_neg (by decide)]
    rw [ht]
    have HV := Lib.hid hV; clear hV ht hr
    go_wp2_with fail
    go_ret2
    rw [HV.out]
    exact ⟨rfl, HB.out⟩
end Go.Proofs.YtnllofjjffflkaaGreatDoor
