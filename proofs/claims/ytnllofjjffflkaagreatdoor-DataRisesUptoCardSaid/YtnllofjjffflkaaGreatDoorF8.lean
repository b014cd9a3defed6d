/- Walks of Read at the types 1 and 16; for texts of at most 2^20 bytes. -/
import Derived.Test.YtnllofjjffflkaaGreatDoorF7
set_option linter.unusedSimpArgs false
set_option linter.unusedVariables false
namespace Go.Proofs.YtnllofjjffflkaaGreatDoor
open Go.RowKit Gp
theorem fldNil (b c d : Value) (a : Value) (w : World) : (Instr.field 98 (.agg #[a, b, .nilFunc, d]) 2).run Tryz.prog w = .ok .nilFunc w := by
  kernel_rfl
/-- What is read, where its text is the text. -/
def readV (r x : ByteArray × Int) (s : ByteArray) : ByteArray × Int := if r.2 = 0 ∧ x.2 = 0 ∧ x.1 = s then (r.1, 0) else (⟨#[]⟩, 7)
def read1S (s : ByteArray) : ByteArray × Int := strErr (unfoursL (splitS ((splitS s spaceS).headD ⟨#[]⟩) dotS))
theorem textV_int (b : Bool) (j : ByteArray) : (textV b j).2 = 0 ∨ (textV b j).2 = 6 := by unfold textV; split <;> simp
def text1V (d : ByteArray) : ByteArray × Int := textV (decide (d.size = 4)) (joinS [joinS (foursT d) dotS] spaceS)
def text16V (d : ByteArray) : ByteArray × Int := textV (takeL d).isSome (joinS (textPartsS d) spaceS)
def textPV (d : ByteArray) : ByteArray × Int := textV (decide (d.size ≤ 2000)) (joinS (plainS d) spaceS)
theorem text_1' (d : ByteArray) (w : World) (hE : Env w) : Calls Tryz.prog 40 #[.int .i64 1, .string d] w fun e w' => e = .returned (.tuple #[.string (text1V d).1, .int .i64 (text1V d).2]) ∧ Below w.heap.size w w' := text_1 d w hE
theorem text_16' (d : ByteArray) (w : World) (hE : Env w) : Calls Tryz.prog 40 #[.int .i64 16, .string d] w fun e w' => e = .returned (.tuple #[.string (text16V d).1, .int .i64 (text16V d).2]) ∧ Below w.heap.size w w' := text_16 d w hE
set_option maxRecDepth 100000 in
set_option maxHeartbeats 2000000 in
theorem read_1 (s : ByteArray) (w : World) (hE : Env w) (hs : s.size ≤ 1048576) : Calls Tryz.prog 13 #[.int .i64 1, .string s] w fun e w' => e = .returned (.tuple #[.string (readV (read1S s) (text1V (read1S s).1) s).1, .int .i64 (readV (read1S s) (text1V (read1S s).1) s).2]) ∧ Below w.heap.size w w' := by
  go_enter Tryz.func13, Tryz.ntmps13
  go_wp2_with fail
  refine (isType_any 1 w).mono ?_
  rintro e w1 ⟨rfl, rfl⟩
  rw [show isTypeB 1 = true from rfl]
  go_wp2_with fail
  refine (formOf_1 w1).mono ?_
  rintro e w2 ⟨rfl, hB⟩
  have hE2 := hE.next hB
  have HB := Lib.hid hB; clear hB
  have kf := fld2 (.func 112) #[] #[] (fnV 110) (fnV 111) .nilFunc w2
  have hsl := splitS_length s spaceS (by decide)
  have hpc : 1 ≤ (splitS s spaceS).length := by
    have : (splitS s spaceS).length = Lib.countB s spaceS + 1 := Lib.splitB_all spaceS (by decide) 0 _ s rfl
    omega
  have hp0 : ((splitS s spaceS).headD ⟨#[]⟩).size ≤ 1073741824 := by
    cases hh : splitS s spaceS with
    | nil => exact Nat.zero_le _
    | cons p q =>
      have := splitS_mem (s := s) (sep := spaceS) (p := p) (by rw [hh]; simp)
      simp only [List.headD_cons]; omega
  have HP0 := Lib.hid hp0; clear hp0
  go_wp2_with fail
  refine (split_any s spaceS w2 hE2 (by omega) (by decide)).mono ?_
  rintro e w2b ⟨rfl, hw⟩
  have hB2b : Below w2.heap.size w2 w2b := by rw [hw]; exact (Below.refl _ _).alloc (Nat.le_refl _) _
  have hc0 : w2b.cell? ⟨w2.heap.size, 0, none⟩ = some (.string ((splitS s spaceS).headD ⟨#[]⟩)) := by
    have h := World.alloc_heap_new w2 (.cells (strs (splitS s spaceS)).toArray 9)
    rw [hw]
    simp only [World.cell?, h, List.getElem?_toArray]
    cases hh : splitS s spaceS with
    | nil => rw [hh] at hpc; simp at hpc
    | cons p q => simp [strs]
  have HU := Lib.hid (unfours_any w2.heap.size 0 (splitS s spaceS).length (splitS s spaceS).length _ w2b (hE2.next hB2b) hpc hc0 HP0.out)
  clear hw hc0
  go_wp2_with fail
  refine HU.out.mono ?_
  rintro e w3 ⟨rfl, hB3'⟩
  have hB3 := hB2b.trans (hB3'.mono hB2b.size)
  clear hB3' hB2b HU
  rw [show strErr (unfoursL (splitS ((splitS s spaceS).headD ⟨#[]⟩) dotS)) = read1S s from rfl]
  have hE3 := hE2.next hB3
  have HB3 := Lib.hid (HB.out.trans (hB3.mono HB.out.size)); clear hB3
  obtain ⟨r, hr⟩ : ∃ r, r = read1S s := ⟨_, rfl⟩
  rw [← hr]
  have HR := Lib.hid hr; clear hr
  obtain ⟨rd, rn⟩ := r
  by_cases h0 : rn = 0
  · subst h0
    go_wp2_with fail
    refine (text_1' rd w3 hE3).mono ?_
    rintro e w4 ⟨rfl, hB4⟩
    have HB4 := Lib.hid (HB3.out.trans (hB4.mono HB3.out.size)); clear hB4
    obtain ⟨x, hx⟩ : ∃ x, x = text1V rd := ⟨_, rfl⟩
    rw [← hx]
    have HX := Lib.hid hx; clear hx
    obtain ⟨xd, xn⟩ := x
    by_cases hxn : xn = 0
    · subst hxn
      by_cases hxs : xd = s
      · have b1 := str_eq hxs
        have HS := Lib.hid hxs; clear hxs
        go_wp2_with fail
        go_ret2
        rw [← HR.out, ← HX.out, readV, if_pos ⟨by trivial, by trivial, HS.out⟩]
        exact ⟨rfl, HB4.out⟩
      · have b1 := str_ne hxs
        have HS := Lib.hid hxs; clear hxs
        go_wp2_with fail
        go_ret2
        rw [← HR.out, ← HX.out, readV, if_neg (fun h => HS.out h.2.2)]
        exact ⟨rfl, HB4.out⟩
    · go_wp2_with fail
      go_ret2
      rw [← HR.out, ← HX.out, readV, if_neg (fun h => hxn h.2.1)]
      exact ⟨rfl, HB4.out⟩
  · go_wp2_with fail
    go_ret2
    rw [← HR.out, readV, if_neg (fun h => h0 h.1)]
    exact ⟨rfl, HB3.out⟩
set_option maxRecDepth 100000 in
set_option maxHeartbeats 2000000 in
theorem read_16 (s : ByteArray) (w : World) (hE : Env w) (hs : s.size ≤ 1048576) : Calls Tryz.prog 13 #[.int .i64 16, .string s] w fun e w' => e = .returned (.tuple #[.string (readV (readTextsS s) (text16V (readTextsS s).1) s).1, .int .i64 (readV (readTextsS s) (text16V (readTextsS s).1) s).2]) ∧ Below w.heap.size w w' := by
  go_enter Tryz.func13, Tryz.ntmps13
  go_wp2_with fail
  refine (isType_any 16 w).mono ?_
  rintro e w1 ⟨rfl, rfl⟩
  rw [show isTypeB 16 = true from rfl]
  go_wp2_with fail
  refine (formOf_16 w1).mono ?_
  rintro e w2 ⟨⟨N, rfl, _, _⟩, hB⟩
  have hE2 := hE.next hB
  have HB := Lib.hid hB; clear hB
  have kf := fldNil (fnV 128) .nilFunc .nilFunc (.func (.func 199) #[] #[.pointer (some ⟨N, 0, none⟩)]) w2
  go_wp2_with fail
  refine (readTexts_any s w2 hE2 hs).mono ?_
  rintro e w3 ⟨rfl, hB3⟩
  have hE3 := hE2.next hB3
  have HB3 := Lib.hid (HB.out.trans (hB3.mono HB.out.size)); clear hB3
  obtain ⟨r, hr⟩ : ∃ r, r = readTextsS s := ⟨_, rfl⟩
  rw [← hr]
  have HR := Lib.hid hr; clear hr
  obtain ⟨rd, rn⟩ := r
  by_cases h0 : rn = 0
  · subst h0
    go_wp2_with fail
    refine (text_16' rd w3 hE3).mono ?_
    rintro e w4 ⟨rfl, hB4⟩
    have HB4 := Lib.hid (HB3.out.trans (hB4.mono HB3.out.size)); clear hB4
    obtain ⟨x, hx⟩ : ∃ x, x = text16V rd := ⟨_, rfl⟩
    rw [← hx]
    have HX := Lib.hid hx; clear hx
    obtain ⟨xd, xn⟩ := x
    by_cases hxn : xn = 0
    · subst hxn
      by_cases hxs : xd = s
      · have b1 := str_eq hxs
        have HS := Lib.hid hxs; clear hxs
        go_wp2_with fail
        go_ret2
        rw [← HR.out, ← HX.out, readV, if_pos ⟨by trivial, by trivial, HS.out⟩]
        exact ⟨rfl, HB4.out⟩
      · have b1 := str_ne hxs
        have HS := Lib.hid hxs; clear hxs
        go_wp2_with fail
        go_ret2
        rw [← HR.out, ← HX.out, readV, if_neg (fun h => HS.out h.2.2)]
        exact ⟨rfl, HB4.out⟩
    · go_wp2_with fail
      go_ret2
      rw [← HR.out, ← HX.out, readV, if_neg (fun h => hxn h.2.1)]
      exact ⟨rfl, HB4.out⟩
  · go_wp2_with fail
    go_ret2
    rw [← HR.out, readV, if_neg (fun h => h0 h.1)]
    exact ⟨rfl, HB3.out⟩
end Go.Proofs.YtnllofjjffflkaaGreatDoor
