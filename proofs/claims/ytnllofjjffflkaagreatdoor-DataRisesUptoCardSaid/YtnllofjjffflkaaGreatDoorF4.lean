/- Walk of readTexts; for texts of at most 2^20 bytes. -/
import Derived.Test.YtnllofjjffflkaaGreatDoorF3
set_option linter.unusedSimpArgs false
set_option linter.unusedVariables false
namespace Go.Proofs.YtnllofjjffflkaaGreatDoor
open Go.RowKit Gp
abbrev u8At (s : ByteArray) (i : Nat) : UInt8 := s.data.toList.getD i 0
/-- A byte behind a backslash, and where what is behind it begins. -/
def escB (s : ByteArray) (j : Nat) : UInt8 × Nat :=
  match pu8 (s.extract j (min (j + 3) s.size)) with
  | some u => if j + 3 ≤ s.size then (UInt8.ofNat u, j + 3) else (u8At s j, j + 1)
  | none => (u8At s j, j + 1)
theorem escB_eq (s : ByteArray) (j : Nat) : escB s j = match pu8 (s.extract j (min (j + 3) s.size)) with
  | some u => if j + 3 ≤ s.size then (UInt8.ofNat u, j + 3) else (u8At s j, j + 1)
  | none => (u8At s j, j + 1) := by unfold escB; split <;> rfl
/-- One text, to its closing quote. -/
def readOne (s : ByteArray) : Nat → Nat → List UInt8 → Option (List UInt8 × Nat)
  | 0, _, _ => none
  | k + 1, i, acc =>
    if s.size ≤ i then none
    else if bN s i = 34 then some (acc, i + 1)
    else if bN s i = 92 then (if s.size ≤ i + 1 then none else readOne s k (escB s (i + 1)).2 (acc ++ [(escB s (i + 1)).1]))
    else readOne s k (i + 1) (acc ++ [u8At s i])
def oneTop (s : ByteArray) (i : Nat) : Option (List UInt8 × Nat) := readOne s (s.size + 1) i []
/-- All texts. -/
def readAll (s : ByteArray) : Nat → Nat → List UInt8 → Bool → Option (List UInt8 × Bool)
  | 0, _, _, _ => none
  | k + 1, i, l, bad =>
    if s.size ≤ i then some (l, bad)
    else if bN s i = 34 then
      match oneTop s (i + 1) with
      | none => none
      | some (t, j) => readAll s k (if j < s.size then j + 1 else j) ((l ++ be ((ofL t).size : Int) 1) ++ (ofL t).data.toList) ((bad || badNum ((ofL t).size : Int) 1) || decide (((ofL t).size : Int) < 0))
    else none
def readTop (s : ByteArray) : Option (List UInt8 × Bool) := readAll s (s.size + 1) 0 [] false
def readTextsS (s : ByteArray) : ByteArray × Int := match readTop s with
  | some (l, bad) => doneV l bad
  | none => (⟨#[]⟩, 7)
theorem Sink.next {B : Nat} {w w' : World} {l : List UInt8} {bad : Bool} (h : Sink B w l bad) (hb : Below w.heap.size w w') : Sink B w' l bad := by
  obtain ⟨ov, hc, ho⟩ := h
  exact ⟨ov, (hb.block B (Array.getElem?_eq_some_iff.1 hc).1).trans hc, pw_own_below ho hb⟩
set_option maxRecDepth 100000 in
set_option maxHeartbeats 8000000 in
theorem readTexts_any (s : ByteArray) (w : World) (hE : Env w) (hs : s.size ≤ 1048576) : Calls Tryz.prog 53 #[.string s] w fun e w' => e = .returned (.tuple #[.string (readTextsS s).1, .int .i64 (readTextsS s).2]) ∧ Below w.heap.size w w' := by
  obtain ⟨i0, hi0, hz0, hz1, hz2⟩ := info_parts info5
  have hE8 := hE.size
  go_enter Tryz.func53, Tryz.ntmps53
  go_wp2_with fail
  obtain ⟨W, hW⟩ : ∃ W, W = w.alloc (.cells #[.slice none 0 0, .bool false] 128) := ⟨_, rfl⟩
  have hS0 : Sink w.heap.size W [] false := by rw [hW]; exact sink_new w
  have hBW : Below w.heap.size w W := by rw [hW]; exact (Below.refl _ _).alloc (Nat.le_refl _) _
  rw [← hW]
  clear hW
  go_loopw [5] (fun iv wr => ∃ (k i : Nat) (l : List UInt8) (bad : Bool), iv = .int .i64 (i : Int) ∧ readTop s = readAll s k i l bad ∧ s.size < k + i ∧ i ≤ s.size ∧ l.length ≤ 2 * i ∧ Sink w.heap.size wr l bad ∧ Below w.heap.size w wr) (fun iv _ => s.size - (intOf iv).toNat)
  case atStart => exact ⟨s.size + 1, 0, [], false, rfl, rfl, by omega, by omega, by simp, hS0, hBW⟩
  case round =>
    obtain ⟨k, i, l, bad, rfl, hread, hk, hi, hl, hS, hB⟩ := hrel
    by_cases hlt : i < s.size
    · have hx := run_idx s i hlt
      by_cases hq : bN s i = 34
      · have b1 : ((bN s i : Int) == 34) = true := beq_iff_eq.2 (by omega)
        obtain ⟨k, rfl⟩ : ∃ m, k = m + 1 := ⟨k - 1, by omega⟩
        rw [readAll, if_neg (by omega), if_pos hq] at hread
        have HR := Lib.hid hread; clear hread
        obtain ⟨V0, rfl⟩ : ∃ x, x = wr := ⟨_, rfl⟩
        have hB8 := hB.size
        have HS := Lib.hid (And.intro hS hB); clear hS hB
        go_wp2_with fail
        clear hx b1
        go_loopw [5, 6] (fun iv ov wr => ∃ (m j : Nat) (acc : List UInt8), iv = .int .i64 (j : Int) ∧ oneTop s (i + 1) = readOne s m j acc ∧ s.size < m + j ∧ j ≤ s.size ∧ acc.length + i + 1 ≤ j ∧ wr.ownsRow V0.heap.size 5 1 ov acc.length (bc acc) ∧ Below V0.heap.size V0 wr) (fun iv _ _ => s.size + 1 - (intOf iv).toNat)
        case atStart => exact ⟨s.size + 1, i + 1, [], by go_num, rfl, by omega, by omega, by simp, ⟨rfl, .inl ⟨rfl, rfl⟩⟩, Below.refl _ _⟩
        case round =>
          obtain ⟨m, j, acc, rfl, hone, hm, hj, hal, hown, hBr⟩ := hrel
          have hszr := hBr.size
          have HB := Lib.hid hBr; clear hBr
          by_cases hjl : j < s.size
          · have hx := run_idx s j hjl
            have h256 := bN_lt s j
            obtain ⟨m, rfl⟩ : ∃ m', m = m' + 1 := ⟨m - 1, by omega⟩
            rw [readOne, if_neg (by omega)] at hone
            by_cases hq2 : bN s j = 34
            · have b1 : ((bN s j : Int) == 34) = true := beq_iff_eq.2 (by omega)
              rw [if_pos hq2] at hone
              have HN := Lib.hid hone; clear hone
              have ks := own_str hown
              clear hown
              have hS2 := HS.out.1.next HB.out
              have hBw := HS.out.2.trans (HB.out.mono hB8)
              have hos : (ofL acc).size = acc.length := ofL_size acc
              have HT := Lib.hid (And.intro hS2 hBw); clear hS2 hBw
              go_wp2_with fail
              refine (sink_short w.heap.size (ofL acc) 0 l bad wr HT.out.1 (by omega)).mono ?_
              rintro e w3 ⟨rfl, hS3, hF3⟩
              have hB3 := HT.out.2.trans hF3.below
              have HS3 := Lib.hid (And.intro hS3 hB3); clear hS3 hB3 hF3
              rw [HN.out] at HR
              by_cases hj1 : j + 1 < s.size
              · go_wp2_with fail
                go_roundw
                case rel =>
                  refine ⟨k, j + 1 + 1, _, _, by go_num, ?_, by omega, by omega, ?_, HS3.out.1, HS3.out.2⟩
                  · rw [HR.out]; simp only [if_pos hj1]
                  · simp only [List.length_append, be_length, data_length]; omega
                case measure => simp [intOf]; omega
              · go_wp2_with fail
                go_roundw
                case rel =>
                  refine ⟨k, j + 1, _, _, by go_num, ?_, by omega, by omega, ?_, HS3.out.1, HS3.out.2⟩
                  · rw [HR.out]; simp only [if_neg hj1]
                  · simp only [List.length_append, be_length, data_length]; omega
                case measure => simp [intOf]; omega
            · have b1 : ((bN s j : Int) == 34) = false := beq_eq_false_iff_ne.2 (by omega)
              rw [if_neg hq2] at hone
              by_cases hq3 : bN s j = 92
              · have b2 : ((bN s j : Int) == 92) = true := beq_iff_eq.2 (by omega)
                rw [if_pos hq3] at hone
                by_cases hj1 : j + 1 < s.size
                · have h256' := bN_lt s (j + 1)
                  rw [if_neg (by omega)] at hone
                  obtain ⟨c8, hc8⟩ : ∃ c8, c8 = u8At s (j + 1) := ⟨_, rfl⟩
                  have hcb : bN s (j + 1) = c8.toNat := by rw [hc8]; rfl
                  have hx2 : ∀ W, (Instr.index 9 (.string s) (.int .i64 ((j : Int) + 1))).run Tryz.prog W = .ok (.int .u8 (c8.toNat : Int)) W := fun W => by
                    have := run_idx s (j + 1) hj1 W
                    rwa [show ((j + 1 : Nat) : Int) = (j : Int) + 1 from by omega, hcb] at this
                  rw [hcb] at h256'
                  have hEw := Lib.hid (hE.below (HS.out.2.trans (HB.out.mono hB8)) hE8)
                  have hPs : (s.extract (j + 1) (min (j + 1 + 3) s.size)).size ≤ 1073741824 := by rw [ByteArray.size_extract]; omega
                  have hesc : escB s (j + 1) = match pu8 (s.extract (j + 1) (min (j + 1 + 3) s.size)) with
                    | some u => if j + 1 + 3 ≤ s.size then (UInt8.ofNat u, j + 1 + 3) else (c8, j + 1 + 1)
                    | none => (c8, j + 1 + 1) := by rw [hc8]; exact escB_eq s (j + 1)
                  obtain ⟨P, hP⟩ : ∃ P, P = s.extract (j + 1) (min (j + 1 + 3) s.size) := ⟨_, rfl⟩
                  have hPe : s.extract (j + 1) (min ((j : Int) + 1 + 1 + 2) (s.size : Int)).toNat = P := by
                    rw [hP]; congr 1; omega
                  rw [← hP] at hPs hesc
                  have HPe := Lib.hid hPe
                  clear hP hc8 hcb hPe
                  cases hpu : pu8 P with
                  | none =>
                    rw [hpu] at hesc
                    rw [hesc] at hone
                    have HN := Lib.hid hone; clear hone hesc
                    have HPU := Lib.hid hpu; clear hpu
                    go_wp2_with fail
                    rw [HPe.out]
                    have hp8 := pu8_any P wr hEw.out hPs
                    rw [HPU.out] at hp8
                    refine hp8.mono ?_
                    rintro e w2 ⟨⟨x, M, rfl⟩, hB2⟩
                    have hown2 := pw_own_below hown hB2
                    have hsz2 := hB2.size
                    have HB2 := Lib.hid (HB.out.trans (hB2.mono hszr)); clear hB2 hown hx hx2 hEw hp8
                    have q1 : acc.length + 1 ≤ maxLen := by unfold maxLen; omega
                    have q2 : (acc.length + 1) * 1 ≤ 140737488355328 := by omega
                    have q3 : V0.heap.size ≤ (w2.alloc (.cells #[.int .u8 ((c8).toNat : Int)] 5)).heap.size := by simp; omega
                    go_wp2_with (at_builtin; refine wpList_append_own _ rfl _ _ 126 rfl V0.heap.size 5 i0 (.int .u8 0) 1 1 Tryz.underlying126 hi0 hz0 hz1 hz2 rfl (by decide) _ _ _ rfl (hown2.alloc _) ⟨w2.heap.size, 0, none⟩ 1 1 [.int .u8 ((c8).toNat : Int)] rfl rfl (cell_one_new _ _ _) (by simp [Value.oneCell']) q1 q2 q3 ?_)
                    intro v' w3 hown' hgrow _
                    obtain ⟨g', cap', rfl⟩ := ownsRow_succ hown'
                    have HB3 := Lib.hid ((HB2.out.alloc (by omega) _).grown hgrow q3 (own_from hown2))
                    have HO3 := Lib.hid hown'; clear hown' hgrow hown2
                    go_wp2
                    go_roundw
                    case rel => exact ⟨m, j + 1 + 1, acc ++ [c8], by go_num, HN.out, by omega, by omega, by simp; omega, by simpa [bc] using HO3.out, HB3.out⟩
                    case measure => simp [intOf]; omega
                  | some u =>
                    rw [hpu] at hesc
                    by_cases h3 : j + 1 + 3 ≤ s.size
                    · simp only [if_pos h3] at hesc
                      rw [hesc] at hone
                      have HN := Lib.hid hone; clear hone hesc
                      have HPU := Lib.hid hpu; clear hpu
                      have hcv : ∀ W, (convert 174 5 (.int .u64 (u : Int))).run Tryz.prog W = .ok (.int .u8 ((UInt8.ofNat u).toNat : Int)) W := by
                        intro W
                        have : (((UInt8.ofNat u).toNat : Nat) : Int) = (u : Int) % 256 := by simp [UInt8.toNat_ofNat']
                        rw [this]
                        simp [go_sem]
                        rfl
                      go_wp2_with fail
                      rw [HPe.out]
                      have hp8 := pu8_any P wr hEw.out hPs
                      rw [HPU.out] at hp8
                      refine hp8.mono ?_
                      rintro e w2 ⟨rfl, hB2⟩
                      have hown2 := pw_own_below hown hB2
                      have hsz2 := hB2.size
                      have HB2 := Lib.hid (HB.out.trans (hB2.mono hszr)); clear hB2 hown hx hx2 hEw hp8
                      have q1 : acc.length + 1 ≤ maxLen := by unfold maxLen; omega
                      have q2 : (acc.length + 1) * 1 ≤ 140737488355328 := by omega
                      have q3 : V0.heap.size ≤ (w2.alloc (.cells #[.int .u8 ((UInt8.ofNat u).toNat : Int)] 5)).heap.size := by simp; omega
                      go_wp2_with (at_builtin; refine wpList_append_own _ rfl _ _ 126 rfl V0.heap.size 5 i0 (.int .u8 0) 1 1 Tryz.underlying126 hi0 hz0 hz1 hz2 rfl (by decide) _ _ _ rfl (hown2.alloc _) ⟨w2.heap.size, 0, none⟩ 1 1 [.int .u8 ((UInt8.ofNat u).toNat : Int)] rfl rfl (cell_one_new _ _ _) (by simp [Value.oneCell']) q1 q2 q3 ?_)
                      intro v' w3 hown' hgrow _
                      obtain ⟨g', cap', rfl⟩ := ownsRow_succ hown'
                      have HB3 := Lib.hid ((HB2.out.alloc (by omega) _).grown hgrow q3 (own_from hown2))
                      have HO3 := Lib.hid hown'; clear hown' hgrow hown2
                      go_wp2
                      go_roundw
                      case rel => exact ⟨m, j + 1 + 3, acc ++ [UInt8.ofNat u], by go_num, HN.out, by omega, by omega, by simp; omega, by simpa [bc] using HO3.out, HB3.out⟩
                      case measure => simp [intOf]; omega
                    · simp only [if_neg h3] at hesc
                      rw [hesc] at hone
                      have HN := Lib.hid hone; clear hone hesc
                      have HPU := Lib.hid hpu; clear hpu
                      go_wp2_with fail
                      rw [HPe.out]
                      have hp8 := pu8_any P wr hEw.out hPs
                      rw [HPU.out] at hp8
                      refine hp8.mono ?_
                      rintro e w2 ⟨rfl, hB2⟩
                      have hown2 := pw_own_below hown hB2
                      have hsz2 := hB2.size
                      have HB2 := Lib.hid (HB.out.trans (hB2.mono hszr)); clear hB2 hown hx hx2 hEw hp8
                      have q1 : acc.length + 1 ≤ maxLen := by unfold maxLen; omega
                      have q2 : (acc.length + 1) * 1 ≤ 140737488355328 := by omega
                      have q3 : V0.heap.size ≤ (w2.alloc (.cells #[.int .u8 ((c8).toNat : Int)] 5)).heap.size := by simp; omega
                      go_wp2_with (at_builtin; refine wpList_append_own _ rfl _ _ 126 rfl V0.heap.size 5 i0 (.int .u8 0) 1 1 Tryz.underlying126 hi0 hz0 hz1 hz2 rfl (by decide) _ _ _ rfl (hown2.alloc _) ⟨w2.heap.size, 0, none⟩ 1 1 [.int .u8 ((c8).toNat : Int)] rfl rfl (cell_one_new _ _ _) (by simp [Value.oneCell']) q1 q2 q3 ?_)
                      intro v' w3 hown' hgrow _
                      obtain ⟨g', cap', rfl⟩ := ownsRow_succ hown'
                      have HB3 := Lib.hid ((HB2.out.alloc (by omega) _).grown hgrow q3 (own_from hown2))
                      have HO3 := Lib.hid hown'; clear hown' hgrow hown2
                      go_wp2
                      go_roundw
                      case rel => exact ⟨m, j + 1 + 1, acc ++ [c8], by go_num, HN.out, by omega, by omega, by simp; omega, by simpa [bc] using HO3.out, HB3.out⟩
                      case measure => simp [intOf]; omega
                · rw [if_pos (by omega)] at hone
                  have HN := Lib.hid hone; clear hone
                  go_wp2_with fail
                  go_ret2
                  rw [HN.out] at HR
                  refine ⟨?_, HS.out.2.trans (HB.out.mono hB8)⟩
                  rw [readTextsS, HR.out]; rfl
              · have b2 : ((bN s j : Int) == 92) = false := beq_eq_false_iff_ne.2 (by omega)
                rw [if_neg hq3] at hone
                obtain ⟨c8, hc8⟩ : ∃ c8, c8 = u8At s j := ⟨_, rfl⟩
                have hcb : bN s j = c8.toNat := by rw [hc8]; rfl
                rw [hcb] at hx h256 b1 b2
                rw [← hc8] at hone
                clear hcb hc8
                have HN := Lib.hid hone; clear hone
                have q1 : acc.length + 1 ≤ maxLen := by unfold maxLen; omega
                have q2 : (acc.length + 1) * 1 ≤ 140737488355328 := by omega
                have q3 : V0.heap.size ≤ (wr.alloc (.cells #[.int .u8 ((c8).toNat : Int)] 5)).heap.size := by simp; omega
                go_wp2_with (at_builtin; refine wpList_append_own _ rfl _ _ 126 rfl V0.heap.size 5 i0 (.int .u8 0) 1 1 Tryz.underlying126 hi0 hz0 hz1 hz2 rfl (by decide) _ _ _ rfl (hown.alloc _) ⟨wr.heap.size, 0, none⟩ 1 1 [.int .u8 ((c8).toNat : Int)] rfl rfl (cell_one_new _ _ _) (by simp [Value.oneCell']) q1 q2 q3 ?_)
                intro v' w3 hown' hgrow _
                obtain ⟨g', cap', rfl⟩ := ownsRow_succ hown'
                have HB3 := Lib.hid ((HB.out.alloc (by omega) _).grown hgrow q3 (own_from hown))
                have HO3 := Lib.hid hown'; clear hown' hgrow hown
                go_wp2
                go_roundw
                case rel => exact ⟨m, j + 1, acc ++ [c8], by go_num, HN.out, by omega, by omega, by simp; omega, by simpa [bc] using HO3.out, HB3.out⟩
                case measure => simp [intOf]; omega
          · obtain rfl : j = s.size := by omega
            obtain ⟨m, rfl⟩ : ∃ m', m = m' + 1 := ⟨m - 1, by omega⟩
            rw [readOne, if_pos (by omega)] at hone
            have HN := Lib.hid hone; clear hone
            go_wp2_with fail
            go_ret2
            rw [HN.out] at HR
            refine ⟨?_, HS.out.2.trans (HB.out.mono hB8)⟩
            rw [readTextsS, HR.out]; rfl
      · have b1 : ((bN s i : Int) == 34) = false := beq_eq_false_iff_ne.2 (by omega)
        obtain ⟨k, rfl⟩ : ∃ m, k = m + 1 := ⟨k - 1, by omega⟩
        rw [readAll, if_neg (by omega), if_neg hq] at hread
        have HR := Lib.hid hread; clear hread
        go_wp2_with fail
        go_ret2
        refine ⟨?_, hB⟩
        rw [readTextsS, HR.out]; rfl
    · obtain rfl : i = s.size := by omega
      obtain ⟨k, rfl⟩ : ∃ m, k = m + 1 := ⟨k - 1, by omega⟩
      rw [readAll, if_pos (by omega)] at hread
      have HR := Lib.hid hread; clear hread
      go_wp2_with fail
      refine (sink_done w.heap.size l bad wr hS (by omega)).mono ?_
      rintro e w3 ⟨rfl, rfl⟩
      go_wp2_with fail
      go_ret2
      refine ⟨?_, hB⟩
      rw [readTextsS, HR.out]; rfl
end Go.Proofs.YtnllofjjffflkaaGreatDoor
