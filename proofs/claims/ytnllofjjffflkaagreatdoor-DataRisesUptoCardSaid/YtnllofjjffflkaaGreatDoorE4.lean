/- Walk of grouped: digits of four and of five bits; for texts of at most 2^30 bytes. -/
import Derived.Test.YtnllofjjffflkaaGreatDoorE3
import Derived.Test.YtnllofjjffflkaaGreatDoorP1
set_option linter.unusedSimpArgs false
set_option linter.unusedVariables false
namespace Go.Proofs.YtnllofjjffflkaaGreatDoor
open Go.RowKit Gp
theorem emit_length (k V : Nat) : ∀ n h, (emit k V n h).length ≤ n
  | 0, _ => by simp [emit]
  | n + 1, h => by
    rw [emit]; split
    · simp only [List.length_cons]; have := emit_length k V n (h - k); omega
    · simp
theorem grp_step (k : Nat) (s : ByteArray) (n h v : Nat) (out : List UInt8) (h1 : h = (grp k s n).1) (h2 : v = (grp k s n).2.1) (h3 : out = (grp k s n).2.2) :
    grp k s (n + 1) = ((h + 8) % k, (v * 256 + bN s n) % 2 ^ ((h + 8) % k), out ++ emit k (v * 256 + bN s n) 8 (h + 8)) := by
  rw [grp_succ, ← h1, ← h2, ← h3]
theorem groupedL_eq (k : Nat) (s : ByteArray) (h v : Nat) (out : List UInt8) (h1 : h = (grp k s s.size).1) (h2 : v = (grp k s s.size).2.1) (h3 : out = (grp k s s.size).2.2) :
    groupedL k s = if 0 < h then out ++ [letter (v * 2 ^ (k - h))] else out := by subst h1 h2 h3; rfl
def digitsS : ByteArray := ⟨#[48, 49, 50, 51, 52, 53, 54, 55, 56, 57, 97, 98, 99, 100, 101, 102, 103, 104, 105, 106, 107, 108, 109, 110, 111, 112, 113, 114, 115, 116, 117, 118]⟩
theorem digits_all : ∀ m, m < 32 → bN digitsS m = (letter m).toNat := by decide
theorem run_letter (K m : Nat) (hK : K ≤ 5) (h : m < 2 ^ K) (w : World) : (Instr.index 9 (.string digitsS) (.int .i64 (m : Int))).run Tryz.prog w = .ok (.int .u8 ((letter m).toNat : Int)) w := by
  have hm : m < 32 := Nat.lt_of_lt_of_le h (Nat.pow_le_pow_right (by decide) hK : 2 ^ K ≤ 2 ^ 5)
  rw [run_idx digitsS m hm, digits_all m hm]
theorem wrap64_nat (a : Int) (h0 : -9223372036854775808 ≤ a) (h1 : a < 9223372036854775808) : wrap64 a = a := by unfold wrap64; omega
theorem wrap_mask (h : Nat) (hh : h < 8) : wrap64 (wrap64 (2 ^ h) - 1) = (2 : Int) ^ h - 1 := by
  have h1 : (2 : Nat) ^ h < 2 ^ 8 := Nat.pow_lt_pow_right (by decide) hh
  have h2 : 1 ≤ (2 : Nat) ^ h := Nat.pow_pos (by decide)
  have e : (2 : Int) ^ h = ((2 ^ h : Nat) : Int) := by simp
  rw [e]
  generalize (2 : Nat) ^ h = x at *
  rw [wrap64_nat (x : Int) (by omega) (by omega), wrap64_nat _ (by omega) (by omega)]
theorem and_mask (K : Nat) (hK : K ≤ 62) (V j : Nat) (hV : V < 2 ^ 63) : bits .and .i64 ((V : Int) / 2 ^ j) ((2 ^ K - 1 : Nat) : Int) = ((V / 2 ^ j % 2 ^ K : Nat) : Int) := by
  have e : ((V : Int) / 2 ^ j) = ((V / 2 ^ j : Nat) : Int) := by
    rw [Int.natCast_ediv, Int.natCast_pow]; rfl
  have h2 : (2 : Nat) ^ K ≤ 2 ^ 62 := Nat.pow_le_pow_right (by decide) hK
  rw [e, bits_and_nat _ _ (Nat.lt_of_le_of_lt (Nat.div_le_self _ _) hV) (by omega), Nat.and_two_pow_sub_one_eq_mod]

set_option maxRecDepth 100000 in
set_option maxHeartbeats 4000000 in
theorem grouped4_any (s : ByteArray) (w : World) (hs : s.size ≤ 1073741824) : Calls Tryz.prog 205 #[.string s, .int .i64 4] w fun e w' => e = .returned (.string (ofL (groupedL 4 s))) ∧ Below w.heap.size w w' := by
  obtain ⟨i0, hi0, hz0, hz1, hz2⟩ := info_parts info5
  have kb := fun (W : World) => Lib.run_convert_string_bytes (P := Tryz.prog) W 9 126 5 s Tryz.underlying9 Tryz.underlying126 Tryz.underlying5
  have hsz1 : (Lib.bytesWorld w 5 s).heap.size = w.heap.size + 1 := Lib.bytesWorld_size w 5 s
  have hb1 := bytesW_below w 5 s
  have hcell := fun j hj => bytes_cell w s j hj
  go_enter Tryz.func205, Tryz.ntmps205
  go_wp2_with fail
  clear kb
  obtain ⟨W1, hW1⟩ : ∃ W1, W1 = Lib.bytesWorld w 5 s := ⟨_, rfl⟩
  rw [← hW1] at hsz1 hb1 hcell ⊢
  clear hW1
  go_loopw [5, 6, 7, 13] (fun ov hv vv iv wr => ∃ k : Nat, k ≤ s.size ∧ iv = .int .i64 (k : Int) ∧ hv = .int .i64 ((grp 4 s k).1 : Int) ∧ vv = .int .i64 ((grp 4 s k).2.1 : Int) ∧ (grp 4 s k).2.2.length ≤ 8 * k ∧ wr.ownsRow (w.heap.size + 1) 5 1 ov (grp 4 s k).2.2.length (bc (grp 4 s k).2.2) ∧ Below (w.heap.size + 1) W1 wr) (fun _ _ _ iv _ => s.size - (intOf iv).toNat)
  case atStart => exact ⟨0, Nat.zero_le _, rfl, rfl, rfl, by simp [grp], ⟨rfl, .inl ⟨rfl, rfl⟩⟩, Below.refl _ _⟩
  case round =>
    obtain ⟨k, hk, rfl, rfl, rfl, hol, hown, hB⟩ := hrel
    obtain ⟨h, hh⟩ : ∃ h, h = (grp 4 s k).1 := ⟨_, rfl⟩
    obtain ⟨v, hv⟩ : ∃ v, v = (grp 4 s k).2.1 := ⟨_, rfl⟩
    obtain ⟨out, ho⟩ : ∃ out, out = (grp 4 s k).2.2 := ⟨_, rfl⟩
    have h1 : h < 4 := by rw [hh]; exact grp_h 4 (by decide) s k
    have h2' : v < 2 ^ h := by
      have := grp_v 4 s k
      rw [← hv, ← hh] at this
      exact this
    have h2 : v < 16 := by
      have := h2'
      exact Nat.lt_of_lt_of_le this (Nat.pow_le_pow_right (by decide) (by omega) : 2 ^ h ≤ 2 ^ 4)
    rw [← ho] at hol hown
    rw [← hh, ← hv]
    have H2 := Lib.hid h2'; clear h2'
    have HG := Lib.hid (And.intro hh (And.intro hv ho)); clear hh hv ho
    by_cases hlt : k < s.size
    · have hc : wr.cell? ⟨w.heap.size, k, none⟩ = some (.int .u8 (bN s k : Int)) := (hB.cell (p := ⟨w.heap.size, k, none⟩) (by simp)).trans (hcell k hlt)
      have h256 := bN_lt s k
      have ho := bits_or_nat (v * 256) (bN s k) (by omega) (by omega)
      rw [show v * 256 = v * 2 ^ 8 from rfl, or_add _ _ 8 h256] at ho
      rw [show v * 2 ^ 8 = v * 256 from rfl] at ho
      have e1 : (((v * 256 : Nat) : Int)) = (v : Int) * 256 := by omega
      rw [e1] at ho; clear e1
      have hg := grp_step 4 s k h v out HG.out.1 HG.out.2.1 HG.out.2.2
      have HS := Lib.hid hg; clear hg
      have e2 : ((v * 256 + bN s k : Nat) : Int) = (v : Int) * 256 + (bN s k : Int) := by omega
      obtain ⟨V, hV⟩ : ∃ V, V = v * 256 + bN s k := ⟨_, rfl⟩
      have hVl : V < 16 * 256 := by omega
      rw [← hV] at e2 HS
      have HB := Lib.hid hB; clear hB
      have HC := Lib.hid hcell; clear hcell
      go_wp2_with fail
      rw [← e2]
      clear e2 hV ho hc
      go_loopw [5, 6] (fun ov hv wr => ∃ (n hc : Nat) (part : List UInt8), hv = .int .i64 (hc : Int) ∧ hc ≤ h + 8 ∧ hc ≤ 4 * n ∧ hc % 4 = (h + 8) % 4 ∧ part ++ emit 4 V n hc = emit 4 V 8 (h + 8) ∧ wr.ownsRow (w.heap.size + 1) 5 1 ov (out ++ part).length (bc (out ++ part)) ∧ Below (w.heap.size + 1) W1 wr) (fun _ hv _ => (intOf hv).toNat)
      case atStart => exact ⟨8, h + 8, [], rfl, Nat.le_refl _, by omega, rfl, rfl, by rw [List.append_nil]; exact hown, HB.out⟩
      case round =>
        obtain ⟨n, hc, part, rfl, hch, hcn, hcm, hpart, hown, hB⟩ := hrel
        by_cases hge : 4 ≤ hc
        · obtain ⟨n, rfl⟩ : ∃ m, n = m + 1 := ⟨n - 1, by omega⟩
          rw [emit, if_pos hge] at hpart
          have hl2 : part.length ≤ 8 := by
            have := congrArg List.length hpart
            have h3 := emit_length 4 V 8 (h + 8)
            rw [List.length_append] at this; omega
          have hx := run_letter 4 (V / 2 ^ (hc - 4) % 2 ^ 4) (by decide) (Nat.mod_lt _ (by decide))
          obtain ⟨m, hmm⟩ : ∃ m, m = V / 2 ^ (hc - 4) % 2 ^ 4 := ⟨_, rfl⟩
          rw [← hmm] at hx hpart
          have s1 : (0 : Int) ≤ (hc : Int) - 4 := by omega
          have s2 : ((hc : Int) - 4).toNat = hc - 4 := by omega
          have s3 : min (hc - 4) 64 = hc - 4 := by omega
          have s4 : bits .and .i64 ((V : Int) / 2 ^ (hc - 4)) 15 = (m : Int) := by rw [hmm]; exact and_mask 4 (by decide) V (hc - 4) (by omega)
          have s5 : IntKind.i64.wrap ((hc : Int) - 4) = (hc : Int) - 4 := IntWalk.i64_in _ (by omega)
          have s6 : IntKind.i64.wrap 16 = 16 := by decide
          have s7 : IntKind.i64.wrap 15 = 15 := by decide
          simp only [digitsS] at hx
          have q1 : (out ++ part).length + 1 ≤ maxLen := by rw [List.length_append]; unfold maxLen; omega
          have q2 : ((out ++ part).length + 1) * 1 ≤ 140737488355328 := by rw [List.length_append]; omega
          have hszr := hB.size
          have q3 : w.heap.size + 1 ≤ (wr.drew.alloc (.cells #[.int .u8 ((letter m).toNat : Int)] 5)).heap.size := by simp; omega
          have HP := Lib.hid (And.intro hpart hmm); clear hpart hmm
          have HB2 := Lib.hid hB; clear hB
          go_wp2_with fail
          go_region_law ((refine step_append_lies _ (by rfl) _ _ _ (by rfl) (w.heap.size + 1) 5 i0 _ 1 1 Tryz.underlying126 hi0 hz0 hz1 hz2 rfl (by decide) _ _ (bc (out ++ part)) (by rfl) ((hown.alloc _).drew) ⟨wr.heap.size, 0, none⟩ 1 1 [.int .u8 ((letter m).toNat : Int)] (by rfl) (by rfl) (World.news_of_block (cs := #[.int .u8 ((letter m).toNat : Int)]) (t := 5) (fr := (0, 0)) (heap_alloc_new wr _)) (by simp [Value.oneCell']) (by decide) q1 q2 q3 (wr.heap.size + 1) (by simp) ?_; intro gg cap w1 hown1 hgrow hat hlt))
          all_goals
            go_wp2
            have HB3 := Lib.hid ((((HB2.out.alloc (by omega) _).drew).grown hgrow q3 (own_from hown)))
            have HO3 := Lib.hid hown1; clear hown1 hgrow hown hat hlt
            go_roundw
            case rel =>
              refine ⟨n, hc - 4, part ++ [letter m], ?_, by omega, by omega, ?_, ?_, ?_, HB3.out⟩
              · rw [Int.natCast_sub hge]; rfl
              · rw [← hcm]; exact (Nat.mod_eq_sub_mod hge).symm
              · rw [← HP.out.1, HP.out.2]; simp
              · have h := HO3.out
                rw [← List.append_assoc, bc_append]
                simpa [bc, Nat.add_assoc] using h
            case measure => simp [intOf]; omega
        · have hz : emit 4 V n hc = [] := by
            cases n with
            | zero => rfl
            | succ n => rw [emit, if_neg hge]
          rw [hz, List.append_nil] at hpart
          have hc1 : hc = (h + 8) % 4 := by rw [← hcm, Nat.mod_eq_of_lt (by omega)]
          have HP := Lib.hid (And.intro hpart hc1); clear hpart hc1 hz
          have HB2 := Lib.hid hB; clear hB
          have HO := Lib.hid hown; clear hown
          have hp1 : 1 ≤ 2 ^ hc := Nat.pow_pos (by decide)
          have s1 : (0 : Int) ≤ (hc : Int) := by omega
          have s4 : bits .and .i64 (V : Int) (wrap64 (wrap64 (2 ^ hc) - 1)) = ((V % 2 ^ hc : Nat) : Int) := by
            have hw : wrap64 (wrap64 (2 ^ hc) - 1) = (2 : Int) ^ hc - 1 := wrap_mask hc (by omega)
            have := and_mask hc (by omega) V 0 (by omega)
            rw [Nat.pow_zero, Nat.div_one, Int.natCast_sub hp1] at this
            rw [hw]
            simpa using this
          have HS4 := Lib.hid s4; clear s4
          go_wp2_with fail
          refine ⟨⟨k + 1, by omega, by go_num, ?_, ?_, ?_, ?_, HB2.out⟩, by simp [intOf]; omega⟩
          · rw [HS.out, HP.out.2]
          · rw [HS.out, HS4.out, HP.out.2]
          · rw [HS.out]
            show (out ++ emit 4 V 8 (h + 8)).length ≤ _
            rw [List.length_append]
            have := emit_length 4 V 8 (h + 8)
            omega
          · rw [HS.out, ← HP.out.1]; exact HO.out
    · obtain rfl : k = s.size := by omega
      have HB2 := Lib.hid (hb1.trans (hB.mono (by omega))); clear hB
      have hszr := HB2.out.size
      by_cases hp : 0 < h
      · have hx := run_letter 4 (v * 2 ^ (4 - h)) (by decide) (Nat.lt_of_lt_of_le ((Nat.mul_lt_mul_right (Nat.pow_pos (by decide))).2 H2.out) (by rw [← Nat.pow_add]; exact Nat.pow_le_pow_right (by decide) (by omega)))
        have s1 : (0 : Int) ≤ 4 - (h : Int) := by omega
        have s2 : (4 - (h : Int)).toNat = 4 - h := by omega
        obtain ⟨m, hmm⟩ : ∃ m, m = v * 2 ^ (4 - h) := ⟨_, rfl⟩
        rw [← hmm] at hx
        have s4 : wrap64 ((v : Int) * 2 ^ (4 - h)) = (m : Int) := by
          have hml : v * 2 ^ (4 - h) < 2 ^ 4 := Nat.lt_of_lt_of_le ((Nat.mul_lt_mul_right (Nat.pow_pos (by decide))).2 H2.out) (by rw [← Nat.pow_add]; exact Nat.pow_le_pow_right (by decide) (by omega))
          have e : (v : Int) * 2 ^ (4 - h) = (m : Int) := by rw [hmm]; simp
          rw [← hmm] at hml
          rw [e]; exact wrap64_nat _ (by omega) (by omega)
        simp only [digitsS] at hx
        have q1 : out.length + 1 ≤ maxLen := by unfold maxLen; omega
        have q2 : (out.length + 1) * 1 ≤ 140737488355328 := by omega
        have q3 : w.heap.size + 1 ≤ (wr.alloc (.cells #[.int .u8 ((letter m).toNat : Int)] 5)).heap.size := by simp; omega
        have HM := Lib.hid hmm; clear hmm
        go_wp2_with (at_builtin; refine wpList_append_own _ rfl _ _ 126 rfl (w.heap.size + 1) 5 i0 (.int .u8 0) 1 1 Tryz.underlying126 hi0 hz0 hz1 hz2 rfl (by decide) _ _ _ rfl (hown.alloc _) ⟨wr.heap.size, 0, none⟩ 1 1 [.int .u8 ((letter m).toNat : Int)] rfl rfl (cell_one_new _ _ _) (by simp [Value.oneCell']) q1 q2 q3 ?_)
        intro v' w3 hown' hgrow _
        obtain ⟨g', cap', rfl⟩ := ownsRow_succ hown'
        have HB3 := Lib.hid ((HB2.out.alloc (by omega) _).grown hgrow (by simp; omega) (fun k e => by have := own_from hown k e; omega))
        rw [show bc out ++ [Value.int .u8 ((letter m).toNat : Int)] = bc (out ++ [letter m]) from by simp [bc]] at hown'
        have ks := own_str hown'
        clear hown' hgrow hown
        go_wp2
        go_ret
        refine ⟨?_, HB3.out⟩
        refine ret_str ?_
        rw [groupedL_eq 4 s h v out HG.out.1 HG.out.2.1 HG.out.2.2, if_pos hp, ← HM.out]; rfl
      · have ks := own_str hown
        clear hown
        go_wp2
        go_ret
        refine ⟨?_, HB2.out⟩
        refine ret_str ?_
        rw [groupedL_eq 4 s h v out HG.out.1 HG.out.2.1 HG.out.2.2, if_neg hp]; rfl

set_option maxRecDepth 100000 in
set_option maxHeartbeats 4000000 in
theorem grouped5_any (s : ByteArray) (w : World) (hs : s.size ≤ 1073741824) : Calls Tryz.prog 205 #[.string s, .int .i64 5] w fun e w' => e = .returned (.string (ofL (groupedL 5 s))) ∧ Below w.heap.size w w' := by
  obtain ⟨i0, hi0, hz0, hz1, hz2⟩ := info_parts info5
  have kb := fun (W : World) => Lib.run_convert_string_bytes (P := Tryz.prog) W 9 126 5 s Tryz.underlying9 Tryz.underlying126 Tryz.underlying5
  have hsz1 : (Lib.bytesWorld w 5 s).heap.size = w.heap.size + 1 := Lib.bytesWorld_size w 5 s
  have hb1 := bytesW_below w 5 s
  have hcell := fun j hj => bytes_cell w s j hj
  go_enter Tryz.func205, Tryz.ntmps205
  go_wp2_with fail
  clear kb
  obtain ⟨W1, hW1⟩ : ∃ W1, W1 = Lib.bytesWorld w 5 s := ⟨_, rfl⟩
  rw [← hW1] at hsz1 hb1 hcell ⊢
  clear hW1
  go_loopw [5, 6, 7, 13] (fun ov hv vv iv wr => ∃ k : Nat, k ≤ s.size ∧ iv = .int .i64 (k : Int) ∧ hv = .int .i64 ((grp 5 s k).1 : Int) ∧ vv = .int .i64 ((grp 5 s k).2.1 : Int) ∧ (grp 5 s k).2.2.length ≤ 8 * k ∧ wr.ownsRow (w.heap.size + 1) 5 1 ov (grp 5 s k).2.2.length (bc (grp 5 s k).2.2) ∧ Below (w.heap.size + 1) W1 wr) (fun _ _ _ iv _ => s.size - (intOf iv).toNat)
  case atStart => exact ⟨0, Nat.zero_le _, rfl, rfl, rfl, by simp [grp], ⟨rfl, .inl ⟨rfl, rfl⟩⟩, Below.refl _ _⟩
  case round =>
    obtain ⟨k, hk, rfl, rfl, rfl, hol, hown, hB⟩ := hrel
    obtain ⟨h, hh⟩ : ∃ h, h = (grp 5 s k).1 := ⟨_, rfl⟩
    obtain ⟨v, hv⟩ : ∃ v, v = (grp 5 s k).2.1 := ⟨_, rfl⟩
    obtain ⟨out, ho⟩ : ∃ out, out = (grp 5 s k).2.2 := ⟨_, rfl⟩
    have h1 : h < 5 := by rw [hh]; exact grp_h 5 (by decide) s k
    have h2' : v < 2 ^ h := by
      have := grp_v 5 s k
      rw [← hv, ← hh] at this
      exact this
    have h2 : v < 32 := by
      have := h2'
      exact Nat.lt_of_lt_of_le this (Nat.pow_le_pow_right (by decide) (by omega) : 2 ^ h ≤ 2 ^ 5)
    rw [← ho] at hol hown
    rw [← hh, ← hv]
    have H2 := Lib.hid h2'; clear h2'
    have HG := Lib.hid (And.intro hh (And.intro hv ho)); clear hh hv ho
    by_cases hlt : k < s.size
    · have hc : wr.cell? ⟨w.heap.size, k, none⟩ = some (.int .u8 (bN s k : Int)) := (hB.cell (p := ⟨w.heap.size, k, none⟩) (by simp)).trans (hcell k hlt)
      have h256 := bN_lt s k
      have ho := bits_or_nat (v * 256) (bN s k) (by omega) (by omega)
      rw [show v * 256 = v * 2 ^ 8 from rfl, or_add _ _ 8 h256] at ho
      rw [show v * 2 ^ 8 = v * 256 from rfl] at ho
      have e1 : (((v * 256 : Nat) : Int)) = (v : Int) * 256 := by omega
      rw [e1] at ho; clear e1
      have hg := grp_step 5 s k h v out HG.out.1 HG.out.2.1 HG.out.2.2
      have HS := Lib.hid hg; clear hg
      have e2 : ((v * 256 + bN s k : Nat) : Int) = (v : Int) * 256 + (bN s k : Int) := by omega
      obtain ⟨V, hV⟩ : ∃ V, V = v * 256 + bN s k := ⟨_, rfl⟩
      have hVl : V < 32 * 256 := by omega
      rw [← hV] at e2 HS
      have HB := Lib.hid hB; clear hB
      have HC := Lib.hid hcell; clear hcell
      go_wp2_with fail
      rw [← e2]
      clear e2 hV ho hc
      go_loopw [5, 6] (fun ov hv wr => ∃ (n hc : Nat) (part : List UInt8), hv = .int .i64 (hc : Int) ∧ hc ≤ h + 8 ∧ hc ≤ 5 * n ∧ hc % 5 = (h + 8) % 5 ∧ part ++ emit 5 V n hc = emit 5 V 8 (h + 8) ∧ wr.ownsRow (w.heap.size + 1) 5 1 ov (out ++ part).length (bc (out ++ part)) ∧ Below (w.heap.size + 1) W1 wr) (fun _ hv _ => (intOf hv).toNat)
      case atStart => exact ⟨8, h + 8, [], rfl, Nat.le_refl _, by omega, rfl, rfl, by rw [List.append_nil]; exact hown, HB.out⟩
      case round =>
        obtain ⟨n, hc, part, rfl, hch, hcn, hcm, hpart, hown, hB⟩ := hrel
        by_cases hge : 5 ≤ hc
        · obtain ⟨n, rfl⟩ : ∃ m, n = m + 1 := ⟨n - 1, by omega⟩
          rw [emit, if_pos hge] at hpart
          have hl2 : part.length ≤ 8 := by
            have := congrArg List.length hpart
            have h3 := emit_length 5 V 8 (h + 8)
            rw [List.length_append] at this; omega
          have hx := run_letter 5 (V / 2 ^ (hc - 5) % 2 ^ 5) (by decide) (Nat.mod_lt _ (by decide))
          obtain ⟨m, hmm⟩ : ∃ m, m = V / 2 ^ (hc - 5) % 2 ^ 5 := ⟨_, rfl⟩
          rw [← hmm] at hx hpart
          have s1 : (0 : Int) ≤ (hc : Int) - 5 := by omega
          have s2 : ((hc : Int) - 5).toNat = hc - 5 := by omega
          have s3 : min (hc - 5) 64 = hc - 5 := by omega
          have s4 : bits .and .i64 ((V : Int) / 2 ^ (hc - 5)) 31 = (m : Int) := by rw [hmm]; exact and_mask 5 (by decide) V (hc - 5) (by omega)
          have s5 : IntKind.i64.wrap ((hc : Int) - 5) = (hc : Int) - 5 := IntWalk.i64_in _ (by omega)
          have s6 : IntKind.i64.wrap 32 = 32 := by decide
          have s7 : IntKind.i64.wrap 31 = 31 := by decide
          simp only [digitsS] at hx
          have q1 : (out ++ part).length + 1 ≤ maxLen := by rw [List.length_append]; unfold maxLen; omega
          have q2 : ((out ++ part).length + 1) * 1 ≤ 140737488355328 := by rw [List.length_append]; omega
          have hszr := hB.size
          have q3 : w.heap.size + 1 ≤ (wr.drew.alloc (.cells #[.int .u8 ((letter m).toNat : Int)] 5)).heap.size := by simp; omega
          have HP := Lib.hid (And.intro hpart hmm); clear hpart hmm
          have HB2 := Lib.hid hB; clear hB
          go_wp2_with fail
          go_region_law ((refine step_append_lies _ (by rfl) _ _ _ (by rfl) (w.heap.size + 1) 5 i0 _ 1 1 Tryz.underlying126 hi0 hz0 hz1 hz2 rfl (by decide) _ _ (bc (out ++ part)) (by rfl) ((hown.alloc _).drew) ⟨wr.heap.size, 0, none⟩ 1 1 [.int .u8 ((letter m).toNat : Int)] (by rfl) (by rfl) (World.news_of_block (cs := #[.int .u8 ((letter m).toNat : Int)]) (t := 5) (fr := (0, 0)) (heap_alloc_new wr _)) (by simp [Value.oneCell']) (by decide) q1 q2 q3 (wr.heap.size + 1) (by simp) ?_; intro gg cap w1 hown1 hgrow hat hlt))
          all_goals
            go_wp2
            have HB3 := Lib.hid ((((HB2.out.alloc (by omega) _).drew).grown hgrow q3 (own_from hown)))
            have HO3 := Lib.hid hown1; clear hown1 hgrow hown hat hlt
            go_roundw
            case rel =>
              refine ⟨n, hc - 5, part ++ [letter m], ?_, by omega, by omega, ?_, ?_, ?_, HB3.out⟩
              · rw [Int.natCast_sub hge]; rfl
              · rw [← hcm]; exact (Nat.mod_eq_sub_mod hge).symm
              · rw [← HP.out.1, HP.out.2]; simp
              · have h := HO3.out
                rw [← List.append_assoc, bc_append]
                simpa [bc, Nat.add_assoc] using h
            case measure => simp [intOf]; omega
        · have hz : emit 5 V n hc = [] := by
            cases n with
            | zero => rfl
            | succ n => rw [emit, if_neg hge]
          rw [hz, List.append_nil] at hpart
          have hc1 : hc = (h + 8) % 5 := by rw [← hcm, Nat.mod_eq_of_lt (by omega)]
          have HP := Lib.hid (And.intro hpart hc1); clear hpart hc1 hz
          have HB2 := Lib.hid hB; clear hB
          have HO := Lib.hid hown; clear hown
          have hp1 : 1 ≤ 2 ^ hc := Nat.pow_pos (by decide)
          have s1 : (0 : Int) ≤ (hc : Int) := by omega
          have s4 : bits .and .i64 (V : Int) (wrap64 (wrap64 (2 ^ hc) - 1)) = ((V % 2 ^ hc : Nat) : Int) := by
            have hw : wrap64 (wrap64 (2 ^ hc) - 1) = (2 : Int) ^ hc - 1 := wrap_mask hc (by omega)
            have := and_mask hc (by omega) V 0 (by omega)
            rw [Nat.pow_zero, Nat.div_one, Int.natCast_sub hp1] at this
            rw [hw]
            simpa using this
          have HS4 := Lib.hid s4; clear s4
          go_wp2_with fail
          refine ⟨⟨k + 1, by omega, by go_num, ?_, ?_, ?_, ?_, HB2.out⟩, by simp [intOf]; omega⟩
          · rw [HS.out, HP.out.2]
          · rw [HS.out, HS4.out, HP.out.2]
          · rw [HS.out]
            show (out ++ emit 5 V 8 (h + 8)).length ≤ _
            rw [List.length_append]
            have := emit_length 5 V 8 (h + 8)
            omega
          · rw [HS.out, ← HP.out.1]; exact HO.out
    · obtain rfl : k = s.size := by omega
      have HB2 := Lib.hid (hb1.trans (hB.mono (by omega))); clear hB
      have hszr := HB2.out.size
      by_cases hp : 0 < h
      · have hx := run_letter 5 (v * 2 ^ (5 - h)) (by decide) (Nat.lt_of_lt_of_le ((Nat.mul_lt_mul_right (Nat.pow_pos (by decide))).2 H2.out) (by rw [← Nat.pow_add]; exact Nat.pow_le_pow_right (by decide) (by omega)))
        have s1 : (0 : Int) ≤ 5 - (h : Int) := by omega
        have s2 : (5 - (h : Int)).toNat = 5 - h := by omega
        obtain ⟨m, hmm⟩ : ∃ m, m = v * 2 ^ (5 - h) := ⟨_, rfl⟩
        rw [← hmm] at hx
        have s4 : wrap64 ((v : Int) * 2 ^ (5 - h)) = (m : Int) := by
          have hml : v * 2 ^ (5 - h) < 2 ^ 5 := Nat.lt_of_lt_of_le ((Nat.mul_lt_mul_right (Nat.pow_pos (by decide))).2 H2.out) (by rw [← Nat.pow_add]; exact Nat.pow_le_pow_right (by decide) (by omega))
          have e : (v : Int) * 2 ^ (5 - h) = (m : Int) := by rw [hmm]; simp
          rw [← hmm] at hml
          rw [e]; exact wrap64_nat _ (by omega) (by omega)
        simp only [digitsS] at hx
        have q1 : out.length + 1 ≤ maxLen := by unfold maxLen; omega
        have q2 : (out.length + 1) * 1 ≤ 140737488355328 := by omega
        have q3 : w.heap.size + 1 ≤ (wr.alloc (.cells #[.int .u8 ((letter m).toNat : Int)] 5)).heap.size := by simp; omega
        have HM := Lib.hid hmm; clear hmm
        go_wp2_with (at_builtin; refine wpList_append_own _ rfl _ _ 126 rfl (w.heap.size + 1) 5 i0 (.int .u8 0) 1 1 Tryz.underlying126 hi0 hz0 hz1 hz2 rfl (by decide) _ _ _ rfl (hown.alloc _) ⟨wr.heap.size, 0, none⟩ 1 1 [.int .u8 ((letter m).toNat : Int)] rfl rfl (cell_one_new _ _ _) (by simp [Value.oneCell']) q1 q2 q3 ?_)
        intro v' w3 hown' hgrow _
        obtain ⟨g', cap', rfl⟩ := ownsRow_succ hown'
        have HB3 := Lib.hid ((HB2.out.alloc (by omega) _).grown hgrow (by simp; omega) (fun k e => by have := own_from hown k e; omega))
        rw [show bc out ++ [Value.int .u8 ((letter m).toNat : Int)] = bc (out ++ [letter m]) from by simp [bc]] at hown'
        have ks := own_str hown'
        clear hown' hgrow hown
        go_wp2
        go_ret
        refine ⟨?_, HB3.out⟩
        refine ret_str ?_
        rw [groupedL_eq 5 s h v out HG.out.1 HG.out.2.1 HG.out.2.2, if_pos hp, ← HM.out]; rfl
      · have ks := own_str hown
        clear hown
        go_wp2
        go_ret
        refine ⟨?_, HB2.out⟩
        refine ret_str ?_
        rw [groupedL_eq 5 s h v out HG.out.1 HG.out.2.1 HG.out.2.2, if_neg hp]; rfl
end Go.Proofs.YtnllofjjffflkaaGreatDoor
