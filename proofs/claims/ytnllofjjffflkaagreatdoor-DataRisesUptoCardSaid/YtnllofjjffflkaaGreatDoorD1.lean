/- Walks of types put down, of OfNsec and OfNsec3, and of the document's own; for texts and lists of at most 2^30. -/
import Derived.Test.YtnllofjjffflkaaGreatDoorC0
import Derived.Test.YtnllofjjffflkaaGreatDoorR3
set_option linter.unusedSimpArgs false
set_option linter.unusedVariables false
namespace Go.Proofs.YtnllofjjffflkaaGreatDoor
open Go.RowKit Gp
theorem isTy_yes (t : Int) (w : World) (h0 : 0 ≤ t) (h1 : t < 65536) : Calls Tryz.prog 51 #[.int .i64 t] w fun e w' => e = .returned (.bool true) ∧ w' = w := by
  go_enter Tryz.func51, Tryz.ntmps51
  go_wp2
  go_ret
  exact ⟨by simp [h1], rfl⟩
theorem isTy_no (t : Int) (w : World) (h : ¬ (0 ≤ t ∧ t < 65536)) : Calls Tryz.prog 51 #[.int .i64 t] w fun e w' => e = .returned (.bool false) ∧ w' = w := by
  by_cases h0 : 0 ≤ t
  · have h1 : 65536 ≤ t := by omega
    go_enter Tryz.func51, Tryz.ntmps51
    go_wp2
    go_ret
    exact ⟨by simp; omega, rfl⟩
  · have b0 : decide (0 ≤ t) = false := by simpa using h0
    go_enter Tryz.func51, Tryz.ntmps51
    go_wp2
    go_ret
    exact ⟨rfl, rfl⟩
theorem Sink.setBad {B : Nat} {w : World} {l : List UInt8} {bad : Bool} (h : Sink B w l bad) (b : Bool) : Sink B (w.setCell ⟨B, 1, none⟩ (.bool b)) l b := by
  obtain ⟨ov, hb, ho⟩ := h
  exact ⟨ov, (cells2_set w B _ _ _ _ hb).2, ownsRow_setCell_other ho (a := ⟨B, 1, none⟩) (own_ne ho hb (by decide)) _⟩
theorem Sink.bool {B : Nat} {w : World} {l : List UInt8} {bad : Bool} (h : Sink B w l bad) : w.cell? ⟨B, 1, none⟩ = some (.bool bad) ∧ w.frozen? ⟨B, 1, none⟩ = false ∧ B < w.heap.size := by
  obtain ⟨ov, hb, ho⟩ := h
  exact ⟨by simp [World.cell?, hb], by simp [World.frozen?, hb], (Array.getElem?_eq_some_iff.1 hb).1⟩
theorem blk_at {H : Nat} {l : List UInt8} {t : TypeId} {w : World} (h : Blk H (bc l).toArray t w) {k : Nat} (hk : k < l.length) : w.cell? ⟨H, k, none⟩ = some (.int .u8 ((l.getD k 0).toNat : Int)) ∧ w.frozen? ⟨H, k, none⟩ = false := by
  unfold Blk at h
  refine ⟨?_, by simp [World.frozen?, h]⟩
  simp [World.cell?, h, bc, List.getElem?_eq_getElem hk, List.getD_eq_getElem?_getD]
theorem blk_put {H : Nat} {l : List UInt8} {t : TypeId} {w : World} (h : Blk H (bc l).toArray t w) (i : Nat) (b : UInt8) : Blk H (bc (l.set i b)).toArray t (w.setCell ⟨H, i, none⟩ (.int .u8 (b.toNat : Int))) := by
  unfold Blk at h ⊢
  simp [World.setCell, Array.getElem?_modify, h, bc, List.map_set]
/-- A list of bytes, as a text. -/
def ofLs (l : List UInt8) : ByteArray := ⟨l.toArray⟩
theorem ofLs_size (l : List UInt8) : (ofLs l).size = l.length := by
  show l.toArray.size = _
  simp
theorem ofLs_data (l : List UInt8) : (ofLs l).data.toList = l := rfl
/-- A byte of some bits; the byte with a type's bit. -/
def bAt (l : List UInt8) (k : Nat) : UInt8 := l.getD k 0
def bOr (l : List UInt8) (t : Nat) : UInt8 := bAt l (t % 256 / 8) ||| bitOf t
theorem bits_or_u8 (a b : UInt8) : bits .or .u8 (a.toNat : Int) (b.toNat : Int) = ((a ||| b).toNat : Int) := by
  have ha := a.toNat_lt
  have hb := b.toNat_lt
  have hc := (a ||| b).toNat_lt
  have e : (BitVec.ofInt 8 (a.toNat : Int) ||| BitVec.ofInt 8 (b.toNat : Int)).toNat = (a ||| b).toNat := by
    rw [BitVec.ofInt_natCast, BitVec.ofInt_natCast, BitVec.toNat_or, BitVec.toNat_ofNat, BitVec.toNat_ofNat, Nat.mod_eq_of_lt (by omega), Nat.mod_eq_of_lt (by omega), UInt8.toNat_or]
  show IntKind.u8.wrap ((BitVec.ofInt 8 (a.toNat : Int) ||| BitVec.ofInt 8 (b.toNat : Int)).toNat : Int) = _
  rw [e]
  show (((a ||| b).toNat : Int)) % 256 = _
  omega
theorem bit_val (t : Nat) : (128 : Int) / 2 ^ (t % 8) = ((bitOf t).toNat : Int) := by
  unfold bitOf
  have : t % 8 < 8 := Nat.mod_lt _ (by decide)
  generalize t % 8 = k at this
  match k, this with
  | 0, _ | 1, _ | 2, _ | 3, _ | 4, _ | 5, _ | 6, _ | 7, _ => rfl
theorem Sink.grow {B : Nat} {w w' : World} {l : List UInt8} {bad : Bool} (h : Sink B w l bad) (hb : Below w.heap.size w w') : Sink B w' l bad := by
  obtain ⟨ov, hb0, ho⟩ := h
  exact ⟨ov, (hb.block B (Array.getElem?_eq_some_iff.1 hb0).1).trans hb0, pw_own_below ho hb⟩
/-- string(v), v the head of an array of bytes. -/
theorem arr_str {H : Nat} {l : List UInt8} {t : TypeId} {w : World} (h : Blk H (bc l).toArray t w) (n cap : Nat) (hn : n ≤ l.length) : (convert 126 9 (.slice (some ⟨H, 0, none⟩) n cap)).run Tryz.prog w = .ok (.string (ofLs (l.take n))) w := by
  have hl : (l.take n).length = n := by rw [List.length_take]; omega
  unfold ofLs
  rw [← strOfNums_bytes]
  refine run_convert_bytes_arg w 126 5 Tryz.underlying126 Tryz.underlying5 H 0 n cap _ (by rw [List.length_map, hl]) (fun i hi => ?_) 9 Tryz.underlying9
  rw [Nat.zero_add, (blk_at h (show i < l.length by omega)).1]
  simp [List.getD_eq_getElem?_getD, List.getElem?_take, hi, List.getElem?_eq_getElem (show i < l.length by omega)]
theorem bad_small (n : Nat) (h : n < 256) : badNum (n : Int) 1 = false := by
  have h1 : (n : Int) / 2 ^ (8 * 1) = 0 := by omega
  have h2 : decide ((n : Int) < 0) = false := by simp
  rw [badNum, h1, h2]; rfl
set_option maxRecDepth 100000 in
set_option maxHeartbeats 4000000 in
theorem sink_types (B : Nat) (A : Option Addr) (c : Nat) (ts : List Int) (l : List UInt8) (bad : Bool) (w : World) (hS : Sink B w l bad) (hI : Ints w B A ts) (hl : l.length ≤ 4294967296) (hts : ts.length ≤ 1073741824) :
    Calls Tryz.prog 87 #[.pointer (some ⟨B, 0, none⟩), .slice A ts.length c] w fun e w' => e = .returned (.tuple #[]) ∧
      Sink B w' (l ++ typesE bad ts) (bad || typesBad ts) ∧ Fr B w w' := by
  have HI := Lib.hid hI; clear hI
  go_enter Tryz.func87, Tryz.ntmps87
  go_wp2_with fail
  go_loopw [12] (fun v wr => ∃ k : Nat, k ≤ ts.length ∧ v = .int .i64 (k : Int) ∧ Sink B wr l (bad || tysBad ts k) ∧ Fr B w wr) (fun v _ => ts.length - (intOf v).toNat)
  case atStart => exact ⟨0, by omega, rfl, by simpa [tysBad] using hS, Fr.refl _ _⟩
  case round =>
    obtain ⟨k, hk, rfl, hSk, hFk⟩ := hrel
    clear hS
    obtain ⟨hc1, hf1, hBw⟩ := hSk.bool
    by_cases hlt : k < ts.length
    · obtain ⟨ad, rfl, hab, hcell⟩ := (HI.out.below hFk.below) k hlt
      have hsucc : ∀ b : Bool, b = (bad || tysBad ts (k + 1)) → Sink B (wr.setCell ⟨B, 1, none⟩ (.bool b)) l (bad || tysBad ts (k + 1)) ∧ Fr B w (wr.setCell ⟨B, 1, none⟩ (.bool b)) := by
        rintro b rfl; exact ⟨hSk.setBad _, hFk.setCell _ _ _⟩
      obtain ⟨cur, hcur⟩ : ∃ cur, cur = (bad || tysBad ts k) := ⟨_, rfl⟩
      rw [← hcur] at hc1
      have HS := Lib.hid hsucc; clear hsucc hSk
      have HF := Lib.hid hFk; clear hFk
      have HC := Lib.hid hcur; clear hcur
      cases cur with
      | true =>
        go_wp2_with fail
        go_roundw
        case rel =>
          have h := HS.out true (by simp only [tysBad]; rw [← Bool.or_assoc, ← HC.out]; rfl)
          exact ⟨k + 1, by omega, by go_num, h.1, h.2⟩
        case measure => simp [intOf]; omega
      | false =>
        by_cases ht : 0 ≤ iAt ts k ∧ iAt ts k < 65536
        · by_cases hk0 : k = 0
          · have b0 : decide ((0 : Int) < (k : Int)) = false := by simpa using hk0
            have b1 : decide (0 < k) = false := by simpa using hk0
            have hb : (bad || tysBad ts (k + 1)) = false := by
              simp only [tysBad]; rw [← Bool.or_assoc, ← HC.out]; simp only [tyBad, b1, ht.1, ht.2]; rfl
            have HB := Lib.hid hb; clear hb hk0
            go_wp2_with (go_at_call 51; refine (isTy_yes _ _ ht.1 ht.2).mono ?_; rintro e w' ⟨rfl, rfl⟩)
            go_roundw
            case rel =>
              have h := HS.out false HB.out.symm
              exact ⟨k + 1, by omega, by go_num, h.1, h.2⟩
            case measure => simp [intOf]; omega
          · have b0 : decide ((0 : Int) < (k : Int)) = true := by simp; omega
            have b1 : decide (0 < k) = true := by simp; omega
            have i1 : (0 : Int) ≤ (k : Int) - 1 := by omega
            have i2 : ((k : Int) - 1).toNat = k - 1 := by omega
            obtain ⟨ad', he, hab', hcell'⟩ := (HI.out.below HF.out.below) (k - 1) (by omega)
            obtain rfl : ad' = ad := by injection he with he; exact he.symm
            clear he
            have hb : decide (iAt ts k ≤ iAt ts (k - 1)) = (bad || tysBad ts (k + 1)) := by
              simp only [tysBad]; rw [← Bool.or_assoc, ← HC.out]; simp only [tyBad, b1, ht.1, ht.2]; simp
            have HB := Lib.hid hb; clear hb hk0
            go_wp2_with (go_at_call 51; refine (isTy_yes _ _ ht.1 ht.2).mono ?_; rintro e w' ⟨rfl, rfl⟩)
            go_roundw
            case rel =>
              have h := HS.out _ HB.out
              exact ⟨k + 1, by omega, by go_num, h.1, h.2⟩
            case measure => simp [intOf]; omega
        · go_wp2_with (go_at_call 51; refine (isTy_no _ _ ht).mono ?_; rintro e w' ⟨rfl, rfl⟩)
          have hb : (bad || tysBad ts (k + 1)) = true := by
            simp only [tysBad]; rw [← Bool.or_assoc, ← HC.out]
            have : (decide (0 ≤ iAt ts k) && decide (iAt ts k < 65536)) = false := by
              rw [Bool.eq_false_iff]; simpa using ht
            simp only [tyBad, this]; simp
          go_roundw
          case rel =>
            have h := HS.out true hb.symm
            exact ⟨k + 1, by omega, by go_num, h.1, h.2⟩
          case measure => simp [intOf]; omega
    · obtain rfl : k = ts.length := by omega
      clear hk hlt
      obtain ⟨flag, hflag⟩ : ∃ flag, flag = (bad || typesBad ts) := ⟨_, rfl⟩
      rw [show (bad || tysBad ts ts.length) = flag from hflag.symm] at hSk hc1
      cases flag with
      | true =>
        go_wp2_with fail
        go_loop [6] (fun v => v = .int .i64 0) (fun _ => 0)
        case atStart => exact rfl
        case round =>
          subst hrel
          have HR := Lib.hid (And.intro hSk hFk); clear hSk hFk
          have HFL := Lib.hid hflag; clear hflag
          by_cases hz : 0 < ts.length
          · go_wp2_with fail
            go_end0
            rw [typesE_no HFL.out, ← HFL.out, List.append_nil]
            exact ⟨rfl, HR.out⟩
          · have hz' : ts.length ≤ 0 := by omega
            go_wp2_with fail
            go_end0
            rw [typesE_no HFL.out, ← HFL.out, List.append_nil]
            exact ⟨rfl, HR.out⟩
      | false =>
        obtain ⟨rfl, hok⟩ : bad = false ∧ typesBad ts = false := by simpa using hflag.symm
        have HOK := Lib.hid hok; clear hok hflag
        go_wp2_with fail
        go_loopw [6] (fun v wx => ∃ i : Nat, i ≤ ts.length ∧ v = .int .i64 (i : Int) ∧ Sink B wx (l ++ typesL (pre ts i)) false ∧ Fr B w wx ∧ Ahead ts i) (fun v _ => ts.length - (intOf v).toNat)
        case atStart =>
          exact ⟨0, by omega, rfl, by rw [pre_zero, typesL_nil, List.append_nil]; exact hSk, hFk, ahead_zero _⟩
        case round =>
          obtain ⟨i, hi, rfl, hSi, hFi, hAi⟩ := hrel
          obtain ⟨wo, hwo⟩ : ∃ wo : World, wo = wr := ⟨_, rfl⟩
          subst hwo
          clear hSk hFk hc1 hf1 hBw
          obtain ⟨hc1, hf1, hBw⟩ := hSi.bool
          have HA := Lib.hid hAi; clear hAi
          by_cases hlt : i < ts.length
          · obtain ⟨ad, rfl, hab, hcell⟩ := (HI.out.below hFi.below) i hlt
            have hti := tN_eq HOK.out hlt
            rw [hti.1] at hcell
            have ht2 := hti.2
            clear hti
            have HS := Lib.hid hSi; clear hSi
            have HF := Lib.hid hFi; clear hFi
            go_wp2_with fail
            have hbl : Blk wo.heap.size (bc (bm (seg ts i i))).toArray 191 (wo.alloc (.cells #[.int .u8 0, .int .u8 0, .int .u8 0, .int .u8 0, .int .u8 0, .int .u8 0, .int .u8 0, .int .u8 0, .int .u8 0, .int .u8 0, .int .u8 0, .int .u8 0, .int .u8 0, .int .u8 0, .int .u8 0, .int .u8 0, .int .u8 0, .int .u8 0, .int .u8 0, .int .u8 0, .int .u8 0, .int .u8 0, .int .u8 0, .int .u8 0, .int .u8 0, .int .u8 0, .int .u8 0, .int .u8 0, .int .u8 0, .int .u8 0, .int .u8 0, .int .u8 0] 191)) := by
              rw [seg_self]; exact Blk.new wo _ 191
            go_loopw [6, 9] (fun v n wy => ∃ j : Nat, i ≤ j ∧ j ≤ ts.length ∧ v = .int .i64 (j : Int) ∧ n = .int .i64 (lastAt (seg ts i j) : Int) ∧ (∀ x ∈ seg ts i j, x / 256 = tN ts i / 256) ∧
              Blk wo.heap.size (bc (bm (seg ts i j))).toArray 191 wy ∧ Below wo.heap.size wo wy) (fun v _ _ => ts.length - (intOf v).toNat)
            case atStart =>
              refine ⟨i, by omega, by omega, rfl, by rw [seg_self]; rfl, by rw [seg_self]; simp, hbl, (Below.refl _ _).alloc (Nat.le_refl _) _⟩
            case round =>
              obtain ⟨j, hij, hj, rfl, rfl, hsg, hbj, hBj⟩ := hrel
              clear hbl hc1 hf1
              have hla := lastAt_lt (seg ts i j)
              by_cases hgo : j < ts.length ∧ tN ts j / 256 = tN ts i / 256
              · obtain ⟨hjl, hwin⟩ := hgo
                obtain ⟨ad', he, hab', hcellj⟩ := ((HI.out.below HF.out.below).below (hBj.mono (Nat.le_of_lt hBw))) j hjl
                obtain rfl : ad' = ad := by injection he with he; exact he.symm
                clear he
                have htj := tN_eq HOK.out hjl
                rw [htj.1] at hcellj
                have ht3 := htj.2
                clear htj
                have b1 : ((tN ts j : Int) / 256 == (tN ts i : Int) / 256) = true := by rw [beq_iff_eq]; omega
                have hband : bits .and .i64 ((tN ts j : Int) / 8) 31 = ((tN ts j % 256 / 8 : Nat) : Int) := by
                  have e1 : tN ts j / 8 &&& 31 = tN ts j % 256 / 8 := by
                    rw [show (31 : Nat) = 2 ^ 5 - 1 from rfl, Nat.and_two_pow_sub_one_eq_mod]; omega
                  rw [← e1]; exact bits_and_nat (tN ts j / 8) 31 (by omega) (by decide)
                have hband2 : bits .and .i64 (tN ts j : Int) 7 = ((tN ts j % 8 : Nat) : Int) := by
                  have e2 : tN ts j &&& 7 = tN ts j % 8 := by
                    rw [show (7 : Nat) = 2 ^ 3 - 1 from rfl, Nat.and_two_pow_sub_one_eq_mod]
                  rw [← e2]; exact bits_and_nat (tN ts j) 7 (by omega) (by decide)
                obtain ⟨nn, hnn⟩ : ∃ nn, nn = tN ts j % 256 / 8 := ⟨_, rfl⟩
                obtain ⟨kk, hkk⟩ : ∃ kk, kk = tN ts j % 8 := ⟨_, rfl⟩
                rw [← hnn] at hband
                rw [← hkk] at hband2
                have hn32 : nn < 32 := by omega
                have hk8 : kk < 8 := by omega
                have hn32i : (nn : Int) < 32 := by omega
                have hk8i : (0 : Int) ≤ (kk : Int) := by omega
                obtain ⟨hcb, hfb⟩ := blk_at hbj (show nn < (bm (seg ts i j)).length by rw [bm_length]; exact hn32)
                rw [show (bm (seg ts i j)).getD nn 0 = bAt (bm (seg ts i j)) nn from rfl] at hcb
                have hor : bits .or .u8 ((bAt (bm (seg ts i j)) nn).toNat : Int) (128 / 2 ^ kk) = ((bOr (bm (seg ts i j)) (tN ts j)).toNat : Int) := by
                  rw [hkk, bit_val, bits_or_u8, hnn]; rfl
                have hnext : bm (seg ts i (j + 1)) = (bm (seg ts i j)).set nn (bOr (bm (seg ts i j)) (tN ts j)) := by
                  rw [seg_succ ts hij hjl, bm_snoc, hnn]; rfl
                have hlast : lastAt (seg ts i (j + 1)) = nn := by rw [seg_succ ts hij hjl, lastAt_snoc, hnn]
                have hput := blk_put hbj nn (bOr (bm (seg ts i j)) (tN ts j))
                rw [← hnext] at hput
                have hBp := (hBj.drew).setCell (p := ⟨wo.heap.size, nn, none⟩) (Nat.le_refl _) (.int .u8 ((bOr (bm (seg ts i j)) (tN ts j)).toNat : Int))
                have hsg' : ∀ x ∈ seg ts i (j + 1), x / 256 = tN ts i / 256 := by
                  rw [seg_succ ts hij hjl]; intro x hx
                  rcases List.mem_append.1 hx with h | h
                  · exact hsg x h
                  · obtain rfl := List.mem_singleton.1 h; exact hwin
                have HP := Lib.hid (And.intro hput (And.intro hBp (And.intro hsg' hlast))); clear hput hBp hsg' hlast hnext
                clear hnn hkk hbj hBj hsg hwin hla
                have hn32i : (nn : Int) < 32 := by omega
                have hk8i : (0 : Int) ≤ (kk : Int) := by omega
                go_wp2_with fail
                go_still_tail 10, (by kernel_rfl)
                change wpList _ _ _ _ _ wr.drew
                go_wp2_with fail
                go_roundw
                case rel => exact ⟨j + 1, by omega, by omega, by go_num, by rw [HP.out.2.2.2], HP.out.2.2.1, HP.out.1, HP.out.2.1⟩
                case measure => simp [intOf]; omega
              · have hij2 : i < j := by
                  rcases Nat.lt_or_ge i j with h | h
                  · exact h
                  · obtain rfl : i = j := by omega
                    exact absurd ⟨hlt, rfl⟩ hgo
                have hstop : j < ts.length → tN ts j / 256 ≠ tN ts i / 256 := fun h e => hgo ⟨h, e⟩
                have hprev : tN ts (j - 1) / 256 = tN ts i / 256 := by
                  obtain ⟨k, rfl⟩ : ∃ k, j = k + 1 := ⟨j - 1, by omega⟩
                  refine hsg _ ?_
                  rw [seg_succ ts (by omega) (by omega)]; simp
                have hahead : Ahead ts j := ahead_next HOK.out (by omega) (fun h => by rw [hprev]; exact hstop h)
                have htl := typesL_seg HOK.out hij2 hj HA.out hsg
                have hSj := HS.out.grow hBj
                have hFj := HF.out.next hBj (Nat.le_of_lt hBw)
                have hb8 : wo.heap.size ≠ B := by omega
                have HT := Lib.hid (And.intro htl hahead); clear htl hahead hprev hsg
                have hlen := typesL_length (pre ts i)
                have hW : tN ts i / 256 < 256 := by omega
                have hWi : ((tN ts i / 256 : Nat) : Int) = (tN ts i : Int) / 256 := by omega
                have hll : (l ++ typesL (pre ts i)).length ≤ 1099511000000 := by rw [List.length_append]; omega
                have hnum : ∀ W, W = wr → Calls Tryz.prog 80 #[.pointer (some ⟨B, 0, none⟩), .int .i64 ((tN ts i : Int) / 256), .int .i64 1] W fun e w' => e = .returned (.tuple #[]) ∧ (Sink B w' ((l ++ typesL (pre ts i)) ++ be ((tN ts i / 256 : Nat) : Int) 1) false ∧ Fr B wr w') := by
                  rintro W rfl
                  rw [← hWi]
                  refine (sink_number B ((tN ts i / 256 : Nat) : Int) 1 _ _ _ hSj (by omega) (by omega) (by omega) (by omega) (by omega)).mono ?_
                  rintro e w' ⟨rfl, h1, h2⟩
                  rw [bad_small _ hW] at h1
                  exact ⟨rfl, h1, h2⟩
                have HNUM := Lib.hid hnum; clear hnum hSj hWi
                have HFJ := Lib.hid hFj; clear hFj
                have hi31 : (lastAt (seg ts i j) : Int) + 1 ≤ 32 := by omega
                have hi0 : (0 : Int) ≤ (lastAt (seg ts i j) : Int) + 1 := by omega
                have hi1 : ((lastAt (seg ts i j) : Int) + 1).toNat = lastAt (seg ts i j) + 1 := by omega
                clear hcell ht2
                have hrest : True := trivial
                by_cases hjl : j < ts.length
                · obtain ⟨ad', he, hab', hcellj⟩ := ((HI.out.below HF.out.below).below (hBj.mono (Nat.le_of_lt hBw))) j hjl
                  obtain rfl : ad' = ad := by injection he with he; exact he.symm
                  clear he
                  have htj := tN_eq HOK.out hjl
                  rw [htj.1] at hcellj
                  clear htj
                  have hne := hstop hjl
                  have b1 : ((tN ts j : Int) / 256 == (tN ts i : Int) / 256) = false := by rw [beq_eq_false_iff_ne]; omega
                  clear hgo hstop hne
                  have HBJ := Lib.hid (And.intro hbj hBj); clear hbj hBj
                  go_wp2_with fail
                  refine (HNUM.out _ rfl).mono ?_
                  rintro e w4 ⟨rfl, hS4, hF4⟩
                  have hB4 : Blk wo.heap.size (bc (bm (seg ts i j))).toArray 191 w4 := hF4.keep _ _ HBJ.out.1 hb8 (by intro c f h; cases h)
                  have hcv := arr_str hB4 (lastAt (seg ts i j) + 1) 32 (by rw [bm_length]; omega)
                  have hFF := HFJ.out.trans hF4
                  have hsz : (ofLs ((bm (seg ts i j)).take (lastAt (seg ts i j) + 1))).size = lastAt (seg ts i j) + 1 := by rw [ofLs_size, List.length_take, bm_length]; omega
                  have hsh : ∀ W, W = w4 → Calls Tryz.prog 89 #[.pointer (some ⟨B, 0, none⟩), .string (ofLs ((bm (seg ts i j)).take (lastAt (seg ts i j) + 1))), .int .i64 1] W fun e w' => e = .returned (.tuple #[]) ∧ (Sink B w' (l ++ typesL (pre ts j)) false ∧ Fr B w w') := by
                    rintro W rfl
                    refine (sink_short B (ofLs ((bm (seg ts i j)).take (lastAt (seg ts i j) + 1))) 1 _ _ _ hS4 (by rw [List.length_append, be_length, hsz]; omega)).mono ?_
                    rintro e w' ⟨rfl, h1, h2⟩
                    refine ⟨rfl, ?_, hFF.trans h2⟩
                    rw [hsz, bad_small _ (by omega), ofLs_data, show decide (((lastAt (seg ts i j) + 1 : Nat) : Int) < 1) = false from decide_eq_false (by omega)] at h1
                    rw [HT.out.1, blkOf]
                    simpa using h1
                  have HSH := Lib.hid hsh; clear hsh hS4 hF4 hB4 hFF hsz HNUM
                  have HCV := Lib.hid hcv; clear hcv
                  have hcv := HCV.out
                  clear HCV
                  go_wp2_with fail
                  refine (HSH.out _ rfl).mono ?_
                  rintro e w5 ⟨rfl, h5⟩
                  have H5 := Lib.hid h5; clear h5
                  go_wp2_with fail
                  go_roundw
                  case rel => exact ⟨j, hj, rfl, H5.out.1, H5.out.2, HT.out.2⟩
                  case measure => simp [intOf]; omega
                · have hje : ts.length ≤ j := by omega
                  have HBJ := Lib.hid (And.intro hbj hBj); clear hbj hBj hgo hstop
                  go_wp2_with fail
                  refine (HNUM.out _ rfl).mono ?_
                  rintro e w4 ⟨rfl, hS4, hF4⟩
                  have hB4 : Blk wo.heap.size (bc (bm (seg ts i j))).toArray 191 w4 := hF4.keep _ _ HBJ.out.1 hb8 (by intro c f h; cases h)
                  have hcv := arr_str hB4 (lastAt (seg ts i j) + 1) 32 (by rw [bm_length]; omega)
                  have hFF := HFJ.out.trans hF4
                  have hsz : (ofLs ((bm (seg ts i j)).take (lastAt (seg ts i j) + 1))).size = lastAt (seg ts i j) + 1 := by rw [ofLs_size, List.length_take, bm_length]; omega
                  have hsh : ∀ W, W = w4 → Calls Tryz.prog 89 #[.pointer (some ⟨B, 0, none⟩), .string (ofLs ((bm (seg ts i j)).take (lastAt (seg ts i j) + 1))), .int .i64 1] W fun e w' => e = .returned (.tuple #[]) ∧ (Sink B w' (l ++ typesL (pre ts j)) false ∧ Fr B w w') := by
                    rintro W rfl
                    refine (sink_short B (ofLs ((bm (seg ts i j)).take (lastAt (seg ts i j) + 1))) 1 _ _ _ hS4 (by rw [List.length_append, be_length, hsz]; omega)).mono ?_
                    rintro e w' ⟨rfl, h1, h2⟩
                    refine ⟨rfl, ?_, hFF.trans h2⟩
                    rw [hsz, bad_small _ (by omega), ofLs_data, show decide (((lastAt (seg ts i j) + 1 : Nat) : Int) < 1) = false from decide_eq_false (by omega)] at h1
                    rw [HT.out.1, blkOf]
                    simpa using h1
                  have HSH := Lib.hid hsh; clear hsh hS4 hF4 hB4 hFF hsz HNUM
                  have HCV := Lib.hid hcv; clear hcv
                  have hcv := HCV.out
                  clear HCV
                  go_wp2_with fail
                  refine (HSH.out _ rfl).mono ?_
                  rintro e w5 ⟨rfl, h5⟩
                  have H5 := Lib.hid h5; clear h5
                  go_wp2_with fail
                  go_roundw
                  case rel => exact ⟨j, hj, rfl, H5.out.1, H5.out.2, HT.out.2⟩
                  case measure => simp [intOf]; omega
          · have hge : ts.length ≤ i := by omega
            obtain rfl : i = ts.length := by omega
            have HR := Lib.hid (And.intro hSi hFi); clear hSi hFi
            go_wp2_with fail
            go_end0
            rw [typesE_yes HOK.out, HOK.out]
            have h := HR.out
            rw [pre_all] at h
            exact ⟨rfl, h⟩
theorem bad2 (v : Int) : badNum v 2 = !(decide (0 ≤ v) && decide (v < 65536)) := by
  unfold badNum
  rw [Bool.eq_iff_iff]
  simp
  omega
theorem fits_yes (v : Int) (w : World) (h : 0 ≤ v ∧ v < 65536) : Calls Tryz.prog 83 #[.int .i64 v, .int .i64 2] w fun e w' => e = .returned (.bool true) ∧ w' = w := by
  refine (refFits_any v 2 w (by omega)).mono ?_
  rintro e w' ⟨rfl, rfl⟩
  rw [bad2]; simp [h.1, h.2]
theorem fits_no (v : Int) (w : World) (h : ¬ (0 ≤ v ∧ v < 65536)) : Calls Tryz.prog 83 #[.int .i64 v, .int .i64 2] w fun e w' => e = .returned (.bool false) ∧ w' = w := by
  refine (refFits_any v 2 w (by omega)).mono ?_
  rintro e w' ⟨rfl, rfl⟩
  have : (decide (0 ≤ v) && decide (v < 65536)) = false := by rw [Bool.eq_false_iff]; simpa using h
  rw [bad2, this]; exact ⟨rfl, rfl⟩
theorem ofLs_nil : ofLs [] = ⟨#[]⟩ := rfl
def cntOf (s : List Nat) : Nat := if s = [] then 0 else lastAt s + 1
theorem cntOf_snoc (s : List Nat) (t : Nat) : cntOf (s ++ [t]) = t % 256 / 8 + 1 := by simp [cntOf, lastAt_snoc]
theorem cntOf_le (s : List Nat) : cntOf s ≤ 32 := by
  unfold cntOf
  split
  · omega
  · have := lastAt_lt s; omega
theorem pre_succ (l : List Int) {j : Nat} (hj : j < l.length) : pre l (j + 1) = pre l j ++ [tN l j] := by
  rw [pre_seg l (show j ≤ j + 1 by omega), seg_succ l (Nat.le_refl j) hj, seg_self]; rfl
theorem win_yes {l : List Int} {j k : Nat} (hj : j < l.length) (h : tN l j / 256 = k) : win k (pre l (j + 1)) = win k (pre l j) ++ [tN l j] := by
  rw [pre_succ l hj, win_append, win_all k [tN l j] (by intro x hx; obtain rfl := List.mem_singleton.1 hx; exact h)]
theorem win_no {l : List Int} {j k : Nat} (hj : j < l.length) (h : tN l j / 256 ≠ k) : win k (pre l (j + 1)) = win k (pre l j) := by
  rw [pre_succ l hj, win_append, win_none k [tN l j] (by intro x hx; obtain rfl := List.mem_singleton.1 hx; exact h), List.append_nil]
set_option maxRecDepth 100000 in
set_option maxHeartbeats 4000000 in
theorem refTypes_any (A : Option Addr) (c : Nat) (ts : List Int) (w : World) (hI : Ints w w.heap.size A ts) (hts : ts.length ≤ 1073741824) :
    Calls Tryz.prog 88 #[.slice A ts.length c] w fun e w' => e = .returned (.tuple #[.string (ofLs (typesS ts)), .bool (!typesBad ts)]) ∧ Below w.heap.size w w' := by
  have HI := Lib.hid hI; clear hI
  go_enter Tryz.func88, Tryz.ntmps88
  go_wp2_with fail
  go_loopw [5] (fun v wr => ∃ k : Nat, k ≤ ts.length ∧ v = .int .i64 (k : Int) ∧ tysBad ts k = false ∧ Below w.heap.size w wr) (fun v _ => ts.length - (intOf v).toNat)
  case atStart => exact ⟨0, by omega, rfl, rfl, Below.refl _ _⟩
  case round =>
    obtain ⟨k, hk, rfl, hok, hB⟩ := hrel
    have HOK := Lib.hid hok; clear hok
    by_cases hlt : k < ts.length
    · obtain ⟨ad, rfl, hab, hcell⟩ := (HI.out.below hB) k hlt
      have HB := Lib.hid hB; clear hB
      by_cases ht : 0 ≤ iAt ts k ∧ iAt ts k < 65536
      · by_cases hk0 : k = 0
        · have b0 : decide ((0 : Int) < (k : Int)) = false := by simpa using hk0
          have b1 : decide (0 < k) = false := by simpa using hk0
          have hb : tysBad ts (k + 1) = false := by simp only [tysBad, HOK.out, tyBad, b1, ht.1, ht.2]; rfl
          have HBB := Lib.hid hb; clear hb hk0
          go_wp2_with fail
          go_quiet ((go_at_call 83; exact Calls.quiet_of_same (fits_yes _ _ ht)))
          go_wp2_with fail
          go_roundw
          case rel => exact ⟨k + 1, by omega, by go_num, HBB.out, below_drewN HB.out _⟩
          case measure => simp [intOf]; omega
        · have b0 : decide ((0 : Int) < (k : Int)) = true := by simp; omega
          have b1 : decide (0 < k) = true := by simp; omega
          have i1 : (0 : Int) ≤ (k : Int) - 1 := by omega
          have i2 : ((k : Int) - 1).toNat = k - 1 := by omega
          obtain ⟨ad', he, hab', hcell'⟩ := (HI.out.below HB.out) (k - 1) (by omega)
          obtain rfl : ad' = ad := by injection he with he; exact he.symm
          clear he
          by_cases hle : iAt ts k ≤ iAt ts (k - 1)
          · have b2 : decide (iAt ts k ≤ iAt ts (k - 1)) = true := decide_eq_true hle
            have hb : true = (false || typesBad ts) := by
              rw [Bool.false_or]; refine (tysBad_mono ts (i := k) ?_ hlt).symm
              simp only [tyBad, b1, b2, ht.1, ht.2]; simp
            have HBB := Lib.hid hb; clear hb hk0
            go_wp2_with fail
            go_quiet ((go_at_call 83; exact Calls.quiet_of_same (fits_yes _ _ ht)))
            go_wp2_with fail
            go_ret2
            rw [show typesS ts = [] from typesE_no HBB.out, show typesBad ts = true from HBB.out.symm]
            exact ⟨rfl, below_drewN HB.out _⟩
          · have b2 : decide (iAt ts k ≤ iAt ts (k - 1)) = false := decide_eq_false hle
            have hb : tysBad ts (k + 1) = false := by simp only [tysBad, HOK.out, tyBad, b1, b2, ht.1, ht.2]; simp
            have HBB := Lib.hid hb; clear hb hk0 hle
            go_wp2_with fail
            go_quiet ((go_at_call 83; exact Calls.quiet_of_same (fits_yes _ _ ht)))
            go_wp2_with fail
            go_roundw
            case rel => exact ⟨k + 1, by omega, by go_num, HBB.out, below_drewN HB.out _⟩
            case measure => simp [intOf]; omega
      · have hb : true = (false || typesBad ts) := by
          rw [Bool.false_or]; refine (tysBad_mono ts (i := k) ?_ hlt).symm
          have : (decide (0 ≤ iAt ts k) && decide (iAt ts k < 65536)) = false := by
            rw [Bool.eq_false_iff]; simpa using ht
          simp only [tyBad, this]; simp
        have HBB := Lib.hid hb; clear hb
        go_wp2_with fail
        go_quiet ((go_at_call 83; exact Calls.quiet_of_same (fits_no _ _ ht)))
        go_wp2_with fail
        go_ret2
        rw [show typesS ts = [] from typesE_no HBB.out, show typesBad ts = true from HBB.out.symm]
        exact ⟨rfl, below_drewN HB.out _⟩
    · obtain rfl : k = ts.length := by omega
      have hall : typesBad ts = false := HOK.out
      have HALL := Lib.hid hall; clear hall HOK hk hlt
      have HB := Lib.hid hB; clear hB
      go_wp2_with fail
      obtain ⟨W1, hW1⟩ : ∃ W1, W1 = wr := ⟨_, rfl⟩
      subst hW1
      have hmk : ∀ W, (Instr.makeSlice 126 (.int .i64 32) (.int .i64 32)).run Tryz.prog W = .ok (.slice (some ⟨W.heap.size, 0, none⟩) 32 32) (W.alloc (.cells (madeCells #[.int .u8 0] 32) 5)) :=
        fun W => run_make_row' (P := Tryz.prog) 126 5 (.int .u8 0) 1 Tryz.underlying126 info5 rfl .i64 .i64 32 (by omega) (by omega) W
      go_loopw [6, 4] (fun v o wr => ∃ k : Nat, k ≤ 256 ∧ v = .int .i64 (k : Int) ∧ o = .string (ofLs (blks k (natsOf ts))) ∧ Below w.heap.size w wr) (fun v _ _ => 256 - (intOf v).toNat)
      case atStart => exact ⟨0, by omega, rfl, rfl, HB.out⟩
      case round =>
        obtain ⟨k, hk, rfl, rfl, hB⟩ := hrel
        clear HB
        have HB := Lib.hid hB; clear hB
        by_cases hlt : k < 256
        · have hlt' : (k : Int) < 256 := by omega
          obtain ⟨wo, hwo⟩ : ∃ wo : World, wo = wr := ⟨_, rfl⟩
          subst hwo
          have hbl : Blk wo.heap.size (bc (bm (win k (pre ts 0)))).toArray 5 (wo.alloc (.cells (madeCells #[.int .u8 0] 32) 5)) := by
            rw [madeCells_zero]; exact Blk.new wo _ 5
          have hszo := HB.out.size
          go_wp2_with fail
          go_loopw [8, 9] (fun n v wy => ∃ j : Nat, j ≤ ts.length ∧ v = .int .i64 (j : Int) ∧ n = .int .i64 (cntOf (win k (pre ts j)) : Int) ∧
            Blk wo.heap.size (bc (bm (win k (pre ts j)))).toArray 5 wy ∧ Below wo.heap.size wo wy) (fun _ v _ => ts.length - (intOf v).toNat)
          case atStart => exact ⟨0, by omega, rfl, rfl, hbl, (Below.refl _ _).alloc (Nat.le_refl _) _⟩
          case round =>
            obtain ⟨j, hj, rfl, rfl, hbj, hBj⟩ := hrel
            clear hbl hmk
            have hcl := cntOf_le (win k (pre ts j))
            by_cases hjl : j < ts.length
            · obtain ⟨ad, rfl, hab, hcell⟩ := ((HI.out.below HB.out).below (hBj.mono hszo)) j hjl
              have htj := tN_eq HALL.out hjl
              rw [htj.1] at hcell
              have ht3 := htj.2
              clear htj
              by_cases hwin : tN ts j / 256 = k
              · have b1 : ((tN ts j : Int) / 256 == (k : Int)) = true := by rw [beq_iff_eq]; omega
                obtain ⟨kt, hkt⟩ : ∃ kt, kt = tN ts j % 256 := ⟨_, rfl⟩
                obtain ⟨nn, hnn⟩ : ∃ nn, nn = kt / 8 := ⟨_, rfl⟩
                obtain ⟨kk, hkk⟩ : ∃ kk, kk = kt % 8 := ⟨_, rfl⟩
                have hm1 : (tN ts j : Int) % 256 = (kt : Int) := by omega
                have hm2 : (kt : Int) / 8 = (nn : Int) := by omega
                have hm3 : (kt : Int) % 8 = (kk : Int) := by omega
                have hm4 : (kt : Int).tmod 8 = (kk : Int) := by rw [Int.tmod_eq_emod_of_nonneg (by omega)]; exact hm3
                have hk256 : (kt : Int) < 256 := by omega
                have hn32 : nn < 32 := by omega
                have hk8 : kk < 8 := by omega
                have hkk' : kk = tN ts j % 8 := by omega
                have hnn' : nn = tN ts j % 256 / 8 := by omega
                obtain ⟨hcb, hfb⟩ := blk_at hbj (show nn < (bm (win k (pre ts j))).length by rw [bm_length]; exact hn32)
                rw [show (bm (win k (pre ts j))).getD nn 0 = bAt (bm (win k (pre ts j))) nn from rfl] at hcb
                have hor : bits .or .u8 ((bAt (bm (win k (pre ts j))) nn).toNat : Int) (128 / 2 ^ kk) = ((bOr (bm (win k (pre ts j))) (tN ts j)).toNat : Int) := by
                  rw [hkk', bit_val, bits_or_u8, hnn']; rfl
                have hnext : bm (win k (pre ts (j + 1))) = (bm (win k (pre ts j))).set nn (bOr (bm (win k (pre ts j))) (tN ts j)) := by
                  rw [win_yes hjl hwin, bm_snoc, hnn']; rfl
                have hlast : cntOf (win k (pre ts (j + 1))) = nn + 1 := by rw [win_yes hjl hwin, cntOf_snoc, hnn']
                have hput := blk_put hbj nn (bOr (bm (win k (pre ts j))) (tN ts j))
                rw [← hnext] at hput
                have hBd := hBj.drew
                have hBp := hBd.setCell (p := ⟨wo.heap.size, nn, none⟩) (Nat.le_refl _) (.int .u8 ((bOr (bm (win k (pre ts j))) (tN ts j)).toNat : Int))
                have HP := Lib.hid (And.intro hput (And.intro hBp hlast)); clear hput hBp hlast hnext
                clear hnn hkk hnn' hkk' hkt hbj hBj hwin
                have hn32i : (nn : Int) < 32 := by omega
                have hwn := wrap_i64_nat nn (by omega)
                have hwk := wrap_i64_nat kk (by omega)
                have hn0i : (0 : Int) ≤ (nn : Int) := by omega
                have hk8i : (0 : Int) ≤ (kk : Int) := by omega
                go_wp2_with fail
                go_still_tail 12, (by kernel_rfl)
                change wpList _ _ _ _ _ wr.drew
                clear hm1
                go_wp2_with fail
                go_roundw
                case rel => exact ⟨j + 1, by omega, by go_num, by rw [HP.out.2.2]; go_num, HP.out.1, HP.out.2.1⟩
                case measure => simp [intOf]; omega
              · have b1 : ((tN ts j : Int) / 256 == (k : Int)) = false := by rw [beq_eq_false_iff_ne]; omega
                have hw := win_no hjl hwin
                have HJ := Lib.hid (And.intro hw (And.intro hbj hBj)); clear hw hbj hBj hwin
                go_wp2_with fail
                go_roundw
                case rel => exact ⟨j + 1, by omega, by go_num, by rw [HJ.out.1], by rw [HJ.out.1]; exact HJ.out.2.1, HJ.out.2.2⟩
                case measure => simp [intOf]; omega
            · obtain rfl : j = ts.length := by omega
              rw [pre_all] at hbj hcl
              rw [pre_all]
              have HBJ := Lib.hid (And.intro hbj hBj)
              by_cases he : win k (natsOf ts) = []
              · have hc0 : cntOf (win k (natsOf ts)) = 0 := by rw [cntOf, if_pos he]
                have hnx : blks (k + 1) (natsOf ts) = blks k (natsOf ts) := by rw [blks_succ, blk, if_pos he, List.append_nil]
                have hn0 : ¬ 0 < cntOf (win k (natsOf ts)) := by omega
                have HN := Lib.hid hnx; clear hnx hc0 he hbj hBj
                go_wp2_with fail
                go_roundw
                case rel => exact ⟨k + 1, by omega, by go_num, by rw [HN.out], HB.out.trans (HBJ.out.2.mono hszo)⟩
                case measure => simp [intOf]; omega
              · have hc0 : cntOf (win k (natsOf ts)) = lastAt (win k (natsOf ts)) + 1 := by rw [cntOf, if_neg he]
                obtain ⟨cn, hcn⟩ : ∃ cn, cn = cntOf (win k (natsOf ts)) := ⟨_, rfl⟩
                have hn0 : 0 < cn := by omega
                have hn32 : (cn : Int) ≤ 32 := by omega
                rw [← hcn]
                have n1 := fun W => refNum_s (k : Int) 1 W (by omega)
                have n2 := fun W => refNum_s (cn : Int) 1 W (by omega)
                have z1 := numS_size (k : Int) 1
                have z2 := numS_size (cn : Int) 1
                have z0 : (ofLs (blks k (natsOf ts))).size ≤ 10000 := by rw [ofLs_size]; have := blks_length (natsOf ts) k; omega
                have z3 : (ofLs ((bm (win k (natsOf ts))).take cn)).size ≤ 32 := by rw [ofLs_size, List.length_take, bm_length]; omega
                have a1 := add_run (ofLs (blks k (natsOf ts))) (numS (k : Int) 1) (by omega)
                have a2 := add_run (ofLs (blks k (natsOf ts)) ++ numS (k : Int) 1) (numS (cn : Int) 1) (by simp only [ByteArray.size_append]; omega)
                have a3 := add_run (ofLs (blks k (natsOf ts)) ++ numS (k : Int) 1 ++ numS (cn : Int) 1) (ofLs ((bm (win k (natsOf ts))).take cn)) (by simp only [ByteArray.size_append]; omega)
                have hfull : ofLs (blks k (natsOf ts)) ++ numS (k : Int) 1 ++ numS (cn : Int) 1 ++ ofLs ((bm (win k (natsOf ts))).take cn) = ofLs (blks (k + 1) (natsOf ts)) := by
                  rw [blks_succ, blk, if_neg he, blkOf, hcn, hc0]
                  show ofL _ ++ ofL _ ++ ofL _ ++ ofL _ = ofL _
                  simp only [ofL_append]
                  simp only [List.append_assoc]
                have hkeep : ∀ W, Blk wo.heap.size (bc (bm (win k (natsOf ts)))).toArray 5 W → (convert 126 9 (.slice (some ⟨wo.heap.size, 0, none⟩) cn 32)).run Tryz.prog W = .ok (.string (ofLs ((bm (win k (natsOf ts))).take cn))) W :=
                  fun W h => arr_str h cn 32 (by rw [bm_length]; omega)
                have hblk := hbj
                have hcv := hkeep _ hbj
                have hblkd : Blk wo.heap.size (bc (bm (win k (natsOf ts)))).toArray 5 wr.drew := hbj
                have hcvd := hkeep _ hblkd
                have hBd := hBj.drew
                have hszH : wo.heap.size < wr.heap.size := (Array.getElem?_eq_some_iff.1 hbj).1
                have hszd : wo.heap.size < wr.drew.heap.size := hszH
                have HFULL := Lib.hid hfull; clear hfull
                have HKEEP := Lib.hid hkeep; clear hkeep
                clear z0 z1 z2 z3 hcn hc0 he hcl hbj
                go_wp2_with fail
                go_region_held3 (fun w' => (convert 126 9 (.slice (some ⟨wo.heap.size, 0, none⟩) cn 32)).run Tryz.prog w' = .ok (.string (ofLs ((bm (win k (natsOf ts))).take cn))) w' ∧ Blk wo.heap.size (bc (bm (win k (natsOf ts)))).toArray 5 w' ∧ wo.heap.size < w'.heap.size ∧ Below wo.heap.size wo w')
                  (first
                    | go_keep
                    | (go_split_ands
                       refine ⟨HKEEP.out _ (Blk.below (by assumption) hB (by assumption)), Blk.below (by assumption) hB (by assumption), Nat.lt_of_lt_of_le (by assumption) hB.size, Below.trans (by assumption) (hB.mono (Nat.le_of_lt (by assumption)))⟩))
                  (first
                    | (go_at_call_of 84 (Value.int IntKind.i64 (k : Int)); refine (n1 _).mono ?_; rintro e w1 ⟨rfl, hB⟩)
                    | (go_at_call_of 84 (Value.int IntKind.i64 (cn : Int)); refine (n2 _).mono ?_; rintro e w1 ⟨rfl, hB⟩))
                rename_i hHeld
                have HH := Lib.hid hHeld.2.2.2; clear hHeld
                go_wp2_with fail
                go_roundw
                case rel => exact ⟨k + 1, by omega, by go_num, by rw [← HFULL.out], HB.out.trans (HH.out.mono hszo)⟩
                case measure => simp [intOf]; omega
        · obtain rfl : k = 256 := by omega
          go_wp2_with fail
          go_ret2
          rw [show typesS ts = typesL (natsOf ts) from typesE_yes HALL.out, HALL.out]
          exact ⟨rfl, HB.out⟩
theorem doneV_same {l l' : List UInt8} {bad : Bool} (h : bad = false → l = l') : doneV l bad = doneV l' bad := by
  cases bad with
  | true => simp [doneV]
  | false => rw [h rfl]
theorem typesE_same {b : Bool} {ts : List Int} (h : b = false) : typesE b ts = typesS ts := by subst h; rfl
set_option maxRecDepth 100000 in
set_option maxHeartbeats 1000000 in
theorem ofNsec_any (next : ByteArray) (A : Option Addr) (c : Nat) (ts : List Int) (w : World) (hI : Ints w w.heap.size A ts) (h1 : next.size ≤ 1073741824) (hts : ts.length ≤ 1073741824) :
    Calls Tryz.prog 36 #[.agg #[.string next, .slice A ts.length c]] w fun e w' => e = .returned (.tuple #[.string (doneV (nsecL ⟨next, ts⟩) (nsecBad ⟨next, ts⟩)).1, .int .i64 (doneV (nsecL ⟨next, ts⟩) (nsecBad ⟨next, ts⟩)).2]) ∧ Below w.heap.size w w' := by
  have hS0 := sink_new (w.alloc (.cells #[.string next, .slice A ts.length c] 55))
  rw [World.size_alloc] at hS0
  have hK0 := (Blk.new w #[.string next, .slice A ts.length c] 55).alloc (.cells #[.slice none 0 0, .bool false] 128)
  have hB0 : Below w.heap.size w ((w.alloc (.cells #[.string next, .slice A ts.length c] 55)).alloc (.cells #[.slice none 0 0, .bool false] 128)) := ((Below.refl _ _).alloc (Nat.le_refl _) _).alloc (by simp) _
  have HI := Lib.hid hI; clear hI
  go_enter Tryz.func36, Tryz.ntmps36
  go_wp2_with fail
  refine (sink_name _ _ _ _ _ hS0 (by simp; omega)).mono ?_
  rintro e w1 ⟨rfl, hS1, hB1⟩
  have hK1 := hK0.below hB1.below (by omega)
  have hb1 := hB0.trans (hB1.below.mono (by omega))
  have c1 := hK1.cells
  have hl1 : ([] ++ next.data.toList).length ≤ 4294967296 := by simp [data_length]; omega
  have HB1 := Lib.hid hb1
  clear hS0 hK0 hB0 hB1
  go_wp2_with fail
  refine (sink_types (w.heap.size + 1) A c ts _ _ _ hS1 ((HI.out.below hb1).more (by omega)) hl1 hts).mono ?_
  rintro e w2 ⟨rfl, hS2, hB2⟩
  have hb2 := HB1.out.trans (hB2.below.mono (by omega))
  have hl2 : ([] ++ next.data.toList ++ typesE (false || !rightB next) ts).length ≤ 1099511628000 := by
    have := typesS_length ts
    unfold typesE
    split
    · simp [data_length]; omega
    · simp [data_length]; omega
  have HB2 := Lib.hid hb2
  clear hS1 hK1 hB2 hb1 c1 hb2
  go_wp2_with fail
  refine (sink_done _ _ _ _ hS2 hl2).mono ?_
  rintro e w5 ⟨rfl, rfl⟩
  clear hS2
  go_wp2_with fail
  go_ret2
  have e : doneV ([] ++ next.data.toList ++ typesE (false || !rightB next) ts) ((false || !rightB next) || typesBad ts) = doneV (nsecL ⟨next, ts⟩) (nsecBad ⟨next, ts⟩) := by
    rw [show ((false || !rightB next) || typesBad ts) = nsecBad ⟨next, ts⟩ from by simp [nsecBad]]
    refine doneV_same fun h => ?_
    simp only [nsecBad, Bool.or_eq_false_iff] at h
    rw [typesE_same (by rw [Bool.false_or]; exact h.1)]; rfl
  rw [← e]
  exact ⟨rfl, HB2.out⟩
abbrev nsec3V (x : Nsec3) (A : Option Addr) (c : Nat) : Value := .agg #[.int .i64 x.alg, .int .i64 x.flags, .int .i64 x.rounds, .string x.salt, .string x.next, .slice A x.types.length c]
set_option maxRecDepth 100000 in
set_option maxHeartbeats 1000000 in
theorem ofNsec3_any (x : Nsec3) (A : Option Addr) (c : Nat) (w : World) (hI : Ints w w.heap.size A x.types) (h1 : I64 x.alg) (h2 : I64 x.flags) (h3 : I64 x.rounds) (h4 : x.salt.size ≤ 1073741824) (h5 : x.next.size ≤ 1073741824) (hts : x.types.length ≤ 1073741824) :
    Calls Tryz.prog 38 #[nsec3V x A c] w fun e w' => e = .returned (.tuple #[.string (doneV (nsec3L x) (nsec3Bad x)).1, .int .i64 (doneV (nsec3L x) (nsec3Bad x)).2]) ∧ Below w.heap.size w w' := by
  obtain ⟨a, f, r, salt, next, ts⟩ := x
  obtain ⟨h1a, h1b⟩ := h1
  obtain ⟨h2a, h2b⟩ := h2
  obtain ⟨h3a, h3b⟩ := h3
  dsimp only at hI h1a h1b h2a h2b h3a h3b h4 h5 hts
  have hS0 := sink_new (w.alloc (.cells #[.int .i64 a, .int .i64 f, .int .i64 r, .string salt, .string next, .slice A ts.length c] 61))
  rw [World.size_alloc] at hS0
  have hK0 := (Blk.new w #[.int .i64 a, .int .i64 f, .int .i64 r, .string salt, .string next, .slice A ts.length c] 61).alloc (.cells #[.slice none 0 0, .bool false] 128)
  have hB0 : Below w.heap.size w ((w.alloc (.cells #[.int .i64 a, .int .i64 f, .int .i64 r, .string salt, .string next, .slice A ts.length c] 61)).alloc (.cells #[.slice none 0 0, .bool false] 128)) := ((Below.refl _ _).alloc (Nat.le_refl _) _).alloc (by simp) _
  have HI := Lib.hid hI; clear hI
  go_enter Tryz.func38, Tryz.ntmps38
  go_wp2_with fail
  refine (sink_number _ _ 1 _ _ _ hS0 (by omega) (by omega) (by simp) h1a h1b).mono ?_
  rintro e w1 ⟨rfl, hS1, hB1⟩
  have hK1 := hK0.below hB1.below (by omega)
  have hb1 := hB0.trans (hB1.below.mono (by omega))
  have c1 := hK1.cells
  clear hS0 hK0 hB0 hB1
  go_wp2_with fail
  refine (sink_number _ _ 1 _ _ _ hS1 (by omega) (by omega) (by simp [be_length]) h2a h2b).mono ?_
  rintro e w2 ⟨rfl, hS2, hB2⟩
  have hK2 := hK1.below hB2.below (by omega)
  have hb2 := hb1.trans (hB2.below.mono (by omega))
  have c2 := hK2.cells
  clear hS1 hK1 hB2 hb1 c1
  go_wp2_with fail
  refine (sink_number _ _ 2 _ _ _ hS2 (by omega) (by omega) (by simp [be_length]) h3a h3b).mono ?_
  rintro e w3 ⟨rfl, hS3, hB3⟩
  have hK3 := hK2.below hB3.below (by omega)
  have hb3 := hb2.trans (hB3.below.mono (by omega))
  have c3 := hK3.cells
  clear hS2 hK2 hB3 hb2 c2
  go_wp2_with fail
  refine (sink_short _ _ 0 _ _ _ hS3 (by simp [be_length]; omega)).mono ?_
  rintro e w4 ⟨rfl, hS4, hB4⟩
  have hK4 := hK3.below hB4.below (by omega)
  have hb4 := hb3.trans (hB4.below.mono (by omega))
  have c4 := hK4.cells
  clear hS3 hK3 hB4 hb3 c3
  go_wp2_with fail
  refine (sink_short _ _ 1 _ _ _ hS4 (by simp [be_length, data_length]; omega)).mono ?_
  rintro e w5 ⟨rfl, hS5, hB5⟩
  have hK5 := hK4.below hB5.below (by omega)
  have hb5 := hb4.trans (hB5.below.mono (by omega))
  have c5 := hK5.cells
  clear hS4 hK4 hB5 hb4 c4
  have HB5 := Lib.hid hb5
  go_wp2_with fail
  refine (sink_types (w.heap.size + 1) A c ts _ _ _ hS5 ((HI.out.below hb5).more (by omega)) (by simp [be_length, data_length]; omega) hts).mono ?_
  rintro e w6 ⟨rfl, hS6, hB6⟩
  have hb6 := HB5.out.trans (hB6.below.mono (by omega))
  have HB6 := Lib.hid hb6
  clear hS5 hK5 hB6 hb5 c5 hb6
  obtain ⟨L, hL⟩ : ∃ L, L = ((((([] ++ be a 1) ++ be f 1) ++ be r 2) ++ be (salt.size : Int) 1 ++ salt.data.toList) ++ be (next.size : Int) 1 ++ next.data.toList) := ⟨_, rfl⟩
  obtain ⟨bd, hbd⟩ : ∃ bd, bd = ((((((false || badNum a 1) || badNum f 1) || badNum r 2) || badNum (salt.size : Int) 1) || decide ((salt.size : Int) < 0)) || badNum (next.size : Int) 1 || decide ((next.size : Int) < 1)) := ⟨_, rfl⟩
  rw [← hL, ← hbd] at hS6
  have hl6 : (L ++ typesE bd ts).length ≤ 1099511628000 := by
    have h1 := typesS_length ts
    have h2 : (typesE bd ts).length ≤ 8704 := by
      unfold typesE
      split
      · simp
      · exact h1
    rw [hL]; simp only [List.length_append, be_length, data_length, List.length_nil]; omega
  have HL := Lib.hid (And.intro hL hbd); clear hL hbd
  go_wp2_with fail
  refine (sink_done _ _ _ _ hS6 hl6).mono ?_
  rintro e w7 ⟨rfl, rfl⟩
  clear hS6
  go_wp2_with fail
  go_ret2
  have e : doneV (L ++ typesE bd ts) (bd || typesBad ts) = doneV (nsec3L ⟨a, f, r, salt, next, ts⟩) (nsec3Bad ⟨a, f, r, salt, next, ts⟩) := by
    have hz : decide ((salt.size : Int) < 0) = false := by simp
    have hb : (bd || typesBad ts) = nsec3Bad ⟨a, f, r, salt, next, ts⟩ := by
      rw [HL.out.2, hz]; simp only [nsec3Bad, Bool.false_or, Bool.or_false]
    rw [hb]
    refine doneV_same fun h => ?_
    rw [← hb, Bool.or_eq_false_iff] at h
    rw [typesE_same h.1, HL.out.1]
    simp [nsec3L]
  rw [← e]
  exact ⟨rfl, HB6.out⟩
set_option maxRecDepth 100000 in
set_option maxHeartbeats 1000000 in
theorem refOfNsec_any (next : ByteArray) (A : Option Addr) (c : Nat) (ts : List Int) (w : World) (hI : Ints w w.heap.size A ts) (h1 : next.size ≤ 1073741824) (hts : ts.length ≤ 1073741824) :
    Calls Tryz.prog 37 #[.agg #[.string next, .slice A ts.length c]] w fun e w' => e = .returned (.tuple #[.string (refDone (nsecL ⟨next, ts⟩) (nsecBad ⟨next, ts⟩)).1, .bool (refDone (nsecL ⟨next, ts⟩) (nsecBad ⟨next, ts⟩)).2]) ∧ Below w.heap.size w w' := by
  have hK := Blk.new w #[.string next, .slice A ts.length c] 55
  have hB0 : Below w.heap.size w (w.alloc (.cells #[.string next, .slice A ts.length c] 55)) := (Below.refl _ _).alloc (Nat.le_refl _) _
  have HI := Lib.hid hI; clear hI
  have a1 := add_run next (ofLs (typesS ts)) (by have := typesS_length ts; rw [ofLs_size]; omega)
  have hfull : next ++ ofLs (typesS ts) = ofL (nsecL ⟨next, ts⟩) := by
    show ofL next.data.toList ++ ofL (typesS ts) = _
    rw [ofL_append]; rfl
  have HFULL := Lib.hid hfull; clear hfull
  go_enter Tryz.func37, Tryz.ntmps37
  go_wp2_with fail
  refine (refRight_any next _).mono ?_
  rintro e w1 ⟨rfl, hB1⟩
  replace hK := hK.below hB1 (by simp)
  replace hB0 := hB0.trans (hB1.mono (by simp))
  clear hB1
  have c1 := hK.cells
  have hIn := HI.out.below hB0
  have hsz := hB0.size
  have HK := Lib.hid (And.intro hK hB0); clear hK hB0
  go_wp2_with fail
  refine (refTypes_any A c ts _ (hIn.more hsz) hts).mono ?_
  rintro e w2 ⟨rfl, hB2⟩
  have hK2 := HK.out.1.below hB2 (Array.getElem?_eq_some_iff.1 HK.out.1).1
  have HB := Lib.hid (HK.out.2.trans (hB2.mono hsz)); clear hB2 c1
  have c2 := hK2.cells
  have HK2 := Lib.hid hK2; clear hK2
  have hb : nsecBad ⟨next, ts⟩ = (!rightB next || typesBad ts) := rfl
  cases hr : rightB next with
  | false =>
    have e : refDone (nsecL ⟨next, ts⟩) (nsecBad ⟨next, ts⟩) = (shortS (ofL (nsecL ⟨next, ts⟩)) false, shortB (ofL (nsecL ⟨next, ts⟩)) false) := by rw [hb, hr]; rfl
    have HE := Lib.hid e; clear e hr hb
    go_wp2_with (go_at_call 86; refine (refShort_any _ _ _).mono ?_; rintro e w' ⟨rfl, rfl⟩)
    go_ret2
    rw [HE.out, ← HFULL.out]
    exact ⟨rfl, HB.out⟩
  | true =>
    cases ht : typesBad ts with
    | false =>
      have e : refDone (nsecL ⟨next, ts⟩) (nsecBad ⟨next, ts⟩) = (shortS (ofL (nsecL ⟨next, ts⟩)) true, shortB (ofL (nsecL ⟨next, ts⟩)) true) := by rw [hb, hr, ht]; rfl
      have HE := Lib.hid e; clear e hr hb ht
      go_wp2_with (go_at_call 86; refine (refShort_any _ _ _).mono ?_; rintro e w' ⟨rfl, rfl⟩)
      go_ret2
      rw [HE.out, ← HFULL.out]
      exact ⟨rfl, HB.out⟩
    | true =>
      have e : refDone (nsecL ⟨next, ts⟩) (nsecBad ⟨next, ts⟩) = (shortS (ofL (nsecL ⟨next, ts⟩)) false, shortB (ofL (nsecL ⟨next, ts⟩)) false) := by rw [hb, hr, ht]; rfl
      have HE := Lib.hid e; clear e hr hb ht
      go_wp2_with (go_at_call 86; refine (refShort_any _ _ _).mono ?_; rintro e w' ⟨rfl, rfl⟩)
      go_ret2
      rw [HE.out, ← HFULL.out]
      exact ⟨rfl, HB.out⟩
theorem bad1_size (n : Nat) : badNum (n : Int) 1 = !decide ((n : Int) < 256) := by
  have h2 : decide ((n : Int) < 0) = false := by simp
  rw [badNum, h2, Bool.false_or, Bool.eq_iff_iff]
  simp
  omega
set_option maxRecDepth 100000 in
set_option maxHeartbeats 8000000 in
theorem refOfNsec3_any (x : Nsec3) (A : Option Addr) (c : Nat) (w : World) (hI : Ints w w.heap.size A x.types) (h4 : x.salt.size ≤ 1073741824) (h5 : x.next.size ≤ 1073741824) (hts : x.types.length ≤ 1073741824) :
    Calls Tryz.prog 39 #[nsec3V x A c] w fun e w' => e = .returned (.tuple #[.string (refDone (nsec3L x) (nsec3Bad x)).1, .bool (refDone (nsec3L x) (nsec3Bad x)).2]) ∧ Below w.heap.size w w' := by
  obtain ⟨a, f, r, salt, next, ts⟩ := x
  dsimp only at hI h4 h5 hts
  have hK := Blk.new w #[.int .i64 a, .int .i64 f, .int .i64 r, .string salt, .string next, .slice A ts.length c] 61
  have hB0 : Below w.heap.size w (w.alloc (.cells #[.int .i64 a, .int .i64 f, .int .i64 r, .string salt, .string next, .slice A ts.length c] 61)) := (Below.refl _ _).alloc (Nat.le_refl _) _
  have hIn := (hI.below hB0).more (show w.heap.size ≤ (w.alloc (.cells #[.int .i64 a, .int .i64 f, .int .i64 r, .string salt, .string next, .slice A ts.length c] 61)).heap.size by simp)
  clear hI
  have f1 := refFits_any a 1
  have f2 := refFits_any f 1
  have f3 := refFits_any r 2
  go_enter Tryz.func39, Tryz.ntmps39
  go_wp2_with fail
  refine (refTypes_any A c ts _ hIn hts).mono ?_
  rintro e w1 ⟨rfl, hB1⟩
  replace hK := hK.below hB1 (by simp)
  replace hB0 := hB0.trans (hB1.mono (by simp))
  have hs1 : w.heap.size < w1.heap.size := by have := hB1.size; simp at this; omega
  clear hB1 hIn
  have hc := hK.cells
  have c0 := hc 0
  have c1 := hc 1
  have c2 := hc 2
  have c3 := hc 3
  have c4 := hc 4
  simp only [List.getElem?_toArray, List.getElem?_cons_zero, List.getElem?_cons_succ] at c0 c1 c2 c3 c4
  clear hc
  go_upto_region 2 with fail
  go_cut [5, 6] (fun _ s6 wx => s6 = .bool (!nsec3Bad ⟨a, f, r, salt, next, ts⟩) ∧ wx = w1)
  case first =>
    go_wp2_with (first | (go_at_call_of 83 (Value.int IntKind.i64 a); refine (f1 _ (by omega)).mono ?_; rintro e w' ⟨rfl, rfl⟩) | (go_at_call_of 83 (Value.int IntKind.i64 f); refine (f2 _ (by omega)).mono ?_; rintro e w' ⟨rfl, rfl⟩) | (go_at_call_of 83 (Value.int IntKind.i64 r); refine (f3 _ (by omega)).mono ?_; rintro e w' ⟨rfl, rfl⟩))
    all_goals
      go_meet
      refine ⟨?_, rfl⟩
      clear f1 f2 f3 hB0 hK
      simp_all [nsec3Bad, bad1_size]
      try (rw [Bool.eq_iff_iff]; simp; omega)
      try (intro h1; omega)
  case rest =>
    obtain ⟨rfl, rfl⟩ := hcut
    obtain ⟨bad, hbad⟩ : ∃ bad, bad = nsec3Bad ⟨a, f, r, salt, next, ts⟩ := ⟨_, rfl⟩
    rw [← hbad]
    clear f1 f2 f3
    have HBAD := Lib.hid hbad; clear hbad
    have n1 := fun W => refNum_s a 1 W (by omega)
    have n2 := fun W => refNum_s f 1 W (by omega)
    have n3 := fun W => refNum_s r 2 W (by omega)
    have n4 := fun W => refNum_s (salt.size : Int) 1 W (by omega)
    have n5 := fun W => refNum_s (next.size : Int) 1 W (by omega)
    have z1 := numS_size a 1
    have z2 := numS_size f 1
    have z3 := numS_size r 2
    have z4 := numS_size (salt.size : Int) 1
    have z5 := numS_size (next.size : Int) 1
    have z6 : (ofLs (typesS ts)).size ≤ 8704 := by rw [ofLs_size]; exact typesS_length ts
    have a1 := add_run (numS a 1) (numS f 1) (by omega)
    have a2 := add_run (numS a 1 ++ numS f 1) (numS r 2) (by simp only [ByteArray.size_append]; omega)
    have a3 := add_run (numS a 1 ++ numS f 1 ++ numS r 2) (numS (salt.size : Int) 1) (by simp only [ByteArray.size_append]; omega)
    have a4 := add_run (numS a 1 ++ numS f 1 ++ numS r 2 ++ numS (salt.size : Int) 1) salt (by simp only [ByteArray.size_append]; omega)
    have a5 := add_run (numS a 1 ++ numS f 1 ++ numS r 2 ++ numS (salt.size : Int) 1 ++ salt) (numS (next.size : Int) 1) (by simp only [ByteArray.size_append]; omega)
    have a6 := add_run (numS a 1 ++ numS f 1 ++ numS r 2 ++ numS (salt.size : Int) 1 ++ salt ++ numS (next.size : Int) 1) next (by simp only [ByteArray.size_append]; omega)
    have a7 := add_run (numS a 1 ++ numS f 1 ++ numS r 2 ++ numS (salt.size : Int) 1 ++ salt ++ numS (next.size : Int) 1 ++ next) (ofLs (typesS ts)) (by simp only [ByteArray.size_append]; omega)
    have hfull : numS a 1 ++ numS f 1 ++ numS r 2 ++ numS (salt.size : Int) 1 ++ salt ++ numS (next.size : Int) 1 ++ next ++ ofLs (typesS ts) = ofL (nsec3L ⟨a, f, r, salt, next, ts⟩) := by
      rw [show ofLs (typesS ts) = ofL (typesS ts) from rfl]
      simp only [nsec3L, numS_ofL, ← ofL_append, ofL_data]
    clear z1 z2 z3 z4 z5 z6
    have hBd := hB0.drew
    have HFULL := Lib.hid hfull; clear hfull
    have HK := Lib.hid hK; clear hK
    have tok1 : True := trivial
    go_wp2_with fail
    go_region_held3 (fun w' => w'.cell? ⟨w.heap.size, 0, none⟩ = some (.int .i64 a) ∧ w'.cell? ⟨w.heap.size, 1, none⟩ = some (.int .i64 f) ∧ w'.cell? ⟨w.heap.size, 2, none⟩ = some (.int .i64 r) ∧ w'.cell? ⟨w.heap.size, 3, none⟩ = some (.string salt) ∧ w'.cell? ⟨w.heap.size, 4, none⟩ = some (.string next) ∧ w.heap.size < w'.heap.size ∧ Below w.heap.size w w')
      (first
        | go_keep
        | (go_split_ands
           refine ⟨?_, ?_, ?_, ?_, ?_, Nat.lt_of_lt_of_le (by assumption) hB.size, Below.trans (by assumption) (hB.mono (Nat.le_of_lt (by assumption)))⟩ <;> (rw [hB.cell (by assumption)]; assumption)))
      (first
        | (go_at_call_of 84 (Value.int IntKind.i64 a); refine (n1 _).mono ?_; rintro e w1 ⟨rfl, hB⟩)
        | (go_at_call_of 84 (Value.int IntKind.i64 f); refine (n2 _).mono ?_; rintro e w1 ⟨rfl, hB⟩)
        | (go_at_call_of 84 (Value.int IntKind.i64 r); refine (n3 _).mono ?_; rintro e w1 ⟨rfl, hB⟩)
        | (go_at_call_of 84 (Value.int IntKind.i64 (salt.size : Int)); refine (n4 _).mono ?_; rintro e w1 ⟨rfl, hB⟩)
        | (go_at_call_of 84 (Value.int IntKind.i64 (next.size : Int)); refine (n5 _).mono ?_; rintro e w1 ⟨rfl, hB⟩)
        | (go_at_call 86; refine (refShort_any _ _ _).mono ?_; rintro e w' ⟨rfl, rfl⟩))
    go_wp2_with fail
    go_ret2
    rename_i hHeld
    refine ⟨?_, hHeld.2.2.2.2.2.2⟩
    rw [← HBAD.out]
    unfold refDone
    rw [← HFULL.out]
    rfl
end Go.Proofs.YtnllofjjffflkaaGreatDoor
