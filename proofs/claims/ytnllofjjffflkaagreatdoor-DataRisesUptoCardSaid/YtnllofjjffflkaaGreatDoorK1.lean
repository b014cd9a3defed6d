/- Plain law of takings, and walks of what data are taken apart by; for sources of at most 2^30 bytes. -/
import Derived.Test.YtnllofjjffflkaaGreatDoorP1
import Derived.Test.YtnllofjjffflkaaGreatDoorF1
import Derived.Test.YtnllofjjffflkaaGreatDoorC0
import Derived.Test.YtnllofjjffflkaaGreatDoorF2
set_option linter.unusedSimpArgs false
set_option linter.unusedVariables false
namespace Gp
/-- Is a bit set among some bytes, counted from the highest of the first? -/
def bitAt (b : ByteArray) (k : Nat) : Bool := bN b (k / 8) / 2 ^ (7 - k % 8) % 2 == 1
/-- The types of a window's first bits. -/
def bitsTo (w : Nat) (b : ByteArray) (m : Nat) : List Nat := ((List.range m).filter (bitAt b)).map (256 * w + ·)
theorem bitsTo_yes {w : Nat} {b : ByteArray} {m : Nat} (h : bitAt b m = true) : bitsTo w b (m + 1) = bitsTo w b m ++ [256 * w + m] := by
  simp [bitsTo, List.range_succ, List.filter_append, h]
theorem bitsTo_no {w : Nat} {b : ByteArray} {m : Nat} (h : bitAt b m = false) : bitsTo w b (m + 1) = bitsTo w b m := by
  simp [bitsTo, List.range_succ, List.filter_append, h]
theorem bitsTo_length (w : Nat) (b : ByteArray) (m : Nat) : (bitsTo w b m).length ≤ m := by
  rw [bitsTo, List.length_map]
  have := List.length_filter_le (bitAt b) (List.range m)
  rwa [List.length_range] at this
/-- May a window stand behind the last one? -/
def winOk (last : Int) (w n : Nat) (b : ByteArray) : Bool := decide (last < (w : Int)) && decide (0 < n) && decide (n ≤ 32) && (bN b (n - 1) != 0)
/-- A window off the head. -/
def takeWin (last : Int) (s : ByteArray) : Option ((Nat × List Nat) × ByteArray) :=
  match takeNum 1 s with
  | none => none
  | some (w, s1) => match takeNum 1 s1 with
    | none => none
    | some (n, s2) => match takeBytes n s2 with
      | none => none
      | some (b, s3) => if winOk last w n b = true then some ((w, bitsTo w b (8 * n)), s3) else none
theorem takeWin_size {last : Int} {s r : ByteArray} {x : Nat × List Nat} (h : takeWin last s = some (x, r)) : r.size + 3 ≤ s.size ∧ x.1 < 256 ∧ x.2.length ≤ 8 * (s.size - r.size - 2) ∧ last < (x.1 : Int) := by
  unfold takeWin at h
  cases h1 : takeNum 1 s with
  | none => rw [h1] at h; cases h
  | some y =>
    obtain ⟨w, s1⟩ := y
    rw [h1] at h
    simp only at h
    cases h2 : takeNum 1 s1 with
    | none => rw [h2] at h; cases h
    | some y =>
      obtain ⟨n, s2⟩ := y
      rw [h2] at h
      simp only at h
      cases h3 : takeBytes n s2 with
      | none => rw [h3] at h; cases h
      | some y =>
        obtain ⟨b, s3⟩ := y
        rw [h3] at h
        simp only at h
        have z1 := takeNum_size h1
        have z2 := takeNum_size h2
        have z3 := takeBytes_size h3
        have hw : w < 256 := by
          unfold takeNum at h1
          split at h1
          · have e := (Prod.mk.inj (Option.some.inj h1)).1
            have := numB_lt s 1
            omega
          · cases h1
        split at h
        · rename_i hok
          have e := Prod.mk.inj (Option.some.inj h)
          obtain ⟨e1, rfl⟩ := e
          subst e1
          simp only [winOk, Bool.and_eq_true, decide_eq_true_eq] at hok
          have := bitsTo_length w b (8 * n)
          refine ⟨by omega, hw, by simp only; omega, hok.1.1.1⟩
        · cases h
/-- All windows to the end, as types. -/
def takeTypes : Nat → Int → ByteArray → Option (List Nat)
  | 0, _, s => if s.size = 0 then some [] else none
  | k + 1, last, s => if s.size = 0 then some [] else match takeWin last s with
    | none => none
    | some (x, r) => (takeTypes k (x.1 : Int) r).map (x.2 ++ ·)
theorem takeTypes_more : ∀ (k j : Nat) (last : Int) (s : ByteArray), s.size ≤ k → takeTypes (k + j) last s = takeTypes k last s
  | 0, j, last, s, h => by
    have h0 : s.size = 0 := by omega
    cases j <;> simp [takeTypes, h0]
  | k + 1, j, last, s, h => by
    rw [show k + 1 + j = (k + j) + 1 from by omega]
    simp only [takeTypes]
    split
    · rfl
    · cases hw : takeWin last s with
      | none => rfl
      | some y =>
        obtain ⟨x, r⟩ := y
        have h1 := (takeWin_size hw).1
        simp only
        rw [takeTypes_more k j _ r (by omega)]
/-- One window off the head. -/
theorem takeTypes_step {s : ByteArray} (last : Int) (hs : s.size ≠ 0) : takeTypes s.size last s = match takeWin last s with
    | none => none
    | some (x, r) => (takeTypes r.size (x.1 : Int) r).map (x.2 ++ ·) := by
  obtain ⟨k, hk⟩ : ∃ k, s.size = k + 1 := ⟨s.size - 1, by omega⟩
  rw [hk, takeTypes, if_neg hs]
  cases hw : takeWin last s with
  | none => rfl
  | some y =>
    obtain ⟨x, r⟩ := y
    have h1 := (takeWin_size hw).1
    simp only
    obtain ⟨j, hj⟩ : ∃ j, k = r.size + j := ⟨k - r.size, by omega⟩
    rw [hj, takeTypes_more r.size j _ r (Nat.le_refl _)]
theorem takeTypes_done (last : Int) {s : ByteArray} (hs : s.size = 0) : takeTypes s.size last s = some [] := by rw [hs, takeTypes, if_pos hs]
theorem takeTypes_len : ∀ (k : Nat) (last : Int) (s : ByteArray) (l : List Nat), takeTypes k last s = some l → l.length ≤ 8 * s.size
  | 0, last, s, l, h => by
    unfold takeTypes at h
    split at h
    · cases h; simp
    · cases h
  | k + 1, last, s, l, h => by
    unfold takeTypes at h
    split at h
    · cases h; simp
    · cases hw : takeWin last s with
      | none => rw [hw] at h; cases h
      | some y =>
        obtain ⟨x, r⟩ := y
        have h1 := takeWin_size hw
        rw [hw] at h
        simp only [Option.map_eq_some_iff] at h
        obtain ⟨m, hm, rfl⟩ := h
        have := takeTypes_len k _ r m hm
        simp only [List.length_append]; omega
def takeKey (s : ByteArray) : Option (Key × ByteArray) := do
  let (a, s) ← takeNum 2 s
  let (b, s) ← takeNum 1 s
  let (c, s) ← takeNum 1 s
  let (d, s) ← takeRest s
  some (⟨a, b, c, d⟩, s)
def takeDs (s : ByteArray) : Option (Ds × ByteArray) := do
  let (a, s) ← takeNum 2 s
  let (b, s) ← takeNum 1 s
  let (c, s) ← takeNum 1 s
  let (d, s) ← takeRest s
  some (⟨a, b, c, d⟩, s)
def takeSig (s : ByteArray) : Option (Sig × ByteArray) := do
  let (a, s) ← takeNum 2 s
  let (b, s) ← takeNum 1 s
  let (c, s) ← takeNum 1 s
  let (d, s) ← takeNum 4 s
  let (e, s) ← takeNum 4 s
  let (f, s) ← takeNum 4 s
  let (g, s) ← takeNum 2 s
  let (n, s) ← takeName s
  let (r, s) ← takeRest s
  some (⟨a, b, c, d, e, f, g, n, r⟩, s)
def takeSoa (s : ByteArray) : Option (Soa × ByteArray) := do
  let (p, s) ← takeName s
  let (m, s) ← takeName s
  let (a, s) ← takeNum 4 s
  let (b, s) ← takeNum 4 s
  let (c, s) ← takeNum 4 s
  let (d, s) ← takeNum 4 s
  let (e, s) ← takeNum 4 s
  some (⟨p, m, a, b, c, d, e⟩, s)
def intsOf (l : List Nat) : List Int := l.map Int.ofNat
def takeNsec (s : ByteArray) : Option (Nsec × ByteArray) := do
  let (n, s) ← takeName s
  let l ← takeTypes s.size (-1) s
  some (⟨n, intsOf l⟩, ⟨#[]⟩)
def takeShort (s : ByteArray) : Option (ByteArray × ByteArray) := do
  let (n, s) ← takeNum 1 s
  takeBytes n s
def takeNsec3 (s : ByteArray) : Option (Nsec3 × ByteArray) := do
  let (a, s) ← takeNum 1 s
  let (b, s) ← takeNum 1 s
  let (c, s) ← takeNum 2 s
  let (d, s) ← takeShort s
  let (e, s) ← takeShort s
  if e.size = 0 then none else
  let l ← takeTypes s.size (-1) s
  some (⟨a, b, c, d, e, intsOf l⟩, ⟨#[]⟩)
/-- What is handed back of data that are not too long, and taken whole. -/
def wholeOf {α : Type} (s : ByteArray) (x : Option (α × ByteArray)) : Option α :=
  if s.size ≤ 2000 then (match x with
    | some (a, r) => if r.size = 0 then some a else none
    | none => none) else none
end Gp
namespace Go.Proofs.YtnllofjjffflkaaGreatDoor
open Go.RowKit Gp
/-- Types that the call made out of the text in block B, or the stop. -/
def TypesPost (l? : Option (List Nat)) (B : Nat) (w : World) (e : Ending) (w' : World) : Prop :=
  match l? with
  | some l => (∃ v, e = .returned v ∧ w'.ownsRow w.heap.size 3 1 v l.length (ints (intsOf l))) ∧ w'.heap[B]? = some (.cells #[.string ⟨#[]⟩] 189 (0, 0)) ∧ w.grownBy w' (some B)
  | none => e = .panicked stopChain ∧ w.grownBy w' (some B)
theorem intsOf_length (l : List Nat) : (intsOf l).length = l.length := by simp [intsOf]
theorem ints_append (a b : List Int) : ints (a ++ b) = ints a ++ ints b := by simp [ints]
theorem intsOf_append (a b : List Nat) : intsOf (a ++ b) = intsOf a ++ intsOf b := by simp [intsOf]
/-- A block that begins with the bytes of a text. -/
def Bt (H : Nat) (b : ByteArray) (w : World) : Prop := ∃ C f, w.heap[H]? = some (.cells C 5 f) ∧ ∀ j, j < b.size → C[j]? = some (.int .u8 (bN b j : Int))
theorem Bt.cell {H : Nat} {b : ByteArray} {w : World} (h : Bt H b w) {j : Nat} (hj : j < b.size) : w.cell? ⟨H, j, none⟩ = some (.int .u8 (bN b j : Int)) := by
  obtain ⟨C, f, hb, hc⟩ := h
  simp [World.cell?, hb, hc j hj]
theorem bt_new (w : World) (b : ByteArray) : Bt w.heap.size b (Lib.bytesWorld w 5 b) := by
  refine ⟨_, _, Lib.bytesWorld_at_new w 5 b, fun j hj => ?_⟩
  have := Lib.bytesWorld_cell w 5 b j hj
  simp only [World.cell?, Lib.bytesWorld_at_new] at this
  simpa [bN] using this
theorem grow_keep {w0 wr w1 : World} {v : Value} {n : Nat} {xs : List Value} {o : Obj} (hown : wr.ownsRow w0.heap.size 3 1 v n xs) (hg : (wr.alloc o).grownBy w1 v.ownBlock) {k : Nat} {c : Array Value} {t : TypeId} {f : Nat × Nat}
    (hk : wr.heap[k]? = some (.cells c t f)) (ht : 3 ≠ t) : w1.heap[k]? = some (.cells c t f) := by
  have hlt : k < wr.heap.size := (Array.getElem?_eq_some_iff.1 hk).1
  rw [hg.block k (by simp; omega) (fun e => own_ne hown hk ht e.symm), Below.heap_alloc _ _ _ hlt]; exact hk
theorem grow_world {w0 wr w1 : World} {v : Value} {n B : Nat} {xs : List Value} {o : Obj} (hown : wr.ownsRow w0.heap.size 3 1 v n xs) (hg : (wr.alloc o).grownBy w1 v.ownBlock) (h : w0.grownBy wr (some B)) : w0.grownBy w1 (some B) := by
  have hsz := h.size
  refine ⟨hg.os.trans h.os, hg.tape.trans h.tape, hg.output.trans h.output, ?_, fun k hk hr => ?_⟩
  · have := hg.size; simp at this; omega
  · rw [hg.block k (by simp; omega) (fun e => by have := own_from hown k e.symm; omega), Below.heap_alloc _ _ _ (by omega)]
    exact h.block k hk hr
theorem run_idx_last (b : ByteArray) (h : 0 < b.size) (w : World) : (Instr.index 9 (.string b) (.int .i64 ((b.size : Int) - 1))).run Tryz.prog w = .ok (.int .u8 (bN b (b.size - 1) : Int)) w := by
  rw [show ((b.size : Int) - 1) = ((b.size - 1 : Nat) : Int) by omega]
  exact run_idx b (b.size - 1) (by omega) w
theorem bits_and_u8 (a : Nat) (ha : a < 256) : bits .and .u8 (a : Int) 1 = ((a % 2 : Nat) : Int) := by
  have e : (BitVec.ofInt 8 (a : Int) &&& BitVec.ofInt 8 1).toNat = a % 2 := by
    rw [BitVec.ofInt_natCast, show (BitVec.ofInt 8 1) = BitVec.ofNat 8 1 from rfl, BitVec.toNat_and, BitVec.toNat_ofNat, BitVec.toNat_ofNat, Nat.mod_eq_of_lt (by omega), Nat.mod_eq_of_lt (by omega)]
    exact Nat.and_one_is_mod a
  show IntKind.u8.wrap ((BitVec.ofInt 8 (a : Int) &&& BitVec.ofInt 8 1).toNat : Int) = _
  rw [e]
  show (((a % 2 : Nat) : Int)) % 256 = _
  omega
theorem bitAt_in (b : ByteArray) (i k : Nat) (hk : k < 8) : bitAt b (8 * i + k) = (bN b i / 2 ^ (7 - k) % 2 == 1) := by
  unfold bitAt
  rw [show (8 * i + k) / 8 = i by omega, show (8 * i + k) % 8 = k by omega]
theorem bit_test (b : ByteArray) (i k : Nat) (hk : k < 8) : (bits .and .u8 ((bN b i : Int) / 2 ^ (7 - k)) 1 == 1) = bitAt b (8 * i + k) := by
  have hb := bN_lt b i
  have e : (bN b i : Int) / 2 ^ (7 - k) = ((bN b i / 2 ^ (7 - k) : Nat) : Int) := by
    rw [Int.natCast_ediv]; simp
  have hq : bN b i / 2 ^ (7 - k) < 256 := Nat.lt_of_le_of_lt (Nat.div_le_self _ _) hb
  rw [e, bits_and_u8 _ hq, bitAt_in b i k hk, Bool.eq_iff_iff]
  simp only [beq_iff_eq]
  omega
theorem bit_val3 (wd i k : Nat) (hw : wd < 256) (hi : i < 32) (hk : k < 8) : bits .or .i64 (bits .or .i64 ((wd : Int) * 256) ((i : Int) * 8)) (k : Int) = ((256 * wd + (8 * i + k) : Nat) : Int) := by
  have h1 : bits .or .i64 ((wd : Int) * 256) ((i : Int) * 8) = ((wd * 256 + i * 8 : Nat) : Int) := by
    have := bits_or_nat (wd * 256) (i * 8) (by omega) (by omega)
    rw [show wd * 256 = wd * 2 ^ 8 from rfl, or_add wd (i * 8) 8 (by omega)] at this
    rw [← this]; rfl
  rw [h1]
  have := bits_or_nat (wd * 256 + i * 8) k (by omega) (by omega)
  rw [show wd * 256 + i * 8 = (wd * 32 + i) * 2 ^ 3 by omega, or_add (wd * 32 + i) k 3 (by omega)] at this
  rw [show wd * 256 + i * 8 = (wd * 32 + i) * 2 ^ 3 by omega, this]
  congr 1
  omega
theorem own_grow_len {l : List Nat} {wd : Nat} {b : ByteArray} {m : Nat} (h : bitAt b m = true) : l ++ bitsTo wd b (m + 1) = (l ++ bitsTo wd b m) ++ [256 * wd + m] := by
  rw [bitsTo_yes h, List.append_assoc]
set_option maxRecDepth 100000 in
set_option maxHeartbeats 4000000 in
theorem types_src (B : Nat) (s : ByteArray) (w : World) (hb : w.heap[B]? = some (.cells #[.string s] 189 (0, 0))) (hs : s.size ≤ 1073741824) :
    Calls Tryz.prog 72 #[.pointer (some ⟨B, 0, none⟩)] w (TypesPost (takeTypes s.size (-1) s) B w) := by
  obtain ⟨i0, hi0, hz0, hz1, hz2⟩ := info_parts info3
  have hBw : B < w.heap.size := (Array.getElem?_eq_some_iff.1 hb).1
  obtain ⟨P, hP⟩ : ∃ P, P = takeTypes s.size (-1) s := ⟨_, rfl⟩
  rw [← hP]
  have HP := Lib.hid hP; clear hP
  go_enter Tryz.func72, Tryz.ntmps72
  go_wp2_with fail
  go_loopw [3, 4] (fun lv la wr => ∃ (l : List Nat) (r : ByteArray) (last : Int), la = .int .i64 last ∧ (-1 ≤ last ∧ last < 256) ∧ P = (takeTypes r.size last r).map (l ++ ·) ∧ l.length + 8 * r.size ≤ 8 * s.size ∧ r.size ≤ s.size ∧ wr.heap[B]? = some (.cells #[.string r] 189 (0, 0)) ∧ wr.ownsRow w.heap.size 3 1 lv l.length (ints (intsOf l)) ∧ w.grownBy wr (some B)) (fun _ _ wr => match wr.cell? ⟨B, 0, none⟩ with | some (.string r) => r.size | _ => 0)
  case atStart => exact ⟨[], s, -1, rfl, by omega, by rw [HP.out]; simp, by simp, Nat.le_refl _, hb, ⟨rfl, .inl ⟨rfl, rfl⟩⟩, World.grownBy.refl _ _⟩
  case round =>
    obtain ⟨l, r, last, rfl, hla, ht, hlr, hrs, hbr, hown, hg⟩ := hrel
    obtain ⟨wo, hwo⟩ : ∃ wo : World, wo = wr := ⟨_, rfl⟩
    subst hwo
    have hcr := cell_of_one hbr
    have HT := Lib.hid ht; clear ht HP
    have hszr := hg.size
    by_cases hr : r.size = 0
    · have he := empty_of r hr
      have HG := Lib.hid (And.intro hbr (And.intro hown hg)); clear hbr hown hg
      go_wp2_with fail
      go_ret
      rw [HT.out, takeTypes_done _ hr]
      simp only [Option.map_some, List.append_nil]
      refine ⟨⟨_, rfl, HG.out.2.1⟩, ?_, HG.out.2.2⟩
      rw [HG.out.1, empty_eq hr]
    · have he := empty_not r hr
      have hst := takeTypes_step last hr
      unfold takeWin at hst
      cases hn1 : takeNum 1 r with
      | none =>
        exfalso
        unfold takeNum at hn1
        split at hn1
        · cases hn1
        · omega
      | some x =>
        obtain ⟨wd, r1⟩ := x
        have z1 := takeNum_size hn1
        have hw8 := takeNum_lt hn1
        rw [hn1] at hst
        simp only at hst
        have c1 := number_src B 1 r wo hbr (by decide) (by omega)
        rw [hn1] at c1
        have C1 := Lib.hid c1; clear c1
        cases hn2 : takeNum 1 r1 with
        | none =>
          rw [hn2] at hst
          have HS := Lib.hid hst; clear hst
          have HG := Lib.hid hg; clear hg
          go_wp2_with fail
          refine C1.out.mono ?_
          rintro e w1 ⟨rfl, hb1, hg1⟩
          have c2 := number_src B 1 r1 w1 hb1 (by decide) (by omega)
          rw [hn2] at c2
          have C2 := Lib.hid c2; clear c2
          have HB1 := Lib.hid (And.intro hb1 hg1); clear hb1 hg1
          go_wp2_with fail
          refine C2.out.mono ?_
          rintro e w2 ⟨rfl, hg2⟩
          have hpost : TypesPost P B w (.panicked stopChain) w2 := by
            rw [HT.out, HS.out]
            exact ⟨rfl, HG.out.trans (HB1.out.2.trans hg2)⟩
          exact ⟨rfl, hpost⟩
        | some y =>
          obtain ⟨n, r2⟩ := y
          have z2 := takeNum_size hn2
          have hn8 := takeNum_lt hn2
          rw [hn2] at hst
          simp only at hst
          cases hn3 : takeBytes n r2 with
          | none =>
            rw [hn3] at hst
            have HS := Lib.hid hst; clear hst
            have HG := Lib.hid hg; clear hg
            go_wp2_with fail
            refine C1.out.mono ?_
            rintro e w1 ⟨rfl, hb1, hg1⟩
            have c2 := number_src B 1 r1 w1 hb1 (by decide) (by omega)
            rw [hn2] at c2
            have C2 := Lib.hid c2; clear c2
            have HB1 := Lib.hid (And.intro hb1 hg1); clear hb1 hg1
            go_wp2_with fail
            refine C2.out.mono ?_
            rintro e w2 ⟨rfl, hb2, hg2⟩
            have c3 := bytes_src B n r2 w2 hb2 (by omega)
            rw [hn3] at c3
            have C3 := Lib.hid c3; clear c3
            have HB2 := Lib.hid (And.intro hb2 hg2); clear hb2 hg2
            go_wp2_with fail
            refine C3.out.mono ?_
            rintro e w3 ⟨rfl, hg3⟩
            have hpost : TypesPost P B w (.panicked stopChain) w3 := by
              rw [HT.out, HS.out]
              exact ⟨rfl, HG.out.trans (HB1.out.2.trans (HB2.out.2.trans hg3))⟩
            exact ⟨rfl, hpost⟩
          | some y =>
            obtain ⟨b, r3⟩ := y
            obtain ⟨z3, hbn⟩ := takeBytes_size hn3
            subst hbn
            rw [hn3] at hst
            simp only at hst
            have HG := Lib.hid hg; clear hg
            have hne := own_ne hown hbr (by decide)
            go_wp2_with fail
            refine C1.out.mono ?_
            rintro e w1 ⟨rfl, hb1, hg1⟩
            have c2 := number_src B 1 r1 w1 hb1 (by decide) (by omega)
            rw [hn2] at c2
            have C2 := Lib.hid c2; clear c2
            have ho1 := own_grown hown hg1 hne
            have HB1 := Lib.hid (And.intro hb1 hg1); clear hb1 hg1 hown
            go_wp2_with fail
            refine C2.out.mono ?_
            rintro e w2 ⟨rfl, hb2, hg2⟩
            have c3 := bytes_src B b.size r2 w2 hb2 (by omega)
            rw [hn3] at c3
            have C3 := Lib.hid c3; clear c3
            have ho2 := own_grown ho1 hg2 hne
            have HB2 := Lib.hid (And.intro hb2 hg2); clear hb2 hg2 ho1
            go_wp2_with fail
            refine C3.out.mono ?_
            rintro e w3 ⟨rfl, hb3, hg3⟩
            have ho3 := own_grown ho2 hg3 hne
            have hg3' := HG.out.trans (HB1.out.2.trans (HB2.out.2.trans hg3))
            clear hg3 ho2
            have hfail : winOk last wd b.size b = false → TypesPost P B w (.panicked stopChain) w3 := by
              intro h
              rw [h] at hst
              rw [HT.out, hst]
              exact ⟨rfl, hg3'⟩
            have HFAIL := Lib.hid hfail; clear hfail
            have HG3 := Lib.hid (And.intro hb3 (And.intro ho3 hg3')); clear hb3 ho3 hg3'
            by_cases c1 : last < (wd : Int)
            · by_cases c2 : 0 < b.size
              · by_cases c3 : b.size ≤ 32
                · have hx := run_idx_last b c2
                  have c3' : (b.size : Int) ≤ 32 := by omega
                  have hbL := bN_lt b (b.size - 1)
                  by_cases c4 : bN b (b.size - 1) = 0
                  · have b4 : ((bN b (b.size - 1) : Int) != 0) = false := by rw [c4]; rfl
                    have hw : winOk last wd b.size b = false := by simp [winOk, c4]
                    have HF := Lib.hid (HFAIL.out hw); clear hw c4 hst
                    go_wp2_with (go_at_call 77; refine (must_false _ _).mono ?_; rintro e w' ⟨rfl, rfl⟩)
                    exact ⟨rfl, HF.out⟩
                  · have b4 : ((bN b (b.size - 1) : Int) != 0) = true := by rw [bne_iff_ne]; omega
                    have hw : winOk last wd b.size b = true := by simp [winOk, c1, c2, c3, c4]
                    rw [if_pos hw] at hst
                    have HS := Lib.hid hst; clear hw c4 hst HFAIL
                    have kb := fun (W : World) => Lib.run_convert_string_bytes (P := Tryz.prog) W 9 126 5 b Tryz.underlying9 Tryz.underlying126 Tryz.underlying5
                    go_wp2_with (go_at_call 77; refine (must_true _ _).mono ?_; rintro e w' ⟨rfl, rfl⟩)
                    have hbt := bt_new w3 b
                    have hbl := Lib.bytesWorld_below w3 5 b
                    have hB4 : (Lib.bytesWorld w3 5 b).heap[B]? = some (.cells #[.string r3] 189 (0, 0)) := (hbl.block B (Array.getElem?_eq_some_iff.1 HG3.out.1).1).trans HG3.out.1
                    have hg4 : w.grownBy (Lib.bytesWorld w3 5 b) (some B) := grown_bytes HG3.out.2.2 _ _
                    have hown4 := pw_own_below HG3.out.2.1 hbl
                    have hs3 : w.heap.size ≤ w3.heap.size := HG3.out.2.2.size
                    have H4 := Lib.hid (And.intro hbt (And.intro hB4 (And.intro hg4 hown4))); clear hbt hB4 hg4 hown4 hbl kb HG3 C1 C2 C3 HB1 HB2 HG hn1 hn2 hn3
                    have hm2 : (match wo.cell? ⟨B, 0, none⟩ with | some (.string r) => r.size | _ => 0) = r.size := by rw [hcr]
                    have HM2 := Lib.hid hm2; clear hm2
                    clear hx b4 he hcr
                    go_loopw [48, 3] (fun iv lv wy => ∃ i : Nat, i ≤ b.size ∧ iv = .int .i64 (i : Int) ∧ wy.ownsRow w.heap.size 3 1 lv (l ++ bitsTo wd b (8 * i)).length (ints (intsOf (l ++ bitsTo wd b (8 * i)))) ∧ Bt w3.heap.size b wy ∧ wy.heap[B]? = some (.cells #[.string r3] 189 (0, 0)) ∧ w.grownBy wy (some B)) (fun iv _ _ => b.size - (intOf iv).toNat)
                    case atStart => exact ⟨0, by omega, rfl, by simpa [bitsTo] using H4.out.2.2.2, H4.out.1, H4.out.2.1, H4.out.2.2.1⟩
                    case round =>
                      obtain ⟨i, hi, rfl, hown, hbt, hB, hg⟩ := hrel
                      clear H4
                      by_cases hil : i < b.size
                      · have hcb := hbt.cell hil
                        have HI := Lib.hid (And.intro hown (And.intro hbt (And.intro hB hg))); clear hown hbt hB hg
                        go_wp2_with fail
                        go_loopw [53, 3] (fun kv lv wy => ∃ k : Nat, k ≤ 8 ∧ kv = .int .i64 (k : Int) ∧ wy.ownsRow w.heap.size 3 1 lv (l ++ bitsTo wd b (8 * i + k)).length (ints (intsOf (l ++ bitsTo wd b (8 * i + k)))) ∧ Bt w3.heap.size b wy ∧ wy.heap[B]? = some (.cells #[.string r3] 189 (0, 0)) ∧ w.grownBy wy (some B)) (fun kv _ _ => 8 - (intOf kv).toNat)
                        case atStart => exact ⟨0, by omega, rfl, HI.out.1, HI.out.2.1, HI.out.2.2.1, HI.out.2.2.2⟩
                        case round =>
                          obtain ⟨k, hk, rfl, hown, hbt, hB, hg⟩ := hrel
                          clear HI
                          by_cases hk8 : k < 8
                          · have e7 : ((7 : Int) - (k : Int)).toNat = 7 - k := by omega
                            have e70 : (0 : Int) ≤ (7 : Int) - (k : Int) := by omega
                            have hbi := bN_lt b i
                            have hk8i : (k : Int) < 8 := by omega
                            have hll : (l ++ bitsTo wd b (8 * i + k)).length ≤ 8589934592 := by
                              have := bitsTo_length wd b (8 * i + k); rw [List.length_append]; omega
                            cases hbit : bitAt b (8 * i + k) with
                            | true =>
                              have bt : (bits .and .u8 ((bN b i : Int) / 2 ^ (7 - k)) 1 == 1) = true := by rw [bit_test b i k hk8, hbit]
                              have bv := bit_val3 wd i k hw8 (by omega) hk8
                              have hL := own_grow_len (l := l) (wd := wd) hbit
                              have HL := Lib.hid hL; clear hL hbit
                              have q1 : (l ++ bitsTo wd b (8 * i + k)).length + 1 ≤ maxLen := by unfold maxLen; omega
                              have q2 : ((l ++ bitsTo wd b (8 * i + k)).length + 1) * 8 ≤ 140737488355328 := by omega
                              have hsw := hg.size
                              have q3 : w.heap.size ≤ (wr.alloc (.cells #[.int .i64 ((256 * wd + (8 * i + k) : Nat) : Int)] 3)).heap.size := by simp; omega
                              have HK := Lib.hid (And.intro hbt (And.intro hB hg)); clear hbt hB hg
                              go_wp2_with (at_builtin; refine wpList_append_own _ rfl _ _ 53 rfl (w.heap.size) 3 i0 (.int .i64 0) 1 8 Tryz.underlying53 hi0 hz0 hz1 hz2 rfl (by decide) _ _ _ rfl (hown.alloc _) ⟨wr.heap.size, 0, none⟩ 1 1 [.int .i64 ((256 * wd + (8 * i + k) : Nat) : Int)] rfl rfl (cell_one_new _ _ _) (by simp [Value.oneCell']) q1 q2 q3 ?_)
                              intro v' w4 hown' hgrow _
                              obtain ⟨g', cap', rfl⟩ := ownsRow_succ hown'
                              obtain ⟨C, f, hC, hCc⟩ := HK.out.1
                              have k1 := grow_keep hown hgrow hC (by decide)
                              have k2 := grow_keep hown hgrow HK.out.2.1 (by decide)
                              have k3 := grow_world hown hgrow HK.out.2.2
                              have k1' : Bt w3.heap.size b w4 := ⟨C, f, k1, hCc⟩
                              have HN := Lib.hid (And.intro (And.intro hown' k1') (And.intro k2 k3)); clear hown' hgrow k1 k1' k2 k3 hC hCc hown bt bv
                              go_wp2_with fail
                              go_roundw
                              case rel =>
                                refine ⟨k + 1, by omega, by go_num, ?_, HN.out.1.2, HN.out.2.1, HN.out.2.2⟩
                                have h := HN.out.1.1
                                have e : ints (intsOf [256 * wd + (8 * i + k)]) = [.int .i64 (256 * (wd : Int) + (8 * (i : Int) + (k : Int)))] := by simp [ints, intsOf]
                                rw [← Nat.add_assoc, HL.out, intsOf_append, ints_append, e]
                                simp only [List.length_append, List.length_singleton]
                                exact h
                              case measure => simp [intOf]; omega
                            | false =>
                              have bt : (bits .and .u8 ((bN b i : Int) / 2 ^ (7 - k)) 1 == 1) = false := by rw [bit_test b i k hk8, hbit]
                              have hL := bitsTo_no (w := wd) hbit
                              have HL := Lib.hid hL; clear hL hbit
                              have HI := Lib.hid (And.intro hown (And.intro hbt (And.intro hB hg))); clear hown hbt hB hg
                              go_wp2_with fail
                              go_roundw
                              case rel => exact ⟨k + 1, by omega, by go_num, by rw [← Nat.add_assoc, HL.out]; exact HI.out.1, HI.out.2.1, HI.out.2.2.1, HI.out.2.2.2⟩
                              case measure => simp [intOf]; omega
                          · obtain rfl : k = 8 := by omega
                            have HI := Lib.hid (And.intro hown (And.intro hbt (And.intro hB hg))); clear hown hbt hB hg
                            go_wp2_with fail
                            go_roundw
                            case rel => exact ⟨i + 1, by omega, by go_num, HI.out.1, HI.out.2.1, HI.out.2.2.1, HI.out.2.2.2⟩
                            case measure => simp [intOf]; omega
                      · obtain rfl : i = b.size := by omega
                        have HI := Lib.hid (And.intro hown (And.intro hB hg)); clear hown hbt hB hg
                        have hm1 : (match wr.cell? ⟨B, 0, none⟩ with | some (.string r) => r.size | _ => 0) = r3.size := by rw [cell_of_one HI.out.2.1]
                        go_wp2_with fail
                        go_roundw
                        case rel => exact ⟨l ++ bitsTo wd b (8 * b.size), r3, (wd : Int), rfl, by omega, by rw [HT.out, HS.out]; cases takeTypes r3.size (wd : Int) r3 <;> simp, by have := bitsTo_length wd b (8 * b.size); simp; omega, by omega, HI.out.2.1, HI.out.1, HI.out.2.2⟩
                        case measure => rw [hm1, HM2.out]; omega
                · have c3' : (32 : Int) < (b.size : Int) := by omega
                  have hw : winOk last wd b.size b = false := by simp [winOk, c3]
                  have HF := Lib.hid (HFAIL.out hw); clear hw hst
                  go_wp2_with (go_at_call 77; refine (must_false _ _).mono ?_; rintro e w' ⟨rfl, rfl⟩)
                  exact ⟨rfl, HF.out⟩
              · have hw : winOk last wd b.size b = false := by simp [winOk, c2]
                have HF := Lib.hid (HFAIL.out hw); clear hw hst
                go_wp2_with (go_at_call 77; refine (must_false _ _).mono ?_; rintro e w' ⟨rfl, rfl⟩)
                exact ⟨rfl, HF.out⟩
            · have b1 : decide (last < (wd : Int)) = false := by simpa using c1
              have hw : winOk last wd b.size b = false := by simp [winOk, c1]
              have HF := Lib.hid (HFAIL.out hw); clear hw hst
              go_wp2_with (go_at_call 77; refine (must_false _ _).mono ?_; rintro e w' ⟨rfl, rfl⟩)
              exact ⟨rfl, HF.out⟩
end Go.Proofs.YtnllofjjffflkaaGreatDoor
namespace Go.Proofs.YtnllofjjffflkaaGreatDoor
open Go.RowKit Gp
theorem size_num {s r : ByteArray} {k n : Nat} (h : takeNum k s = some (n, r)) : r.size ≤ s.size := by have := takeNum_size h; omega
theorem size_bytes {s r b : ByteArray} {n : Nat} (h : takeBytes n s = some (b, r)) : r.size ≤ s.size := by have := takeBytes_size h; omega
theorem size_name {s r b : ByteArray} (h : takeName s = some (b, r)) : r.size ≤ s.size := by
  unfold takeName at h
  split at h
  · have e := congrArg ByteArray.size (Prod.mk.inj (Option.some.inj h)).2
    rw [ByteArray.size_extract] at e; omega
  · cases h
theorem size_rest {s r b : ByteArray} (h : takeRest s = some (b, r)) : r.size ≤ s.size := by
  unfold takeRest at h
  split at h
  · have e := congrArg ByteArray.size (Prod.mk.inj (Option.some.inj h)).2
    rw [← e]; exact Nat.zero_le _
  · cases h
theorem grown_keep {w w' : World} {B A : Nat} (h : w.grownBy w' (some B)) {o : Obj} (hA : w.heap[A]? = some o) (hne : A ≠ B) : w'.heap[A]? = some o :=
  (h.block A (Array.getElem?_eq_some_iff.1 hA).1 (fun e => hne (Option.some.inj e))).trans hA
/-- A taking under way: the text in block B, what is put together in block A, which is the call's own. -/
def KSt (w : World) (B A : Nat) (T : TypeId) (cs : Array Value) (r : ByteArray) (W : World) : Prop :=
  (A ≠ B ∧ w.heap.size ≤ A) ∧ W.heap[B]? = some (.cells #[.string r] 189 (0, 0)) ∧ W.heap[A]? = some (.cells cs T (0, 0)) ∧ w.grownBy W (some B)
theorem KSt.new {w : World} {B : Nat} {s : ByteArray} (hb : w.heap[B]? = some (.cells #[.string s] 189 (0, 0))) (hBw : B < w.heap.size) (cs : Array Value) (T : TypeId) : KSt w B w.heap.size T cs s (w.alloc (.cells cs T)) :=
  ⟨⟨by omega, Nat.le_refl _⟩, (Below.heap_alloc _ _ _ hBw).trans hb, World.alloc_heap_new w _, grown_alloc (World.grownBy.refl _ _) _⟩
theorem KSt.next {w : World} {B A : Nat} {T : TypeId} {cs : Array Value} {r r' : ByteArray} {W W' : World} (h : KSt w B A T cs r W) (hb : W'.heap[B]? = some (.cells #[.string r'] 189 (0, 0))) (hg : W.grownBy W' (some B)) : KSt w B A T cs r' W' :=
  ⟨h.1, hb, grown_keep hg h.2.2.1 h.1.1, h.2.2.2.trans hg⟩
theorem KSt.set {w : World} {B A : Nat} {T : TypeId} {cs : Array Value} {r : ByteArray} {W : World} (h : KSt w B A T cs r W) (i : Nat) (v : Value) : KSt w B A T (cs.setIfInBounds i v) r (W.setCell ⟨A, i, none⟩ v) := by
  obtain ⟨h1, hb, hA, hg⟩ := h
  refine ⟨h1, (Below.heap_setCell _ _ _ _ (fun e => h1.1 e.symm)).trans hb, ?_, ?_⟩
  · simp [World.setCell, Array.getElem?_modify, hA]
  · refine ⟨hg.os, hg.tape, hg.output, by rw [World.size_setCell]; exact hg.size, fun k hk hr => ?_⟩
    exact (Below.heap_setCell _ _ _ _ (fun e => by simp at e; omega)).trans (hg.block k hk hr)
theorem KSt.cells {w : World} {B A : Nat} {T : TypeId} {cs : Array Value} {r : ByteArray} {W : World} (h : KSt w B A T cs r W) : ∀ i, W.cell? ⟨A, i, none⟩ = cs[i]? := fun i => by
  simp [World.cell?, h.2.2.1]
theorem KSt.frozen {w : World} {B A : Nat} {T : TypeId} {cs : Array Value} {r : ByteArray} {W : World} (h : KSt w B A T cs r W) : ∀ i, W.frozen? ⟨A, i, none⟩ = false := fun i => by
  simp [World.frozen?, h.2.2.1]
/-- What a taking from the text in block B comes to, the value as R has it. -/
def SrcPostR {α : Type} (R : Nat → α → Value → World → Prop) (B : Nat) (w : World) (r : Option (α × ByteArray)) (e : Ending) (w' : World) : Prop :=
  match r with
  | some (a, s') => (∃ v, e = .returned v ∧ R w.heap.size a v w') ∧ w'.heap[B]? = some (.cells #[.string s'] 189 (0, 0)) ∧ w.grownBy w' (some B)
  | none => e = .panicked stopChain ∧ w.grownBy w' (some B)
def nsecR (base : Nat) (a : Nsec) (v : Value) (W : World) : Prop := ∃ A c, v = .agg #[.string a.next, .slice A a.types.length c] ∧ W.ownsRow base 3 1 (.slice A a.types.length c) a.types.length (ints a.types)
def nsec3R (base : Nat) (a : Nsec3) (v : Value) (W : World) : Prop := ∃ A c, v = .agg #[.int .i64 a.alg, .int .i64 a.flags, .int .i64 a.rounds, .string a.salt, .string a.next, .slice A a.types.length c] ∧ W.ownsRow base 3 1 (.slice A a.types.length c) a.types.length (ints a.types)
set_option maxRecDepth 100000 in
set_option maxHeartbeats 8000000 in
theorem key1_src (B : Nat) (s : ByteArray) (w : World) (hb : w.heap[B]? = some (.cells #[.string s] 189 (0, 0))) (hs : s.size ≤ 1073741824) :
    Calls Tryz.prog 67 #[.pointer (some ⟨B, 0, none⟩)] w (SrcPostR (fun _ a v _ => v = keyV a) B w (takeKey s)) := by
  have hBw : B < w.heap.size := (Array.getElem?_eq_some_iff.1 hb).1
  obtain ⟨P, hP⟩ : ∃ P, P = takeKey s := ⟨_, rfl⟩
  rw [← hP]
  obtain ⟨W0, hW0⟩ : ∃ W, W = w.alloc (.cells #[.int .i64 0, .int .i64 0, .int .i64 0, .string ⟨#[]⟩] 42) := ⟨_, rfl⟩
  have k : KSt w B w.heap.size 42 #[.int .i64 0, .int .i64 0, .int .i64 0, .string ⟨#[]⟩] s W0 := by rw [hW0]; exact KSt.new hb hBw _ _
  clear hb
  have HP := Lib.hid hP; clear hP
  go_enter Tryz.func67, Tryz.ntmps67
  have C1 := Lib.hid (number_src B 2 s W0 k.2.1 (by decide) (by omega))
  go_wp2_with fail
  rw [← hW0]
  clear hW0
  refine C1.out.mono ?_
  intro e w1 hp
  clear C1
  cases h1 : takeNum 2 s with
  | none =>
    rw [h1] at hp
    obtain ⟨rfl, hg⟩ := SrcPost.none_ hp
    have hq : takeKey s = none := by simp [takeKey, takeShort, h1]
    have hpost : SrcPostR (fun _ a v _ => v = keyV a) B w P (.panicked stopChain) w1 := by rw [HP.out, hq]; exact ⟨rfl, k.2.2.2.trans hg⟩
    exact ⟨rfl, hpost⟩
  | some x =>
    obtain ⟨a0, s1⟩ := x
    rw [h1] at hp
    obtain ⟨rfl, hb, hg⟩ := SrcPost.some_ hp
    have z1 := size_num h1
    replace k := k.next hb hg
    clear hp hb hg
    have H1 := Lib.hid h1; clear h1
    have C2 := Lib.hid (number_src B 1 s1 w1 k.2.1 (by decide) (by omega))
    go_wp2_with fail
    refine C2.out.mono ?_
    intro e w2 hp
    clear C2
    cases h2 : takeNum 1 s1 with
    | none =>
      rw [h2] at hp
      obtain ⟨rfl, hg⟩ := SrcPost.none_ hp
      have hq : takeKey s = none := by simp [takeKey, takeShort, H1.out, h2]
      have hpost : SrcPostR (fun _ a v _ => v = keyV a) B w P (.panicked stopChain) w2 := by rw [HP.out, hq]; exact ⟨rfl, k.2.2.2.trans hg⟩
      exact ⟨rfl, hpost⟩
    | some x =>
      obtain ⟨a1, s2⟩ := x
      rw [h2] at hp
      obtain ⟨rfl, hb, hg⟩ := SrcPost.some_ hp
      have z2 := size_num h2
      replace k := k.next hb hg
      clear hp hb hg
      have H2 := Lib.hid h2; clear h2
      have C3 := Lib.hid (number_src B 1 s2 w2 k.2.1 (by decide) (by omega))
      go_wp2_with fail
      refine C3.out.mono ?_
      intro e w3 hp
      clear C3
      cases h3 : takeNum 1 s2 with
      | none =>
        rw [h3] at hp
        obtain ⟨rfl, hg⟩ := SrcPost.none_ hp
        have hq : takeKey s = none := by simp [takeKey, takeShort, H1.out, H2.out, h3]
        have hpost : SrcPostR (fun _ a v _ => v = keyV a) B w P (.panicked stopChain) w3 := by rw [HP.out, hq]; exact ⟨rfl, k.2.2.2.trans hg⟩
        exact ⟨rfl, hpost⟩
      | some x =>
        obtain ⟨a2, s3⟩ := x
        rw [h3] at hp
        obtain ⟨rfl, hb, hg⟩ := SrcPost.some_ hp
        have z3 := size_num h3
        replace k := k.next hb hg
        clear hp hb hg
        have H3 := Lib.hid h3; clear h3
        have C4 := Lib.hid (rest_src B s3 w3 k.2.1 (by omega))
        go_wp2_with fail
        refine C4.out.mono ?_
        intro e w4 hp
        clear C4
        cases h4 : takeRest s3 with
        | none =>
          rw [h4] at hp
          obtain ⟨rfl, hg⟩ := SrcPost.none_ hp
          have hq : takeKey s = none := by simp [takeKey, takeShort, H1.out, H2.out, H3.out, h4]
          have hpost : SrcPostR (fun _ a v _ => v = keyV a) B w P (.panicked stopChain) w4 := by rw [HP.out, hq]; exact ⟨rfl, k.2.2.2.trans hg⟩
          exact ⟨rfl, hpost⟩
        | some x =>
          obtain ⟨a3, s4⟩ := x
          rw [h4] at hp
          obtain ⟨rfl, hb, hg⟩ := SrcPost.some_ hp
          have z4 := size_rest h4
          replace k := k.next hb hg
          clear hp hb hg
          have H4 := Lib.hid h4; clear h4
          obtain ⟨V1, hV1⟩ : ∃ V, V = ((((((((w4).setCell ⟨w.heap.size, 0, none⟩ (.int .i64 (a0 : Int))).setCell ⟨w.heap.size, 1, none⟩ (.int .i64 (a1 : Int))).setCell ⟨w.heap.size, 2, none⟩ (.int .i64 (a2 : Int))).setCell ⟨w.heap.size, 3, none⟩ (.string a3)).setCell ⟨w.heap.size, 0, none⟩ (.int .i64 (a0 : Int))).setCell ⟨w.heap.size, 1, none⟩ (.int .i64 (a1 : Int))).setCell ⟨w.heap.size, 2, none⟩ (.int .i64 (a2 : Int))).setCell ⟨w.heap.size, 3, none⟩ (.string a3) := ⟨_, rfl⟩
          have k' : KSt w B w.heap.size 42 #[.int .i64 (a0 : Int), .int .i64 (a1 : Int), .int .i64 (a2 : Int), .string a3] s4 V1 := by rw [hV1]; have h := ((((((((k.set 0 (.int .i64 (a0 : Int))).set 1 (.int .i64 (a1 : Int))).set 2 (.int .i64 (a2 : Int))).set 3 (.string a3)).set 0 (.int .i64 (a0 : Int))).set 1 (.int .i64 (a1 : Int))).set 2 (.int .i64 (a2 : Int))).set 3 (.string a3)); simpa using h
          have cA := k.cells
          have fA := k.frozen
          go_wp2_with fail
          rw [← hV1]
          clear hV1 cA fA k
          have cF := k'.cells
          have hq : takeKey s = some (⟨a0, a1, a2, a3⟩, s4) := by simp [takeKey, takeShort, H1.out, H2.out, H3.out, H4.out]
          refine bodyPost_ret (v := .agg #[.int .i64 (a0 : Int), .int .i64 (a1 : Int), .int .i64 (a2 : Int), .string a3]) (by simp [results, Tryz.results67, go_sem, cF]) rfl ?_
          rw [HP.out, hq]
          exact ⟨⟨_, rfl, rfl⟩, k'.2.1, k'.2.2.2⟩

set_option maxRecDepth 100000 in
set_option maxHeartbeats 8000000 in
theorem ds1_src (B : Nat) (s : ByteArray) (w : World) (hb : w.heap[B]? = some (.cells #[.string s] 189 (0, 0))) (hs : s.size ≤ 1073741824) :
    Calls Tryz.prog 69 #[.pointer (some ⟨B, 0, none⟩)] w (SrcPostR (fun _ a v _ => v = dsV a) B w (takeDs s)) := by
  have hBw : B < w.heap.size := (Array.getElem?_eq_some_iff.1 hb).1
  obtain ⟨P, hP⟩ : ∃ P, P = takeDs s := ⟨_, rfl⟩
  rw [← hP]
  obtain ⟨W0, hW0⟩ : ∃ W, W = w.alloc (.cells #[.int .i64 0, .int .i64 0, .int .i64 0, .string ⟨#[]⟩] 48) := ⟨_, rfl⟩
  have k : KSt w B w.heap.size 48 #[.int .i64 0, .int .i64 0, .int .i64 0, .string ⟨#[]⟩] s W0 := by rw [hW0]; exact KSt.new hb hBw _ _
  clear hb
  have HP := Lib.hid hP; clear hP
  go_enter Tryz.func69, Tryz.ntmps69
  have C1 := Lib.hid (number_src B 2 s W0 k.2.1 (by decide) (by omega))
  go_wp2_with fail
  rw [← hW0]
  clear hW0
  refine C1.out.mono ?_
  intro e w1 hp
  clear C1
  cases h1 : takeNum 2 s with
  | none =>
    rw [h1] at hp
    obtain ⟨rfl, hg⟩ := SrcPost.none_ hp
    have hq : takeDs s = none := by simp [takeDs, takeShort, h1]
    have hpost : SrcPostR (fun _ a v _ => v = dsV a) B w P (.panicked stopChain) w1 := by rw [HP.out, hq]; exact ⟨rfl, k.2.2.2.trans hg⟩
    exact ⟨rfl, hpost⟩
  | some x =>
    obtain ⟨a0, s1⟩ := x
    rw [h1] at hp
    obtain ⟨rfl, hb, hg⟩ := SrcPost.some_ hp
    have z1 := size_num h1
    replace k := k.next hb hg
    clear hp hb hg
    have H1 := Lib.hid h1; clear h1
    have C2 := Lib.hid (number_src B 1 s1 w1 k.2.1 (by decide) (by omega))
    go_wp2_with fail
    refine C2.out.mono ?_
    intro e w2 hp
    clear C2
    cases h2 : takeNum 1 s1 with
    | none =>
      rw [h2] at hp
      obtain ⟨rfl, hg⟩ := SrcPost.none_ hp
      have hq : takeDs s = none := by simp [takeDs, takeShort, H1.out, h2]
      have hpost : SrcPostR (fun _ a v _ => v = dsV a) B w P (.panicked stopChain) w2 := by rw [HP.out, hq]; exact ⟨rfl, k.2.2.2.trans hg⟩
      exact ⟨rfl, hpost⟩
    | some x =>
      obtain ⟨a1, s2⟩ := x
      rw [h2] at hp
      obtain ⟨rfl, hb, hg⟩ := SrcPost.some_ hp
      have z2 := size_num h2
      replace k := k.next hb hg
      clear hp hb hg
      have H2 := Lib.hid h2; clear h2
      have C3 := Lib.hid (number_src B 1 s2 w2 k.2.1 (by decide) (by omega))
      go_wp2_with fail
      refine C3.out.mono ?_
      intro e w3 hp
      clear C3
      cases h3 : takeNum 1 s2 with
      | none =>
        rw [h3] at hp
        obtain ⟨rfl, hg⟩ := SrcPost.none_ hp
        have hq : takeDs s = none := by simp [takeDs, takeShort, H1.out, H2.out, h3]
        have hpost : SrcPostR (fun _ a v _ => v = dsV a) B w P (.panicked stopChain) w3 := by rw [HP.out, hq]; exact ⟨rfl, k.2.2.2.trans hg⟩
        exact ⟨rfl, hpost⟩
      | some x =>
        obtain ⟨a2, s3⟩ := x
        rw [h3] at hp
        obtain ⟨rfl, hb, hg⟩ := SrcPost.some_ hp
        have z3 := size_num h3
        replace k := k.next hb hg
        clear hp hb hg
        have H3 := Lib.hid h3; clear h3
        have C4 := Lib.hid (rest_src B s3 w3 k.2.1 (by omega))
        go_wp2_with fail
        refine C4.out.mono ?_
        intro e w4 hp
        clear C4
        cases h4 : takeRest s3 with
        | none =>
          rw [h4] at hp
          obtain ⟨rfl, hg⟩ := SrcPost.none_ hp
          have hq : takeDs s = none := by simp [takeDs, takeShort, H1.out, H2.out, H3.out, h4]
          have hpost : SrcPostR (fun _ a v _ => v = dsV a) B w P (.panicked stopChain) w4 := by rw [HP.out, hq]; exact ⟨rfl, k.2.2.2.trans hg⟩
          exact ⟨rfl, hpost⟩
        | some x =>
          obtain ⟨a3, s4⟩ := x
          rw [h4] at hp
          obtain ⟨rfl, hb, hg⟩ := SrcPost.some_ hp
          have z4 := size_rest h4
          replace k := k.next hb hg
          clear hp hb hg
          have H4 := Lib.hid h4; clear h4
          obtain ⟨V1, hV1⟩ : ∃ V, V = ((((((((w4).setCell ⟨w.heap.size, 0, none⟩ (.int .i64 (a0 : Int))).setCell ⟨w.heap.size, 1, none⟩ (.int .i64 (a1 : Int))).setCell ⟨w.heap.size, 2, none⟩ (.int .i64 (a2 : Int))).setCell ⟨w.heap.size, 3, none⟩ (.string a3)).setCell ⟨w.heap.size, 0, none⟩ (.int .i64 (a0 : Int))).setCell ⟨w.heap.size, 1, none⟩ (.int .i64 (a1 : Int))).setCell ⟨w.heap.size, 2, none⟩ (.int .i64 (a2 : Int))).setCell ⟨w.heap.size, 3, none⟩ (.string a3) := ⟨_, rfl⟩
          have k' : KSt w B w.heap.size 48 #[.int .i64 (a0 : Int), .int .i64 (a1 : Int), .int .i64 (a2 : Int), .string a3] s4 V1 := by rw [hV1]; have h := ((((((((k.set 0 (.int .i64 (a0 : Int))).set 1 (.int .i64 (a1 : Int))).set 2 (.int .i64 (a2 : Int))).set 3 (.string a3)).set 0 (.int .i64 (a0 : Int))).set 1 (.int .i64 (a1 : Int))).set 2 (.int .i64 (a2 : Int))).set 3 (.string a3)); simpa using h
          have cA := k.cells
          have fA := k.frozen
          go_wp2_with fail
          rw [← hV1]
          clear hV1 cA fA k
          have cF := k'.cells
          have hq : takeDs s = some (⟨a0, a1, a2, a3⟩, s4) := by simp [takeDs, takeShort, H1.out, H2.out, H3.out, H4.out]
          refine bodyPost_ret (v := .agg #[.int .i64 (a0 : Int), .int .i64 (a1 : Int), .int .i64 (a2 : Int), .string a3]) (by simp [results, Tryz.results69, go_sem, cF]) rfl ?_
          rw [HP.out, hq]
          exact ⟨⟨_, rfl, rfl⟩, k'.2.1, k'.2.2.2⟩

end Go.Proofs.YtnllofjjffflkaaGreatDoor
namespace Go.Proofs.YtnllofjjffflkaaGreatDoor
open Go.RowKit Gp
set_option maxRecDepth 100000 in
set_option maxHeartbeats 8000000 in
theorem nsec1_src (B : Nat) (s : ByteArray) (w : World) (hb : w.heap[B]? = some (.cells #[.string s] 189 (0, 0))) (hs : s.size ≤ 1073741824) :
    Calls Tryz.prog 71 #[.pointer (some ⟨B, 0, none⟩)] w (SrcPostR (nsecR) B w (takeNsec s)) := by
  have hBw : B < w.heap.size := (Array.getElem?_eq_some_iff.1 hb).1
  obtain ⟨P, hP⟩ : ∃ P, P = takeNsec s := ⟨_, rfl⟩
  rw [← hP]
  obtain ⟨W0, hW0⟩ : ∃ W, W = w.alloc (.cells #[.string ⟨#[]⟩, .slice none 0 0] 55) := ⟨_, rfl⟩
  have k : KSt w B w.heap.size 55 #[.string ⟨#[]⟩, .slice none 0 0] s W0 := by rw [hW0]; exact KSt.new hb hBw _ _
  clear hb
  have HP := Lib.hid hP; clear hP
  go_enter Tryz.func71, Tryz.ntmps71
  have C1 := Lib.hid (name_src B s W0 k.2.1 (by omega))
  go_wp2_with fail
  rw [← hW0]
  clear hW0
  refine C1.out.mono ?_
  intro e w1 hp
  clear C1
  cases h1 : takeName s with
  | none =>
    rw [h1] at hp
    obtain ⟨rfl, hg⟩ := SrcPost.none_ hp
    have hq : takeNsec s = none := by simp [takeNsec, takeShort, h1]
    have hpost : SrcPostR (nsecR) B w P (.panicked stopChain) w1 := by rw [HP.out, hq]; exact ⟨rfl, k.2.2.2.trans hg⟩
    exact ⟨rfl, hpost⟩
  | some x =>
    obtain ⟨a0, s1⟩ := x
    rw [h1] at hp
    obtain ⟨rfl, hb, hg⟩ := SrcPost.some_ hp
    have z1 := size_name h1
    replace k := k.next hb hg
    clear hp hb hg
    have H1 := Lib.hid h1; clear h1
    have C2 := Lib.hid (types_src B s1 w1 k.2.1 (by omega))
    go_wp2_with fail
    refine C2.out.mono ?_
    intro e w2 hp
    clear C2
    cases h2 : takeTypes s1.size (-1) s1 with
    | none =>
      rw [h2] at hp
      obtain ⟨rfl, hg⟩ := hp
      have hq : takeNsec s = none := by simp [takeNsec, takeShort, H1.out, h2]
      have hpost : SrcPostR (nsecR) B w P (.panicked stopChain) w2 := by rw [HP.out, hq]; exact ⟨rfl, k.2.2.2.trans hg⟩
      exact ⟨rfl, hpost⟩
    | some a1 =>
      rw [h2] at hp
      obtain ⟨⟨v, rfl, ho⟩, hb, hg⟩ := hp
      have hbase := k.2.2.2.size
      obtain ⟨A', c', rfl⟩ := own_slice ho
      replace k := k.next hb hg
      clear hb hg
      have H2 := Lib.hid h2; clear h2
      have HO := Lib.hid (own_mono ho hbase); clear ho
      obtain ⟨V1, hV1⟩ : ∃ V, V = ((((w2).setCell ⟨w.heap.size, 0, none⟩ (.string a0)).setCell ⟨w.heap.size, 1, none⟩ (.slice A' a1.length c')).setCell ⟨w.heap.size, 0, none⟩ (.string a0)).setCell ⟨w.heap.size, 1, none⟩ (.slice A' a1.length c') := ⟨_, rfl⟩
      have k' : KSt w B w.heap.size 55 #[.string a0, .slice A' a1.length c'] ⟨#[]⟩ V1 := by rw [hV1]; have h := ((((k.set 0 (.string a0)).set 1 (.slice A' a1.length c')).set 0 (.string a0)).set 1 (.slice A' a1.length c')); simpa using h
      have cA := k.cells
      have fA := k.frozen
      have HO2 := Lib.hid (show V1.ownsRow w.heap.size 3 1 (.slice A' a1.length c') a1.length (ints (intsOf a1)) by rw [hV1]; have h := HO.out; have hn := own_ne h k.2.2.1 (by decide); replace h := ownsRow_setCell_other h (a := ⟨w.heap.size, 0, none⟩) hn (.string a0); replace h := ownsRow_setCell_other h (a := ⟨w.heap.size, 1, none⟩) hn (.slice A' a1.length c'); replace h := ownsRow_setCell_other h (a := ⟨w.heap.size, 0, none⟩) hn (.string a0); replace h := ownsRow_setCell_other h (a := ⟨w.heap.size, 1, none⟩) hn (.slice A' a1.length c'); exact h)
      go_wp2_with fail
      rw [← hV1]
      clear hV1 cA fA k
      have cF := k'.cells
      have hq : takeNsec s = some (⟨a0, intsOf a1⟩, ⟨#[]⟩) := by simp [takeNsec, takeShort, H1.out, H2.out]
      refine bodyPost_ret (v := .agg #[.string a0, .slice A' a1.length c']) (by simp [results, Tryz.results71, go_sem, cF]) rfl ?_
      rw [HP.out, hq]
      refine ⟨⟨_, rfl, A', c', by simp [intsOf], ?_⟩, k'.2.1, k'.2.2.2⟩
      have h := HO2.out
      simpa [intsOf] using h

set_option maxRecDepth 100000 in
set_option maxHeartbeats 8000000 in
theorem nsec31_src (B : Nat) (s : ByteArray) (w : World) (hb : w.heap[B]? = some (.cells #[.string s] 189 (0, 0))) (hs : s.size ≤ 1073741824) :
    Calls Tryz.prog 75 #[.pointer (some ⟨B, 0, none⟩)] w (SrcPostR (nsec3R) B w (takeNsec3 s)) := by
  have hBw : B < w.heap.size := (Array.getElem?_eq_some_iff.1 hb).1
  obtain ⟨P, hP⟩ : ∃ P, P = takeNsec3 s := ⟨_, rfl⟩
  rw [← hP]
  obtain ⟨W0, hW0⟩ : ∃ W, W = w.alloc (.cells #[.int .i64 0, .int .i64 0, .int .i64 0, .string ⟨#[]⟩, .string ⟨#[]⟩, .slice none 0 0] 61) := ⟨_, rfl⟩
  have k : KSt w B w.heap.size 61 #[.int .i64 0, .int .i64 0, .int .i64 0, .string ⟨#[]⟩, .string ⟨#[]⟩, .slice none 0 0] s W0 := by rw [hW0]; exact KSt.new hb hBw _ _
  clear hb
  have HP := Lib.hid hP; clear hP
  go_enter Tryz.func75, Tryz.ntmps75
  have C1 := Lib.hid (number_src B 1 s W0 k.2.1 (by decide) (by omega))
  go_wp2_with fail
  rw [← hW0]
  clear hW0
  refine C1.out.mono ?_
  intro e w1 hp
  clear C1
  cases h1 : takeNum 1 s with
  | none =>
    rw [h1] at hp
    obtain ⟨rfl, hg⟩ := SrcPost.none_ hp
    have hq : takeNsec3 s = none := by simp [takeNsec3, takeShort, h1]
    have hpost : SrcPostR (nsec3R) B w P (.panicked stopChain) w1 := by rw [HP.out, hq]; exact ⟨rfl, k.2.2.2.trans hg⟩
    exact ⟨rfl, hpost⟩
  | some x =>
    obtain ⟨a0, s1⟩ := x
    rw [h1] at hp
    obtain ⟨rfl, hb, hg⟩ := SrcPost.some_ hp
    have z1 := size_num h1
    replace k := k.next hb hg
    clear hp hb hg
    have H1 := Lib.hid h1; clear h1
    have C2 := Lib.hid (number_src B 1 s1 w1 k.2.1 (by decide) (by omega))
    go_wp2_with fail
    refine C2.out.mono ?_
    intro e w2 hp
    clear C2
    cases h2 : takeNum 1 s1 with
    | none =>
      rw [h2] at hp
      obtain ⟨rfl, hg⟩ := SrcPost.none_ hp
      have hq : takeNsec3 s = none := by simp [takeNsec3, takeShort, H1.out, h2]
      have hpost : SrcPostR (nsec3R) B w P (.panicked stopChain) w2 := by rw [HP.out, hq]; exact ⟨rfl, k.2.2.2.trans hg⟩
      exact ⟨rfl, hpost⟩
    | some x =>
      obtain ⟨a1, s2⟩ := x
      rw [h2] at hp
      obtain ⟨rfl, hb, hg⟩ := SrcPost.some_ hp
      have z2 := size_num h2
      replace k := k.next hb hg
      clear hp hb hg
      have H2 := Lib.hid h2; clear h2
      have C3 := Lib.hid (number_src B 2 s2 w2 k.2.1 (by decide) (by omega))
      go_wp2_with fail
      refine C3.out.mono ?_
      intro e w3 hp
      clear C3
      cases h3 : takeNum 2 s2 with
      | none =>
        rw [h3] at hp
        obtain ⟨rfl, hg⟩ := SrcPost.none_ hp
        have hq : takeNsec3 s = none := by simp [takeNsec3, takeShort, H1.out, H2.out, h3]
        have hpost : SrcPostR (nsec3R) B w P (.panicked stopChain) w3 := by rw [HP.out, hq]; exact ⟨rfl, k.2.2.2.trans hg⟩
        exact ⟨rfl, hpost⟩
      | some x =>
        obtain ⟨a2, s3⟩ := x
        rw [h3] at hp
        obtain ⟨rfl, hb, hg⟩ := SrcPost.some_ hp
        have z3 := size_num h3
        replace k := k.next hb hg
        clear hp hb hg
        have H3 := Lib.hid h3; clear h3
        obtain ⟨V1, hV1⟩ : ∃ V, V = (((w3).setCell ⟨w.heap.size, 0, none⟩ (.int .i64 (a0 : Int))).setCell ⟨w.heap.size, 1, none⟩ (.int .i64 (a1 : Int))).setCell ⟨w.heap.size, 2, none⟩ (.int .i64 (a2 : Int)) := ⟨_, rfl⟩
        have k' : KSt w B w.heap.size 61 #[.int .i64 (a0 : Int), .int .i64 (a1 : Int), .int .i64 (a2 : Int), .string ⟨#[]⟩, .string ⟨#[]⟩, .slice none 0 0] s3 V1 := by rw [hV1]; have h := (((k.set 0 (.int .i64 (a0 : Int))).set 1 (.int .i64 (a1 : Int))).set 2 (.int .i64 (a2 : Int))); simpa using h
        have cA := k.cells
        have fA := k.frozen
        go_wp2_with fail
        rw [← hV1]
        clear hV1 cA fA k
        have k := k'; clear k'
        have C4 := Lib.hid (number_src B 1 s3 V1 k.2.1 (by decide) (by omega))
        go_wp2_with fail
        refine C4.out.mono ?_
        intro e w4 hp
        clear C4
        cases h4 : takeNum 1 s3 with
        | none =>
          rw [h4] at hp
          obtain ⟨rfl, hg⟩ := SrcPost.none_ hp
          have hq : takeNsec3 s = none := by simp [takeNsec3, takeShort, H1.out, H2.out, H3.out, h4]
          have hpost : SrcPostR (nsec3R) B w P (.panicked stopChain) w4 := by rw [HP.out, hq]; exact ⟨rfl, k.2.2.2.trans hg⟩
          exact ⟨rfl, hpost⟩
        | some x =>
          obtain ⟨n4, s4⟩ := x
          rw [h4] at hp
          obtain ⟨rfl, hb, hg⟩ := SrcPost.some_ hp
          have z4 := size_num h4
          replace k := k.next hb hg
          clear hp hb hg
          have H4 := Lib.hid h4; clear h4
          have C5 := Lib.hid (bytes_src B n4 s4 w4 k.2.1 (by omega))
          go_wp2_with fail
          refine C5.out.mono ?_
          intro e w5 hp
          clear C5
          cases h5 : takeBytes n4 s4 with
          | none =>
            rw [h5] at hp
            obtain ⟨rfl, hg⟩ := SrcPost.none_ hp
            have hq : takeNsec3 s = none := by simp [takeNsec3, takeShort, H1.out, H2.out, H3.out, H4.out, h5]
            have hpost : SrcPostR (nsec3R) B w P (.panicked stopChain) w5 := by rw [HP.out, hq]; exact ⟨rfl, k.2.2.2.trans hg⟩
            exact ⟨rfl, hpost⟩
          | some x =>
            obtain ⟨a3, s5⟩ := x
            rw [h5] at hp
            obtain ⟨rfl, hb, hg⟩ := SrcPost.some_ hp
            have z5 := size_bytes h5
            replace k := k.next hb hg
            clear hp hb hg
            have H5 := Lib.hid h5; clear h5
            obtain ⟨V2, hV2⟩ : ∃ V, V = (w5).setCell ⟨w.heap.size, 3, none⟩ (.string a3) := ⟨_, rfl⟩
            have k' : KSt w B w.heap.size 61 #[.int .i64 (a0 : Int), .int .i64 (a1 : Int), .int .i64 (a2 : Int), .string a3, .string ⟨#[]⟩, .slice none 0 0] s5 V2 := by rw [hV2]; have h := (k.set 3 (.string a3)); simpa using h
            have cA := k.cells
            have fA := k.frozen
            go_wp2_with fail
            rw [← hV2]
            clear hV2 cA fA k
            have k := k'; clear k'
            have C6 := Lib.hid (number_src B 1 s5 V2 k.2.1 (by decide) (by omega))
            go_wp2_with fail
            refine C6.out.mono ?_
            intro e w6 hp
            clear C6
            cases h6 : takeNum 1 s5 with
            | none =>
              rw [h6] at hp
              obtain ⟨rfl, hg⟩ := SrcPost.none_ hp
              have hq : takeNsec3 s = none := by simp [takeNsec3, takeShort, H1.out, H2.out, H3.out, H4.out, H5.out, h6]
              have hpost : SrcPostR (nsec3R) B w P (.panicked stopChain) w6 := by rw [HP.out, hq]; exact ⟨rfl, k.2.2.2.trans hg⟩
              exact ⟨rfl, hpost⟩
            | some x =>
              obtain ⟨n6, s6⟩ := x
              rw [h6] at hp
              obtain ⟨rfl, hb, hg⟩ := SrcPost.some_ hp
              have z6 := size_num h6
              replace k := k.next hb hg
              clear hp hb hg
              have H6 := Lib.hid h6; clear h6
              have C7 := Lib.hid (bytes_src B n6 s6 w6 k.2.1 (by omega))
              go_wp2_with fail
              refine C7.out.mono ?_
              intro e w7 hp
              clear C7
              cases h7 : takeBytes n6 s6 with
              | none =>
                rw [h7] at hp
                obtain ⟨rfl, hg⟩ := SrcPost.none_ hp
                have hq : takeNsec3 s = none := by simp [takeNsec3, takeShort, H1.out, H2.out, H3.out, H4.out, H5.out, H6.out, h7]
                have hpost : SrcPostR (nsec3R) B w P (.panicked stopChain) w7 := by rw [HP.out, hq]; exact ⟨rfl, k.2.2.2.trans hg⟩
                exact ⟨rfl, hpost⟩
              | some x =>
                obtain ⟨a4, s7⟩ := x
                rw [h7] at hp
                obtain ⟨rfl, hb, hg⟩ := SrcPost.some_ hp
                have z7 := size_bytes h7
                replace k := k.next hb hg
                clear hp hb hg
                have H7 := Lib.hid h7; clear h7
                obtain ⟨V3, hV3⟩ : ∃ V, V = (w7).setCell ⟨w.heap.size, 4, none⟩ (.string a4) := ⟨_, rfl⟩
                have k' : KSt w B w.heap.size 61 #[.int .i64 (a0 : Int), .int .i64 (a1 : Int), .int .i64 (a2 : Int), .string a3, .string a4, .slice none 0 0] s7 V3 := by rw [hV3]; have h := (k.set 4 (.string a4)); simpa using h
                have cA := k.cells
                have fA := k.frozen
                go_wp2_with fail
                rw [← hV3]
                clear hV3 cA fA k
                have k := k'; clear k'
                by_cases he : a4.size = 0
                · have hq : takeNsec3 s = none := by simp [takeNsec3, takeShort, H1.out, H2.out, H3.out, H4.out, H5.out, H6.out, H7.out]; exact fun h => absurd (empty_eq he) h
                  have hpost : SrcPostR (nsec3R) B w P (.panicked stopChain) V3 := by rw [HP.out, hq]; exact ⟨rfl, k.2.2.2⟩
                  have HPP := Lib.hid hpost; clear hpost hq
                  have ce := empty_of a4 he; clear he
                  have cA := k.cells
                  go_wp2_with fail
                  rw [show (!a4.toList.isEmpty) = false from by rw [ce]; rfl]
                  refine (must_false _ _).mono ?_
                  rintro e w' ⟨rfl, rfl⟩
                  exact ⟨rfl, HPP.out⟩
                have ce := empty_not a4 he
                have HE := Lib.hid (show ¬ a4 = ByteArray.empty from fun e => he (by rw [e]; rfl)); clear he
                have cA := k.cells
                go_wp2_with fail
                rw [show (!a4.toList.isEmpty) = true from by rw [ce]; rfl]
                refine (must_true _ _).mono ?_
                rintro e w' ⟨rfl, rfl⟩
                clear cA ce
                have C8 := Lib.hid (types_src B s7 V3 k.2.1 (by omega))
                go_wp2_with fail
                refine C8.out.mono ?_
                intro e w8 hp
                clear C8
                cases h8 : takeTypes s7.size (-1) s7 with
                | none =>
                  rw [h8] at hp
                  obtain ⟨rfl, hg⟩ := hp
                  have hq : takeNsec3 s = none := by simp [takeNsec3, takeShort, H1.out, H2.out, H3.out, H4.out, H5.out, H6.out, H7.out, HE.out, h8]
                  have hpost : SrcPostR (nsec3R) B w P (.panicked stopChain) w8 := by rw [HP.out, hq]; exact ⟨rfl, k.2.2.2.trans hg⟩
                  exact ⟨rfl, hpost⟩
                | some a5 =>
                  rw [h8] at hp
                  obtain ⟨⟨v, rfl, ho⟩, hb, hg⟩ := hp
                  have hbase := k.2.2.2.size
                  obtain ⟨A', c', rfl⟩ := own_slice ho
                  replace k := k.next hb hg
                  clear hb hg
                  have H8 := Lib.hid h8; clear h8
                  have HO := Lib.hid (own_mono ho hbase); clear ho
                  obtain ⟨V4, hV4⟩ : ∃ V, V = (((((((w8).setCell ⟨w.heap.size, 5, none⟩ (.slice A' a5.length c')).setCell ⟨w.heap.size, 0, none⟩ (.int .i64 (a0 : Int))).setCell ⟨w.heap.size, 1, none⟩ (.int .i64 (a1 : Int))).setCell ⟨w.heap.size, 2, none⟩ (.int .i64 (a2 : Int))).setCell ⟨w.heap.size, 3, none⟩ (.string a3)).setCell ⟨w.heap.size, 4, none⟩ (.string a4)).setCell ⟨w.heap.size, 5, none⟩ (.slice A' a5.length c') := ⟨_, rfl⟩
                  have k' : KSt w B w.heap.size 61 #[.int .i64 (a0 : Int), .int .i64 (a1 : Int), .int .i64 (a2 : Int), .string a3, .string a4, .slice A' a5.length c'] ⟨#[]⟩ V4 := by rw [hV4]; have h := (((((((k.set 5 (.slice A' a5.length c')).set 0 (.int .i64 (a0 : Int))).set 1 (.int .i64 (a1 : Int))).set 2 (.int .i64 (a2 : Int))).set 3 (.string a3)).set 4 (.string a4)).set 5 (.slice A' a5.length c')); simpa using h
                  have cA := k.cells
                  have fA := k.frozen
                  have HO2 := Lib.hid (show V4.ownsRow w.heap.size 3 1 (.slice A' a5.length c') a5.length (ints (intsOf a5)) by rw [hV4]; have h := HO.out; have hn := own_ne h k.2.2.1 (by decide); replace h := ownsRow_setCell_other h (a := ⟨w.heap.size, 5, none⟩) hn (.slice A' a5.length c'); replace h := ownsRow_setCell_other h (a := ⟨w.heap.size, 0, none⟩) hn (.int .i64 (a0 : Int)); replace h := ownsRow_setCell_other h (a := ⟨w.heap.size, 1, none⟩) hn (.int .i64 (a1 : Int)); replace h := ownsRow_setCell_other h (a := ⟨w.heap.size, 2, none⟩) hn (.int .i64 (a2 : Int)); replace h := ownsRow_setCell_other h (a := ⟨w.heap.size, 3, none⟩) hn (.string a3); replace h := ownsRow_setCell_other h (a := ⟨w.heap.size, 4, none⟩) hn (.string a4); replace h := ownsRow_setCell_other h (a := ⟨w.heap.size, 5, none⟩) hn (.slice A' a5.length c'); exact h)
                  go_wp2_with fail
                  rw [← hV4]
                  clear hV4 cA fA k
                  have cF := k'.cells
                  have hq : takeNsec3 s = some (⟨a0, a1, a2, a3, a4, intsOf a5⟩, ⟨#[]⟩) := by simp [takeNsec3, takeShort, H1.out, H2.out, H3.out, H4.out, H5.out, H6.out, H7.out, HE.out, H8.out]
                  refine bodyPost_ret (v := .agg #[.int .i64 (a0 : Int), .int .i64 (a1 : Int), .int .i64 (a2 : Int), .string a3, .string a4, .slice A' a5.length c']) (by simp [results, Tryz.results75, go_sem, cF]) rfl ?_
                  rw [HP.out, hq]
                  refine ⟨⟨_, rfl, A', c', by simp [intsOf], ?_⟩, k'.2.1, k'.2.2.2⟩
                  have h := HO2.out
                  simpa [intsOf] using h

end Go.Proofs.YtnllofjjffflkaaGreatDoor
namespace Go.Proofs.YtnllofjjffflkaaGreatDoor
open Go.RowKit Gp
set_option maxRecDepth 100000 in
set_option maxHeartbeats 8000000 in
theorem sig1_src (B : Nat) (s : ByteArray) (w : World) (hb : w.heap[B]? = some (.cells #[.string s] 189 (0, 0))) (hs : s.size ≤ 1073741824) :
    Calls Tryz.prog 63 #[.pointer (some ⟨B, 0, none⟩)] w (SrcPostR (fun _ a v _ => v = sigV a) B w (takeSig s)) := by
  have hBw : B < w.heap.size := (Array.getElem?_eq_some_iff.1 hb).1
  obtain ⟨P, hP⟩ : ∃ P, P = takeSig s := ⟨_, rfl⟩
  rw [← hP]
  obtain ⟨W0, hW0⟩ : ∃ W, W = w.alloc (.cells #[.int .i64 0, .int .i64 0, .int .i64 0, .int .i64 0, .int .i64 0, .int .i64 0, .int .i64 0, .string ⟨#[]⟩, .string ⟨#[]⟩] 36) := ⟨_, rfl⟩
  have k : KSt w B w.heap.size 36 #[.int .i64 0, .int .i64 0, .int .i64 0, .int .i64 0, .int .i64 0, .int .i64 0, .int .i64 0, .string ⟨#[]⟩, .string ⟨#[]⟩] s W0 := by rw [hW0]; exact KSt.new hb hBw _ _
  clear hb
  have HP := Lib.hid hP; clear hP
  go_enter Tryz.func63, Tryz.ntmps63
  have C1 := Lib.hid (number_src B 2 s W0 k.2.1 (by decide) (by omega))
  go_wp2_with fail
  rw [← hW0]
  clear hW0
  refine C1.out.mono ?_
  intro e w1 hp
  clear C1
  cases h1 : takeNum 2 s with
  | none =>
    rw [h1] at hp
    obtain ⟨rfl, hg⟩ := SrcPost.none_ hp
    have hq : takeSig s = none := by simp [takeSig, takeShort, h1]
    have hpost : SrcPostR (fun _ a v _ => v = sigV a) B w P (.panicked stopChain) w1 := by rw [HP.out, hq]; exact ⟨rfl, k.2.2.2.trans hg⟩
    exact ⟨rfl, hpost⟩
  | some x =>
    obtain ⟨a0, s1⟩ := x
    rw [h1] at hp
    obtain ⟨rfl, hb, hg⟩ := SrcPost.some_ hp
    have z1 := size_num h1
    replace k := k.next hb hg
    clear hp hb hg
    have H1 := Lib.hid h1; clear h1
    have C2 := Lib.hid (number_src B 1 s1 w1 k.2.1 (by decide) (by omega))
    go_wp2_with fail
    refine C2.out.mono ?_
    intro e w2 hp
    clear C2
    cases h2 : takeNum 1 s1 with
    | none =>
      rw [h2] at hp
      obtain ⟨rfl, hg⟩ := SrcPost.none_ hp
      have hq : takeSig s = none := by simp [takeSig, takeShort, H1.out, h2]
      have hpost : SrcPostR (fun _ a v _ => v = sigV a) B w P (.panicked stopChain) w2 := by rw [HP.out, hq]; exact ⟨rfl, k.2.2.2.trans hg⟩
      exact ⟨rfl, hpost⟩
    | some x =>
      obtain ⟨a1, s2⟩ := x
      rw [h2] at hp
      obtain ⟨rfl, hb, hg⟩ := SrcPost.some_ hp
      have z2 := size_num h2
      replace k := k.next hb hg
      clear hp hb hg
      have H2 := Lib.hid h2; clear h2
      have C3 := Lib.hid (number_src B 1 s2 w2 k.2.1 (by decide) (by omega))
      go_wp2_with fail
      refine C3.out.mono ?_
      intro e w3 hp
      clear C3
      cases h3 : takeNum 1 s2 with
      | none =>
        rw [h3] at hp
        obtain ⟨rfl, hg⟩ := SrcPost.none_ hp
        have hq : takeSig s = none := by simp [takeSig, takeShort, H1.out, H2.out, h3]
        have hpost : SrcPostR (fun _ a v _ => v = sigV a) B w P (.panicked stopChain) w3 := by rw [HP.out, hq]; exact ⟨rfl, k.2.2.2.trans hg⟩
        exact ⟨rfl, hpost⟩
      | some x =>
        obtain ⟨a2, s3⟩ := x
        rw [h3] at hp
        obtain ⟨rfl, hb, hg⟩ := SrcPost.some_ hp
        have z3 := size_num h3
        replace k := k.next hb hg
        clear hp hb hg
        have H3 := Lib.hid h3; clear h3
        obtain ⟨V1, hV1⟩ : ∃ V, V = (((w3).setCell ⟨w.heap.size, 0, none⟩ (.int .i64 (a0 : Int))).setCell ⟨w.heap.size, 1, none⟩ (.int .i64 (a1 : Int))).setCell ⟨w.heap.size, 2, none⟩ (.int .i64 (a2 : Int)) := ⟨_, rfl⟩
        have k' : KSt w B w.heap.size 36 #[.int .i64 (a0 : Int), .int .i64 (a1 : Int), .int .i64 (a2 : Int), .int .i64 0, .int .i64 0, .int .i64 0, .int .i64 0, .string ⟨#[]⟩, .string ⟨#[]⟩] s3 V1 := by rw [hV1]; have h := (((k.set 0 (.int .i64 (a0 : Int))).set 1 (.int .i64 (a1 : Int))).set 2 (.int .i64 (a2 : Int))); simpa using h
        have cA := k.cells
        have fA := k.frozen
        go_wp2_with fail
        rw [← hV1]
        clear hV1 cA fA k
        have k := k'; clear k'
        have C4 := Lib.hid (number_src B 4 s3 V1 k.2.1 (by decide) (by omega))
        go_wp2_with fail
        refine C4.out.mono ?_
        intro e w4 hp
        clear C4
        cases h4 : takeNum 4 s3 with
        | none =>
          rw [h4] at hp
          obtain ⟨rfl, hg⟩ := SrcPost.none_ hp
          have hq : takeSig s = none := by simp [takeSig, takeShort, H1.out, H2.out, H3.out, h4]
          have hpost : SrcPostR (fun _ a v _ => v = sigV a) B w P (.panicked stopChain) w4 := by rw [HP.out, hq]; exact ⟨rfl, k.2.2.2.trans hg⟩
          exact ⟨rfl, hpost⟩
        | some x =>
          obtain ⟨a3, s4⟩ := x
          rw [h4] at hp
          obtain ⟨rfl, hb, hg⟩ := SrcPost.some_ hp
          have z4 := size_num h4
          replace k := k.next hb hg
          clear hp hb hg
          have H4 := Lib.hid h4; clear h4
          have C5 := Lib.hid (number_src B 4 s4 w4 k.2.1 (by decide) (by omega))
          go_wp2_with fail
          refine C5.out.mono ?_
          intro e w5 hp
          clear C5
          cases h5 : takeNum 4 s4 with
          | none =>
            rw [h5] at hp
            obtain ⟨rfl, hg⟩ := SrcPost.none_ hp
            have hq : takeSig s = none := by simp [takeSig, takeShort, H1.out, H2.out, H3.out, H4.out, h5]
            have hpost : SrcPostR (fun _ a v _ => v = sigV a) B w P (.panicked stopChain) w5 := by rw [HP.out, hq]; exact ⟨rfl, k.2.2.2.trans hg⟩
            exact ⟨rfl, hpost⟩
          | some x =>
            obtain ⟨a4, s5⟩ := x
            rw [h5] at hp
            obtain ⟨rfl, hb, hg⟩ := SrcPost.some_ hp
            have z5 := size_num h5
            replace k := k.next hb hg
            clear hp hb hg
            have H5 := Lib.hid h5; clear h5
            have C6 := Lib.hid (number_src B 4 s5 w5 k.2.1 (by decide) (by omega))
            go_wp2_with fail
            refine C6.out.mono ?_
            intro e w6 hp
            clear C6
            cases h6 : takeNum 4 s5 with
            | none =>
              rw [h6] at hp
              obtain ⟨rfl, hg⟩ := SrcPost.none_ hp
              have hq : takeSig s = none := by simp [takeSig, takeShort, H1.out, H2.out, H3.out, H4.out, H5.out, h6]
              have hpost : SrcPostR (fun _ a v _ => v = sigV a) B w P (.panicked stopChain) w6 := by rw [HP.out, hq]; exact ⟨rfl, k.2.2.2.trans hg⟩
              exact ⟨rfl, hpost⟩
            | some x =>
              obtain ⟨a5, s6⟩ := x
              rw [h6] at hp
              obtain ⟨rfl, hb, hg⟩ := SrcPost.some_ hp
              have z6 := size_num h6
              replace k := k.next hb hg
              clear hp hb hg
              have H6 := Lib.hid h6; clear h6
              have C7 := Lib.hid (number_src B 2 s6 w6 k.2.1 (by decide) (by omega))
              go_wp2_with fail
              refine C7.out.mono ?_
              intro e w7 hp
              clear C7
              cases h7 : takeNum 2 s6 with
              | none =>
                rw [h7] at hp
                obtain ⟨rfl, hg⟩ := SrcPost.none_ hp
                have hq : takeSig s = none := by simp [takeSig, takeShort, H1.out, H2.out, H3.out, H4.out, H5.out, H6.out, h7]
                have hpost : SrcPostR (fun _ a v _ => v = sigV a) B w P (.panicked stopChain) w7 := by rw [HP.out, hq]; exact ⟨rfl, k.2.2.2.trans hg⟩
                exact ⟨rfl, hpost⟩
              | some x =>
                obtain ⟨a6, s7⟩ := x
                rw [h7] at hp
                obtain ⟨rfl, hb, hg⟩ := SrcPost.some_ hp
                have z7 := size_num h7
                replace k := k.next hb hg
                clear hp hb hg
                have H7 := Lib.hid h7; clear h7
                obtain ⟨V2, hV2⟩ : ∃ V, V = ((((w7).setCell ⟨w.heap.size, 3, none⟩ (.int .i64 (a3 : Int))).setCell ⟨w.heap.size, 4, none⟩ (.int .i64 (a4 : Int))).setCell ⟨w.heap.size, 5, none⟩ (.int .i64 (a5 : Int))).setCell ⟨w.heap.size, 6, none⟩ (.int .i64 (a6 : Int)) := ⟨_, rfl⟩
                have k' : KSt w B w.heap.size 36 #[.int .i64 (a0 : Int), .int .i64 (a1 : Int), .int .i64 (a2 : Int), .int .i64 (a3 : Int), .int .i64 (a4 : Int), .int .i64 (a5 : Int), .int .i64 (a6 : Int), .string ⟨#[]⟩, .string ⟨#[]⟩] s7 V2 := by rw [hV2]; have h := ((((k.set 3 (.int .i64 (a3 : Int))).set 4 (.int .i64 (a4 : Int))).set 5 (.int .i64 (a5 : Int))).set 6 (.int .i64 (a6 : Int))); simpa using h
                have cA := k.cells
                have fA := k.frozen
                go_wp2_with fail
                rw [← hV2]
                clear hV2 cA fA k
                have k := k'; clear k'
                have C8 := Lib.hid (name_src B s7 V2 k.2.1 (by omega))
                go_wp2_with fail
                refine C8.out.mono ?_
                intro e w8 hp
                clear C8
                cases h8 : takeName s7 with
                | none =>
                  rw [h8] at hp
                  obtain ⟨rfl, hg⟩ := SrcPost.none_ hp
                  have hq : takeSig s = none := by simp [takeSig, takeShort, H1.out, H2.out, H3.out, H4.out, H5.out, H6.out, H7.out, h8]
                  have hpost : SrcPostR (fun _ a v _ => v = sigV a) B w P (.panicked stopChain) w8 := by rw [HP.out, hq]; exact ⟨rfl, k.2.2.2.trans hg⟩
                  exact ⟨rfl, hpost⟩
                | some x =>
                  obtain ⟨a7, s8⟩ := x
                  rw [h8] at hp
                  obtain ⟨rfl, hb, hg⟩ := SrcPost.some_ hp
                  have z8 := size_name h8
                  replace k := k.next hb hg
                  clear hp hb hg
                  have H8 := Lib.hid h8; clear h8
                  have C9 := Lib.hid (rest_src B s8 w8 k.2.1 (by omega))
                  go_wp2_with fail
                  refine C9.out.mono ?_
                  intro e w9 hp
                  clear C9
                  cases h9 : takeRest s8 with
                  | none =>
                    rw [h9] at hp
                    obtain ⟨rfl, hg⟩ := SrcPost.none_ hp
                    have hq : takeSig s = none := by simp [takeSig, takeShort, H1.out, H2.out, H3.out, H4.out, H5.out, H6.out, H7.out, H8.out, h9]
                    have hpost : SrcPostR (fun _ a v _ => v = sigV a) B w P (.panicked stopChain) w9 := by rw [HP.out, hq]; exact ⟨rfl, k.2.2.2.trans hg⟩
                    exact ⟨rfl, hpost⟩
                  | some x =>
                    obtain ⟨a8, s9⟩ := x
                    rw [h9] at hp
                    obtain ⟨rfl, hb, hg⟩ := SrcPost.some_ hp
                    have z9 := size_rest h9
                    replace k := k.next hb hg
                    clear hp hb hg
                    have H9 := Lib.hid h9; clear h9
                    obtain ⟨V3, hV3⟩ : ∃ V, V = (((((((((((w9).setCell ⟨w.heap.size, 7, none⟩ (.string a7)).setCell ⟨w.heap.size, 8, none⟩ (.string a8)).setCell ⟨w.heap.size, 0, none⟩ (.int .i64 (a0 : Int))).setCell ⟨w.heap.size, 1, none⟩ (.int .i64 (a1 : Int))).setCell ⟨w.heap.size, 2, none⟩ (.int .i64 (a2 : Int))).setCell ⟨w.heap.size, 3, none⟩ (.int .i64 (a3 : Int))).setCell ⟨w.heap.size, 4, none⟩ (.int .i64 (a4 : Int))).setCell ⟨w.heap.size, 5, none⟩ (.int .i64 (a5 : Int))).setCell ⟨w.heap.size, 6, none⟩ (.int .i64 (a6 : Int))).setCell ⟨w.heap.size, 7, none⟩ (.string a7)).setCell ⟨w.heap.size, 8, none⟩ (.string a8) := ⟨_, rfl⟩
                    have k' : KSt w B w.heap.size 36 #[.int .i64 (a0 : Int), .int .i64 (a1 : Int), .int .i64 (a2 : Int), .int .i64 (a3 : Int), .int .i64 (a4 : Int), .int .i64 (a5 : Int), .int .i64 (a6 : Int), .string a7, .string a8] s9 V3 := by rw [hV3]; have h := (((((((((((k.set 7 (.string a7)).set 8 (.string a8)).set 0 (.int .i64 (a0 : Int))).set 1 (.int .i64 (a1 : Int))).set 2 (.int .i64 (a2 : Int))).set 3 (.int .i64 (a3 : Int))).set 4 (.int .i64 (a4 : Int))).set 5 (.int .i64 (a5 : Int))).set 6 (.int .i64 (a6 : Int))).set 7 (.string a7)).set 8 (.string a8)); simpa using h
                    have cA := k.cells
                    have fA := k.frozen
                    go_wp2_with fail
                    rw [← hV3]
                    clear hV3 cA fA k
                    have cF := k'.cells
                    have hq : takeSig s = some (⟨a0, a1, a2, a3, a4, a5, a6, a7, a8⟩, s9) := by simp [takeSig, takeShort, H1.out, H2.out, H3.out, H4.out, H5.out, H6.out, H7.out, H8.out, H9.out]
                    refine bodyPost_ret (v := .agg #[.int .i64 (a0 : Int), .int .i64 (a1 : Int), .int .i64 (a2 : Int), .int .i64 (a3 : Int), .int .i64 (a4 : Int), .int .i64 (a5 : Int), .int .i64 (a6 : Int), .string a7, .string a8]) (by simp [results, Tryz.results63, go_sem, cF]) rfl ?_
                    rw [HP.out, hq]
                    exact ⟨⟨_, rfl, rfl⟩, k'.2.1, k'.2.2.2⟩

end Go.Proofs.YtnllofjjffflkaaGreatDoor
namespace Go.Proofs.YtnllofjjffflkaaGreatDoor
open Go.RowKit Gp
/-- Numbers of four bytes, one behind the other. -/
def takeNums : Nat → ByteArray → Option (List Nat × ByteArray)
  | 0, s => some ([], s)
  | k + 1, s => match takeNums k s with
    | none => none
    | some (vs, r) => match takeNum 4 r with
      | none => none
      | some (v, r') => some (vs ++ [v], r')
theorem takeNums_none {s : ByteArray} {k : Nat} (h : takeNums k s = none) : ∀ j, takeNums (k + j) s = none
  | 0 => h
  | j + 1 => by rw [← Nat.add_assoc, takeNums, takeNums_none h j]
theorem takeNums_size {s : ByteArray} : ∀ {k : Nat} {vs : List Nat} {r : ByteArray}, takeNums k s = some (vs, r) → vs.length = k ∧ r.size ≤ s.size
  | 0, vs, r, h => by
    cases h; exact ⟨rfl, Nat.le_refl _⟩
  | k + 1, vs, r, h => by
    rw [takeNums] at h
    cases h1 : takeNums k s with
    | none => rw [h1] at h; cases h
    | some x =>
      obtain ⟨us, t⟩ := x
      have h2 := takeNums_size h1
      rw [h1] at h
      simp only at h
      cases h3 : takeNum 4 t with
      | none => rw [h3] at h; cases h
      | some y =>
        obtain ⟨v, t'⟩ := y
        have h4 := takeNum_size h3
        rw [h3] at h
        simp only [Option.some.injEq, Prod.mk.injEq] at h
        obtain ⟨rfl, rfl⟩ := h
        exact ⟨by simp [h2.1], by omega⟩
theorem takeSoa_none {s s1 s2 p m : ByteArray} (h1 : takeName s = some (p, s1)) (h2 : takeName s1 = some (m, s2)) (h : takeNums 5 s2 = none) : takeSoa s = none := by
  simp only [takeNums] at h
  unfold takeSoa
  rw [h1]
  simp only [Option.bind_eq_bind, Option.bind_some, h2]
  cases a1 : takeNum 4 s2 with
  | none => rfl
  | some x1 =>
    rw [a1] at h; simp only at h
    simp only [Option.bind_some]
    cases a2 : takeNum 4 x1.2 with
    | none => rfl
    | some x2 =>
      rw [a2] at h; simp only at h
      simp only [Option.bind_some]
      cases a3 : takeNum 4 x2.2 with
      | none => rfl
      | some x3 =>
        rw [a3] at h; simp only at h
        simp only [Option.bind_some]
        cases a4 : takeNum 4 x3.2 with
        | none => rfl
        | some x4 =>
          rw [a4] at h; simp only at h
          simp only [Option.bind_some]
          cases a5 : takeNum 4 x4.2 with
          | none => rfl
          | some x5 => rw [a5] at h; simp at h
theorem takeSoa_some {s s1 s2 p m r : ByteArray} {vs : List Nat} (h1 : takeName s = some (p, s1)) (h2 : takeName s1 = some (m, s2)) (h : takeNums 5 s2 = some (vs, r)) :
    ∃ a b c d e : Nat, vs = [a, b, c, d, e] ∧ takeSoa s = some (⟨p, m, a, b, c, d, e⟩, r) := by
  simp only [takeNums] at h
  unfold takeSoa
  rw [h1]
  simp only [Option.bind_eq_bind, Option.bind_some, h2]
  cases a1 : takeNum 4 s2 with
  | none => rw [a1] at h; simp at h
  | some x1 =>
    rw [a1] at h; simp only at h
    simp only [Option.bind_some]
    cases a2 : takeNum 4 x1.2 with
    | none => rw [a2] at h; simp at h
    | some x2 =>
      rw [a2] at h; simp only at h
      simp only [Option.bind_some]
      cases a3 : takeNum 4 x2.2 with
      | none => rw [a3] at h; simp at h
      | some x3 =>
        rw [a3] at h; simp only at h
        simp only [Option.bind_some]
        cases a4 : takeNum 4 x3.2 with
        | none => rw [a4] at h; simp at h
        | some x4 =>
          rw [a4] at h; simp only at h
          simp only [Option.bind_some]
          cases a5 : takeNum 4 x4.2 with
          | none => rw [a5] at h; simp at h
          | some x5 =>
            rw [a5] at h
            simp only [Option.some.injEq, Prod.mk.injEq] at h
            obtain ⟨h, rfl⟩ := h
            exact ⟨x1.1, x2.1, x3.1, x4.1, x5.1, by rw [← h]; rfl, rfl⟩
/-- The cells of a SOA of which some numbers have been put down. -/
def soaC (p m : ByteArray) (vs : List Nat) : Array Value := #[.string p, .string m] ++ (vs.map (fun (v : Nat) => Value.int .i64 (v : Int)) ++ List.replicate (5 - vs.length) (Value.int .i64 0)).toArray
theorem soaC_set (p m : ByteArray) (vs : List Nat) (v : Nat) (h : vs.length < 5) : (soaC p m vs).setIfInBounds (2 + vs.length) (.int .i64 (v : Int)) = soaC p m (vs ++ [v]) := by
  match vs, h with
  | [], _ => rfl
  | [a], _ => rfl
  | [a, b], _ => rfl
  | [a, b, c], _ => rfl
  | [a, b, c, d], _ => rfl
  | a :: b :: c :: d :: e :: r, h => simp at h; omega
theorem soaC_at (p m : ByteArray) (vs : List Nat) (h : vs.length < 5) : (soaC p m vs)[2 + vs.length]? = some (.int .i64 0) := by
  match vs, h with
  | [], _ => rfl
  | [a], _ => rfl
  | [a, b], _ => rfl
  | [a, b, c], _ => rfl
  | [a, b, c, d], _ => rfl
  | a :: b :: c :: d :: e :: r, h => simp at h; omega
theorem KSt.alloc {w : World} {B A : Nat} {T : TypeId} {cs : Array Value} {r : ByteArray} {W : World} (h : KSt w B A T cs r W) (o : Obj) : KSt w B A T cs r (W.alloc o) :=
  ⟨h.1, (Below.heap_alloc _ _ _ (Array.getElem?_eq_some_iff.1 h.2.1).1).trans h.2.1, (Below.heap_alloc _ _ _ (Array.getElem?_eq_some_iff.1 h.2.2.1).1).trans h.2.2.1, grown_alloc h.2.2.2 _⟩
abbrev soaR : Nat → Soa → Value → World → Prop := fun _ a v _ => v = soaV a
set_option maxRecDepth 100000 in
set_option maxHeartbeats 8000000 in
theorem soa1_src (B : Nat) (s : ByteArray) (w : World) (hb : w.heap[B]? = some (.cells #[.string s] 189 (0, 0))) (hs : s.size ≤ 1073741824) :
    Calls Tryz.prog 57 #[.pointer (some ⟨B, 0, none⟩)] w (SrcPostR soaR B w (takeSoa s)) := by
  have hBw : B < w.heap.size := (Array.getElem?_eq_some_iff.1 hb).1
  obtain ⟨P, hP⟩ : ∃ P, P = takeSoa s := ⟨_, rfl⟩
  rw [← hP]
  obtain ⟨W0, hW0⟩ : ∃ W, W = w.alloc (.cells #[.string ⟨#[]⟩, .string ⟨#[]⟩, .int .i64 0, .int .i64 0, .int .i64 0, .int .i64 0, .int .i64 0] 30) := ⟨_, rfl⟩
  have k : KSt w B w.heap.size 30 #[.string ⟨#[]⟩, .string ⟨#[]⟩, .int .i64 0, .int .i64 0, .int .i64 0, .int .i64 0, .int .i64 0] s W0 := by rw [hW0]; exact KSt.new hb hBw _ _
  clear hb
  have HP := Lib.hid hP; clear hP
  go_enter Tryz.func57, Tryz.ntmps57
  have C1 := Lib.hid (name_src B s W0 k.2.1 (by omega))
  go_wp2_with fail
  rw [← hW0]
  clear hW0
  refine C1.out.mono ?_
  intro e w1 hp
  clear C1
  cases h1 : takeName s with
  | none =>
    rw [h1] at hp
    obtain ⟨rfl, hg⟩ := SrcPost.none_ hp
    have hq : takeSoa s = none := by simp [takeSoa, h1]
    have hpost : SrcPostR soaR B w P (.panicked stopChain) w1 := by rw [HP.out, hq]; exact ⟨rfl, k.2.2.2.trans hg⟩
    exact ⟨rfl, hpost⟩
  | some x =>
    obtain ⟨p, s1⟩ := x
    rw [h1] at hp
    obtain ⟨rfl, hb, hg⟩ := SrcPost.some_ hp
    have z1 := size_name h1
    replace k := k.next hb hg
    clear hp hb hg
    have H1 := Lib.hid h1; clear h1
    have C2 := Lib.hid (name_src B s1 w1 k.2.1 (by omega))
    go_wp2_with fail
    refine C2.out.mono ?_
    intro e w2 hp
    clear C2
    cases h2 : takeName s1 with
    | none =>
      rw [h2] at hp
      obtain ⟨rfl, hg⟩ := SrcPost.none_ hp
      have hq : takeSoa s = none := by simp [takeSoa, H1.out, h2]
      have hpost : SrcPostR soaR B w P (.panicked stopChain) w2 := by rw [HP.out, hq]; exact ⟨rfl, k.2.2.2.trans hg⟩
      exact ⟨rfl, hpost⟩
    | some x =>
      obtain ⟨m, s2⟩ := x
      rw [h2] at hp
      obtain ⟨rfl, hb, hg⟩ := SrcPost.some_ hp
      have z2 := size_name h2
      replace k := k.next hb hg
      clear hp hb hg
      have H2 := Lib.hid h2; clear h2
      obtain ⟨V1, hV1⟩ : ∃ V, V = ((w2.setCell ⟨w.heap.size, 0, none⟩ (.string p)).setCell ⟨w.heap.size, 1, none⟩ (.string m)).alloc (.cells #[.pointer (some ⟨w.heap.size, 2, none⟩), .pointer (some ⟨w.heap.size, 3, none⟩), .pointer (some ⟨w.heap.size, 4, none⟩), .pointer (some ⟨w.heap.size, 5, none⟩), .pointer (some ⟨w.heap.size, 6, none⟩)] 105) := ⟨_, rfl⟩
      have k' : KSt w B w.heap.size 30 (soaC p m []) s2 V1 := by
        rw [hV1]; have h := ((k.set 0 (.string p)).set 1 (.string m)).alloc (.cells #[.pointer (some ⟨w.heap.size, 2, none⟩), .pointer (some ⟨w.heap.size, 3, none⟩), .pointer (some ⟨w.heap.size, 4, none⟩), .pointer (some ⟨w.heap.size, 5, none⟩), .pointer (some ⟨w.heap.size, 6, none⟩)] 105)
        have e : soaC p m [] = #[.string p, .string m, .int .i64 0, .int .i64 0, .int .i64 0, .int .i64 0, .int .i64 0] := rfl
        rw [e]; simpa using h
      have cA := k.cells
      have fA := k.frozen
      go_wp2_with fail
      rw [← hV1]
      have hL : Blk w2.heap.size #[.pointer (some ⟨w.heap.size, 2, none⟩), .pointer (some ⟨w.heap.size, 3, none⟩), .pointer (some ⟨w.heap.size, 4, none⟩), .pointer (some ⟨w.heap.size, 5, none⟩), .pointer (some ⟨w.heap.size, 6, none⟩)] 105 V1 := by
        rw [hV1]
        have := Blk.new ((w2.setCell ⟨w.heap.size, 0, none⟩ (.string p)).setCell ⟨w.heap.size, 1, none⟩ (.string m)) #[.pointer (some ⟨w.heap.size, 2, none⟩), .pointer (some ⟨w.heap.size, 3, none⟩), .pointer (some ⟨w.heap.size, 4, none⟩), .pointer (some ⟨w.heap.size, 5, none⟩), .pointer (some ⟨w.heap.size, 6, none⟩)] 105
        simpa using this
      have hLne : w2.heap.size ≠ B ∧ w2.heap.size ≠ w.heap.size := by
        have h1 := (Array.getElem?_eq_some_iff.1 k.2.1).1
        have h2 := (Array.getElem?_eq_some_iff.1 k.2.2.1).1
        omega
      obtain ⟨L, hLL⟩ : ∃ L, L = w2.heap.size := ⟨_, rfl⟩
      rw [← hLL] at hL hLne ⊢
      clear hV1 cA fA k hLL
      go_loopw [18] (fun v wr => ∃ (j : Nat) (vs : List Nat) (r : ByteArray), j ≤ 5 ∧ v = .int .i64 (j : Int) ∧ vs.length = j ∧ takeNums j s2 = some (vs, r) ∧ KSt w B w.heap.size 30 (soaC p m vs) r wr ∧
        Blk L #[.pointer (some ⟨w.heap.size, 2, none⟩), .pointer (some ⟨w.heap.size, 3, none⟩), .pointer (some ⟨w.heap.size, 4, none⟩), .pointer (some ⟨w.heap.size, 5, none⟩), .pointer (some ⟨w.heap.size, 6, none⟩)] 105 wr) (fun v _ => 5 - (intOf v).toNat)
      case atStart => exact ⟨0, [], s2, by omega, rfl, rfl, rfl, k', hL⟩
      case round =>
        obtain ⟨j, vs, r, hj, rfl, hvl, hN, k, hL⟩ := hrel
        clear k'
        have zN := (takeNums_size hN).2
        have HN := Lib.hid hN; clear hN
        by_cases hj5 : j < 5
        · have hj5i : (j : Int) < 5 := by omega
          have cL : wr.cell? ⟨L, j, none⟩ = some (.pointer (some ⟨w.heap.size, 2 + j, none⟩)) := by
            rw [hL.cells j]
            match j, hj5 with
            | 0, _ | 1, _ | 2, _ | 3, _ | 4, _ => rfl
          have C3 := Lib.hid (number_src B 4 r wr k.2.1 (by decide) (by omega))
          have HLB := Lib.hid hL; clear hL
          go_wp2_with fail
          refine C3.out.mono ?_
          intro e w3 hp
          clear C3
          cases h3 : takeNum 4 r with
          | none =>
            rw [h3] at hp
            obtain ⟨rfl, hg⟩ := SrcPost.none_ hp
            have hq5 : takeNums 5 s2 = none := by
              have h : takeNums (j + 1) s2 = none := by rw [takeNums, HN.out]; simp only [h3]
              have h' := takeNums_none h (5 - (j + 1))
              rwa [show j + 1 + (5 - (j + 1)) = 5 by omega] at h'
            have hq : takeSoa s = none := takeSoa_none H1.out H2.out hq5
            have hpost : SrcPostR soaR B w P (.panicked stopChain) w3 := by rw [HP.out, hq]; exact ⟨rfl, k.2.2.2.trans hg⟩
            exact ⟨rfl, hpost⟩
          | some x =>
            obtain ⟨n, r'⟩ := x
            rw [h3] at hp
            obtain ⟨rfl, hb, hg⟩ := SrcPost.some_ hp
            have hNn : takeNums (j + 1) s2 = some (vs ++ [n], r') := by rw [takeNums, HN.out]; simp only [h3]
            have HNN := Lib.hid hNn; clear hNn h3 hp
            have hL3 : Blk L #[.pointer (some ⟨w.heap.size, 2, none⟩), .pointer (some ⟨w.heap.size, 3, none⟩), .pointer (some ⟨w.heap.size, 4, none⟩), .pointer (some ⟨w.heap.size, 5, none⟩), .pointer (some ⟨w.heap.size, 6, none⟩)] 105 w3 := grown_keep hg HLB.out hLne.1
            replace k := k.next hb hg
            have cA : w3.cell? ⟨w.heap.size, 2 + j, none⟩ = some (.int .i64 0) := by rw [k.cells, ← hvl]; exact soaC_at p m vs (by omega)
            have fA := k.frozen (2 + j)
            have k2 := k.set (2 + j) (.int .i64 (n : Int))
            rw [show (soaC p m vs).setIfInBounds (2 + j) (.int .i64 (n : Int)) = soaC p m (vs ++ [n]) by rw [← hvl]; exact soaC_set p m vs n (by omega)] at k2
            have hL4 : Blk L #[.pointer (some ⟨w.heap.size, 2, none⟩), .pointer (some ⟨w.heap.size, 3, none⟩), .pointer (some ⟨w.heap.size, 4, none⟩), .pointer (some ⟨w.heap.size, 5, none⟩), .pointer (some ⟨w.heap.size, 6, none⟩)] 105 (w3.setCell ⟨w.heap.size, 2 + j, none⟩ (.int .i64 (n : Int))) := (Below.heap_setCell _ _ _ _ hLne.2).trans hL3
            have HK := Lib.hid (And.intro k2 hL4); clear k2 hL3 hL4 k cL hb hg
            have hvl2 : (vs ++ [n]).length = j + 1 := by rw [List.length_append, hvl]; rfl
            have HV := Lib.hid hvl2; clear hvl2 hvl
            go_wp2_with fail
            go_roundw
            case rel => exact ⟨j + 1, vs ++ [n], r', by omega, by go_num, HV.out, HNN.out, HK.out.1, HK.out.2⟩
            case measure => simp [intOf]; omega
        · obtain rfl : j = 5 := by omega
          obtain ⟨a, b, c, d, e, rfl, hq⟩ := takeSoa_some H1.out H2.out HN.out
          have HQ := Lib.hid hq; clear hq hvl
          have k' : KSt w B w.heap.size 30 #[.string p, .string m, .int .i64 (a : Int), .int .i64 (b : Int), .int .i64 (c : Int), .int .i64 (d : Int), .int .i64 (e : Int)] r wr := k
          clear k
          have cA := k'.cells
          have fA := k'.frozen
          obtain ⟨V2, hV2⟩ : ∃ V, V = (((((((wr).setCell ⟨w.heap.size, 0, none⟩ (.string p)).setCell ⟨w.heap.size, 1, none⟩ (.string m)).setCell ⟨w.heap.size, 2, none⟩ (.int .i64 (a : Int))).setCell ⟨w.heap.size, 3, none⟩ (.int .i64 (b : Int))).setCell ⟨w.heap.size, 4, none⟩ (.int .i64 (c : Int))).setCell ⟨w.heap.size, 5, none⟩ (.int .i64 (d : Int))).setCell ⟨w.heap.size, 6, none⟩ (.int .i64 (e : Int)) := ⟨_, rfl⟩
          have k2 : KSt w B w.heap.size 30 #[.string p, .string m, .int .i64 (a : Int), .int .i64 (b : Int), .int .i64 (c : Int), .int .i64 (d : Int), .int .i64 (e : Int)] r V2 := by
            rw [hV2]
            have h := ((((((k'.set 0 (.string p)).set 1 (.string m)).set 2 (.int .i64 (a : Int))).set 3 (.int .i64 (b : Int))).set 4 (.int .i64 (c : Int))).set 5 (.int .i64 (d : Int))).set 6 (.int .i64 (e : Int))
            simpa using h
          have HK := Lib.hid k2; clear k2 k' hL
          go_wp2_with fail
          rw [← hV2]
          clear hV2 cA fA
          have cF := HK.out.cells
          refine bodyPost_ret (v := .agg #[.string p, .string m, .int .i64 (a : Int), .int .i64 (b : Int), .int .i64 (c : Int), .int .i64 (d : Int), .int .i64 (e : Int)]) (by simp [results, Tryz.results57, go_sem, cF]) rfl ?_
          rw [HP.out, HQ.out]
          exact ⟨⟨_, rfl, rfl⟩, HK.out.2.1, HK.out.2.2.2⟩
end Go.Proofs.YtnllofjjffflkaaGreatDoor
