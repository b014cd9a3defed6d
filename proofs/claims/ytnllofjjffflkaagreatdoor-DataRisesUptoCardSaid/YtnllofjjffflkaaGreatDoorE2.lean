/- Walk of unfours: four numbers and points read as bytes; for texts of at most 2^30 bytes. -/
import Derived.Test.YtnllofjjffflkaaGreatDoorE1
set_option linter.unusedSimpArgs false
set_option linter.unusedVariables false
namespace Go.Proofs.YtnllofjjffflkaaGreatDoor
open Go.RowKit Gp
/-- strconv.ParseUint(s, 10, 8). -/
def pu8 (s : ByteArray) : Option Nat := match Lib.parseUintB 8 s.data.toList with | .ok u => some u | _ => none
def PuPost (r : Option Nat) (w : World) (e : Ending) (w' : World) : Prop :=
  match r with
  | some u => e = .returned (.tuple #[.int .u64 (u : Int), .nilIface]) ∧ Below w.heap.size w w'
  | none => (∃ (x : Int) (N : Nat), e = .returned (.tuple #[.int .u64 x, .iface 226 (.pointer (some ⟨N, 0, none⟩))])) ∧ Below w.heap.size w w'
theorem bytesW_below (w : World) (e : TypeId) (s : ByteArray) : Below w.heap.size w (Lib.bytesWorld w e s) :=
  ⟨rfl, rfl, rfl, by rw [Lib.bytesWorld_size]; omega, fun k hk => Lib.bytesWorld_at_old w e s k hk⟩
theorem pu8_any (s : ByteArray) (w : World) (hE : Env w) (hs : s.size ≤ 1073741824) : Calls Tryz.prog 150 #[.string s, .int .i64 10, .int .i64 8] w (PuPost (pu8 s) w) := by
  unfold pu8
  cases h : Lib.parseUintB 8 s.data.toList with
  | ok u =>
    refine (Tryz.strconv_ParseUint_10_at8_ok s (by omega) u h w).mono ?_
    rintro e w' ⟨rfl, hw⟩
    rcases hw with rfl | rfl
    · exact ⟨rfl, Below.refl _ _⟩
    · exact ⟨rfl, bytesW_below _ _ _⟩
  | range =>
    obtain ⟨tp, p, hv⟩ := hE.rng
    refine (Tryz.strconv_ParseUint_10_at8_range_var s (by omega) h tp p w hv).mono ?_
    rintro e w' ⟨M, rfl, _, _, hB⟩
    exact ⟨⟨_, _, rfl⟩, hB⟩
  | _ =>
    obtain ⟨tp, p, hv⟩ := hE.syn
    refine (Tryz.strconv_ParseUint_10_at8_syntax_var s (by omega) h tp p w hv).mono ?_
    rintro e w' ⟨M, rfl, _, _, hB⟩
    exact ⟨⟨_, _, rfl⟩, hB⟩
def dotS : ByteArray := ⟨#[46]⟩
/-- The bytes that numbers tell; none: one tells none. -/
def unfoursL : List ByteArray → Option (List UInt8)
  | [] => some []
  | p :: r => match pu8 p with
    | some u => (unfoursL r).map (UInt8.ofNat u :: ·)
    | none => none
theorem unfoursL_snoc (a : List ByteArray) (p : ByteArray) : unfoursL (a ++ [p]) = match unfoursL a, pu8 p with | some b, some u => some (b ++ [UInt8.ofNat u]) | _, _ => none := by
  induction a with
  | nil => simp only [List.nil_append, unfoursL]; cases pu8 p <;> rfl
  | cons x r ih =>
    simp only [List.cons_append, unfoursL, ih]
    cases pu8 x with
    | none => rfl
    | some u => cases unfoursL r <;> cases pu8 p <;> rfl
theorem unfoursL_none {a b : List ByteArray} (h : unfoursL a = none) : unfoursL (a ++ b) = none := by
  induction a with
  | nil => simp [unfoursL] at h
  | cons x r ih =>
    simp only [List.cons_append, unfoursL] at h ⊢
    cases hx : pu8 x with
    | none => rfl
    | some u => rw [hx] at h; simp only [Option.map_eq_none_iff] at h; simp [ih h]
theorem unfoursL_length {a : List ByteArray} {b : List UInt8} (h : unfoursL a = some b) : b.length = a.length := by
  induction a generalizing b with
  | nil => simp [unfoursL] at h; simp [← h]
  | cons x r ih =>
    simp only [unfoursL] at h
    cases hx : pu8 x with
    | none => rw [hx] at h; cases h
    | some u =>
      rw [hx] at h
      simp only [Option.map_eq_some_iff] at h
      obtain ⟨c, hc, rfl⟩ := h
      simp [ih hc]
def strErr (r : Option (List UInt8)) : ByteArray × Int := match r with | some b => (ofL b, 0) | none => (⟨#[]⟩, 7)
theorem splitS_length (s sep : ByteArray) (h : 1 ≤ sep.size) : (splitS s sep).length ≤ s.size + 1 := by
  have h1 : (splitS s sep).length = Lib.countB s sep + 1 := Lib.splitB_all sep h 0 _ s rfl
  have h2 := Lib.countB_le sep h s.size s (Nat.le_refl _)
  omega
theorem splitB_mem (sep : ByteArray) : ∀ (k : Nat) (s p : ByteArray), p ∈ Lib.splitB sep 0 k s → p.size ≤ s.size
  | 0, s, p, h => by rw [Lib.splitB_zero] at h; simp at h; rw [h]; exact Nat.le_refl _
  | k + 1, s, p, h => by
    unfold Lib.splitB at h
    split at h
    · simp at h; rw [h]; exact Nat.le_refl _
    · rcases List.mem_cons.1 h with rfl | h
      · rw [ByteArray.size_extract]; omega
      · have := splitB_mem sep k _ p h
        rw [ByteArray.size_extract] at this; omega
theorem splitS_mem {s sep p : ByteArray} (h : p ∈ splitS s sep) : p.size ≤ s.size := splitB_mem sep _ s p h
set_option maxRecDepth 100000 in
set_option maxHeartbeats 2000000 in
theorem unfours_any (g o n c : Nat) (s : ByteArray) (w : World) (hE : Env w) (hn : 1 ≤ n) (hc : w.cell? ⟨g, o, none⟩ = some (.string s)) (hs : s.size ≤ 1073741824) :
    Calls Tryz.prog 112 #[.slice (some ⟨g, o, none⟩) n c] w fun e w' => e = .returned (.tuple #[.string (strErr (unfoursL (splitS s dotS))).1, .int .i64 (strErr (unfoursL (splitS s dotS))).2]) ∧ Below w.heap.size w w' := by
  obtain ⟨i0, hi0, hz0, hz1, hz2⟩ := info_parts info5
  have hlen := splitS_length s dotS (by decide)
  go_enter Tryz.func112, Tryz.ntmps112
  go_wp2_with fail
  refine (split_any s dotS w hE (by omega) (by decide)).mono ?_
  rintro e w1 ⟨rfl, rfl⟩
  obtain ⟨ps, hps⟩ : ∃ ps, ps = splitS s dotS := ⟨_, rfl⟩
  rw [← hps] at hlen ⊢
  have hmem : ∀ p ∈ ps, p.size ≤ s.size := fun p hp => splitS_mem (by rw [← hps]; exact hp)
  have HPS := Lib.hid hps; clear hps
  have HMEM := Lib.hid hmem; clear hmem
  have hP0 := Blk.new w (strs ps).toArray 9
  have hB0 : Below w.heap.size w (w.alloc (.cells (strs ps).toArray 9)) := (Below.refl _ _).alloc (Nat.le_refl _) _
  go_wp2_with fail
  go_loopw [4, 14] (fun v iv wr => ∃ (k : Nat) (b : List UInt8), k ≤ ps.length ∧ iv = .int .i64 (k : Int) ∧ unfoursL (ps.take k) = some b ∧ wr.ownsRow w.heap.size 5 1 v b.length (bc b) ∧ Blk w.heap.size (strs ps).toArray 9 wr ∧ Below w.heap.size w wr) (fun _ iv _ => ps.length - (intOf iv).toNat)
  case atStart => exact ⟨0, [], Nat.zero_le _, rfl, rfl, ⟨rfl, .inl ⟨rfl, rfl⟩⟩, hP0, hB0⟩
  case round =>
    obtain ⟨k, b, hk, rfl, hu, hown, hP, hB⟩ := hrel
    clear hP0 hB0
    have hbl := unfoursL_length hu
    rw [List.length_take, Nat.min_eq_left hk] at hbl
    have HU := Lib.hid hu; clear hu
    by_cases hlt : k < ps.length
    · obtain ⟨p, hp⟩ : ∃ p, ps[k]? = some p := ⟨_, List.getElem?_eq_getElem hlt⟩
      have hcp : wr.cell? ⟨w.heap.size, k, none⟩ = some (.string p) := by
        rw [hP.cells k]; simp [strs, hp]
      have hps : p.size ≤ 1073741824 := Nat.le_trans (HMEM.out p (List.mem_of_getElem? hp)) hs
      have htk : ps.take (k + 1) = ps.take k ++ [p] := by
        obtain ⟨hk2, rfl⟩ := List.getElem?_eq_some_iff.1 hp
        rw [List.take_succ_eq_append_getElem hk2]
      have hE2 := hE.below hB hE.size
      have HP := Lib.hid hP; clear hP
      have HB := Lib.hid hB; clear hB
      have HT := Lib.hid htk; clear htk
      have HBL := Lib.hid hbl; clear hbl
      clear hp
      go_wp2_with fail
      refine (pu8_any p wr hE2 hps).mono ?_
      cases hpu : pu8 p with
      | none =>
        rintro e w2 ⟨⟨x, M, rfl⟩, hB2⟩
        have hun : unfoursL ps = none := by
          have h1 : unfoursL (ps.take (k + 1)) = none := by rw [HT.out, unfoursL_snoc, HU.out, hpu]
          have := unfoursL_none (b := ps.drop (k + 1)) h1
          rwa [List.take_append_drop] at this
        have HN := Lib.hid hun; clear hun hpu
        have HB2 := Lib.hid (HB.out.trans (hB2.mono HB.out.size)); clear hB2
        go_wp2
        go_ret2
        refine ⟨?_, HB2.out⟩
        rw [← HPS.out, HN.out]; rfl
      | some u =>
        rintro e w2 ⟨rfl, hB2⟩
        have hu2 : unfoursL (ps.take (k + 1)) = some (b ++ [UInt8.ofNat u]) := by rw [HT.out, unfoursL_snoc, HU.out, hpu]
        have HU2 := Lib.hid hu2; clear hu2 hpu
        have hown2 := pw_own_below hown hB2
        have hP2 : Blk w.heap.size (strs ps).toArray 9 w2 := HP.out.below hB2 (Array.getElem?_eq_some_iff.1 HP.out).1
        have hcv : ∀ W, (convert 174 5 (.int .u64 (u : Int))).run Tryz.prog W = .ok (.int .u8 ((UInt8.ofNat u).toNat : Int)) W := by
          intro W
          have : (((UInt8.ofNat u).toNat : Nat) : Int) = (u : Int) % 256 := by simp [UInt8.toNat_ofNat']
          rw [this]
          simp [go_sem]
          rfl
        have hszw := HB.out.size
        have hszw2 := hB2.size
        have q1 : b.length + 1 ≤ maxLen := by have := HBL.out; unfold maxLen; omega
        have q2 : (b.length + 1) * 1 ≤ 140737488355328 := by have := HBL.out; omega
        have q3 : w.heap.size ≤ (w2.alloc (.cells #[.int .u8 ((UInt8.ofNat u).toNat : Int)] 5)).heap.size := by simp; omega
        have HB2 := Lib.hid (HB.out.trans (hB2.mono hszw)); clear hB2 hown
        go_wp2_with (at_builtin; refine wpList_append_own _ rfl _ _ 126 rfl w.heap.size 5 i0 (.int .u8 0) 1 1 Tryz.underlying126 hi0 hz0 hz1 hz2 rfl (by decide) _ _ _ rfl (hown2.alloc _) ⟨w2.heap.size, 0, none⟩ 1 1 [.int .u8 ((UInt8.ofNat u).toNat : Int)] rfl rfl (cell_one_new _ _ _) (by simp [Value.oneCell']) q1 q2 q3 ?_)
        intro v' w3 hown' hgrow _
        obtain ⟨g', cap', rfl⟩ := ownsRow_succ hown'
        have HB3 := Lib.hid ((HB2.out.alloc HB2.out.size _).grown hgrow q3 (own_from hown2))
        have HP3 : Hid (Blk w.heap.size (strs ps).toArray 9 w3) := Lib.hid ((hgrow.block w.heap.size (by simp; omega) (fun e => own_ne hown2 hP2 (by decide) e.symm)).trans (hP2.alloc _))
        have HO3 := Lib.hid hown'; clear hown' hgrow hown2 hP2
        go_wp2
        go_roundw
        case rel =>
          refine ⟨k + 1, b ++ [UInt8.ofNat u], by omega, by go_num, HU2.out, ?_, HP3.out, HB3.out⟩
          have := HO3.out
          simpa [bc] using this
        case measure => simp [intOf]; omega
    · obtain rfl : k = ps.length := by omega
      rw [List.take_length] at HU
      have hcv := own_str hown
      have HB := Lib.hid hB; clear hB hown hP
      go_wp2
      go_ret2
      refine ⟨?_, HB.out⟩
      rw [← HPS.out, HU.out]; rfl
end Go.Proofs.YtnllofjjffflkaaGreatDoor
