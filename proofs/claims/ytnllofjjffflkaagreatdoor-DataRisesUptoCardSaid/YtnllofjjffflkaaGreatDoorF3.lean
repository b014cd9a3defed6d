/- Walks of texts and textParts; for every text. -/
import Derived.Test.YtnllofjjffflkaaGreatDoorF2
import Derived.Test.YtnllofjjffflkaaGreatDoorP1
import Derived.Laws.OwnMore
set_option linter.unusedSimpArgs false
set_option linter.unusedVariables false
namespace Go.Proofs.YtnllofjjffflkaaGreatDoor
open Go.RowKit Gp
theorem texts_any (s : ByteArray) (w : World) : Calls Tryz.prog 127 #[.string s] w (TakeListPost (takeL s) w) := by
  go_enter Tryz.func127, Tryz.ntmps127
  go_wp2_with fail
  refine (take200_any s w).mono ?_
  intro e w1 hp
  cases hT : takeL s with
  | none =>
    rw [hT] at hp
    obtain ⟨rfl, hB⟩ := hp
    go_wp2
    go_ret2
    rw [hT]; exact ⟨rfl, hB⟩
  | some l =>
    rw [hT] at hp
    obtain ⟨⟨v, rfl, ho⟩, hB⟩ := hp
    have HO := Lib.hid ho; clear ho
    go_wp2
    go_ret2
    rw [hT]; exact ⟨⟨_, rfl, HO.out⟩, hB⟩
theorem own_set {w : World} {base : Nat} {e : TypeId} {g n cap k : Nat} {xs : List Value} (h : w.ownsRow base e 1 (.slice (some ⟨g, 0, none⟩) n cap) n xs) (hk : k < n) (y : Value) :
    (w.setCell ⟨g, k, none⟩ y).ownsRow base e 1 (.slice (some ⟨g, 0, none⟩) n cap) n (xs.set k y) := by
  refine ⟨by rw [List.length_set]; exact h.1, ?_⟩
  rcases h.2 with ⟨e0, _⟩ | ⟨g', cap', cur, e0, hb, hg, hn, hm, hs, ht⟩
  · cases e0
  · injection e0 with e1 _ e3
    injection e1 with e1
    injection e1 with e1
    subst e1; subst e3
    refine .inr ⟨g, cap, cur.setIfInBounds k y, rfl, hb, ?_, hn, hm, by simpa using hs, ?_⟩
    · simp [World.setCell, Array.getElem?_modify, hg]
    · rw [← ht]
      simp [List.take_set]
/-- The bytes of a text between quotes. -/
def quoteS (s : ByteArray) : ByteArray := ofL ([34] ++ quoteL s ++ [34])
def textPartsS (d : ByteArray) : List ByteArray := ((takeL d).getD []).map quoteS
theorem strs_at (l : List ByteArray) (k : Nat) (h : k < l.length) : (strs l)[k]? = some (.string l[k]) := by simp [strs, h]

theorem bN_u8 (s : ByteArray) (k : Nat) : bN s k = (s.data.toList.getD k 0).toNat := rfl
theorem u8_wrap (a : Nat) (h : a < 256) : IntKind.u8.wrap (a : Int) = (a : Int) := by rw [IntKind.wrap_u8]; omega
theorem ofNat_toNat (a : Nat) (h : a < 256) : (UInt8.ofNat a).toNat = a := by simp; omega
theorem mid_at (f : ByteArray → ByteArray) (l : List ByteArray) (k : Nat) (h : k < l.length) : (strs ((l.map f).take k ++ l.drop k))[k]? = some (.string l[k]) := by
  have hl : ((l.map f).take k).length = k := by simp; omega
  unfold strs
  rw [List.getElem?_map, List.getElem?_append_right (by omega), hl, Nat.sub_self, List.getElem?_drop, Nat.add_zero, List.getElem?_eq_getElem h]
  rfl
theorem mid_set (f : ByteArray → ByteArray) (l : List ByteArray) (k : Nat) (h : k < l.length) : (strs ((l.map f).take k ++ l.drop k)).set k (.string (f l[k])) = strs ((l.map f).take (k + 1) ++ l.drop (k + 1)) := by
  have hl : ((l.map f).take k).length = k := by simp; omega
  unfold strs
  rw [List.drop_eq_getElem_cons h, List.map_append, List.set_append_right _ _ (by simp; omega), List.length_map, hl, Nat.sub_self, List.map_cons, List.set_cons_zero]
  have h2 : (l.map f).take (k + 1) = (l.map f).take k ++ [f l[k]] := by
    rw [List.take_succ_eq_append_getElem (by simpa using h)]; simp
  rw [h2]; simp
theorem Bd.alloc {b B : Nat} {w : World} {l : List UInt8} (h : Bd b B w l) (o : Obj) : Bd b B (w.alloc o) l := by
  obtain ⟨p, v, hb, hp, ho⟩ := h.at_
  have := h.lt
  have := h.le
  exact ⟨h.lt, by rw [World.size_alloc]; omega, p, v, (Below.heap_alloc _ _ _ (by omega)).trans hb, hp, ho.alloc _⟩
set_option maxRecDepth 100000 in
set_option maxHeartbeats 4000000 in
theorem textParts_any (d : ByteArray) (w : World) : Calls Tryz.prog 128 #[.string d] w (StrPost (textPartsS d) w) := by
  go_enter Tryz.func128, Tryz.ntmps128
  go_wp2_with fail
  refine (texts_any d w).mono ?_
  intro e w1 hp
  cases hT : takeL d with
  | none =>
    have hP : textPartsS d = [] := by rw [textPartsS, hT]; rfl
    rw [hT] at hp
    obtain ⟨rfl, hB⟩ := hp
    have HB := Lib.hid hB; clear hB
    go_wp2_with fail
    go_loopw [17] (fun iv wr => iv = .int .i64 0 ∧ wr = w1) (fun iv _ => 0)
    case atStart => exact ⟨rfl, rfl⟩
    case round =>
      obtain ⟨rfl, rfl⟩ := hrel
      go_wp2_with fail
      go_ret
      rw [hP]
      exact ⟨⟨_, rfl, ⟨rfl, .inl ⟨rfl, rfl⟩⟩⟩, HB.out⟩
  | some l =>
    have hP : textPartsS d = l.map quoteS := by rw [textPartsS, hT]; rfl
    rw [hT] at hp
    obtain ⟨⟨v, rfl, ho⟩, hB⟩ := hp
    obtain ⟨A, c, rfl⟩ := own_slice ho
    have HB := Lib.hid hB; clear hB
    have HP := Lib.hid hP; clear hP
    have hll : l.length ≤ 2000 ∧ ∀ x ∈ l, x.size ≤ 255 := by
      have : takeL d = some l := hT
      unfold takeL at this
      split at this
      · have := textsP_mem this; exact ⟨by omega, this.2⟩
      · cases this
    obtain ⟨hll, hmem⟩ := hll
    have HM := Lib.hid hmem; clear hmem
    go_wp2_with fail
    go_loopw [17] (fun iv wr => ∃ k : Nat, k ≤ l.length ∧ iv = .int .i64 (k : Int) ∧ wr.ownsRow w.heap.size 9 1 (.slice A l.length c) l.length (strs ((l.map quoteS).take k ++ l.drop k)) ∧ Below w.heap.size w wr) (fun iv _ => l.length - (intOf iv).toNat)
    case atStart => exact ⟨0, Nat.zero_le _, rfl, by simpa using ho, HB.out⟩
    case round =>
      obtain ⟨k, hk, rfl, hown, hBr⟩ := hrel
      by_cases hlt : k < l.length
      · obtain ⟨g, c', he, hg, hgl⟩ := hown.form (by omega)
        injection he with he1 _ he2
        subst he1; subst he2
        have hel := mid_at quoteS l k hlt
        have hck := hown.cells (g := g) rfl k _ hel
        have ha : (⟨g, 0, none⟩ : Addr).add k = ⟨g, k, none⟩ := by unfold Addr.add; split <;> simp_all
        rw [ha] at hck
        clear ha hel
        have hs255 := HM.out l[k] (List.getElem_mem _)
        obtain ⟨s, hs⟩ : ∃ s, s = l[k] := ⟨_, rfl⟩
        rw [← hs] at hs255
        rw [← hs] at hck
        have HR := Lib.hid (And.intro hown (And.intro hBr hs)); clear hown hBr hs
        have kb := fun (W : World) => Lib.run_convert_string_bytes (P := Tryz.prog) W 9 126 5 s Tryz.underlying9 Tryz.underlying126 Tryz.underlying5
        obtain ⟨wo, rfl⟩ : ∃ x, x = wr := ⟨_, rfl⟩
        obtain ⟨V1, hV1⟩ : ∃ V1, V1 = Lib.bytesWorld (wo.alloc (.cells #[.pointer none, .slice none 0 0] 194)) 5 s := ⟨_, rfl⟩
        have hsV : V1.heap.size = wo.heap.size + 2 := by rw [hV1, Lib.bytesWorld_size, World.size_alloc]
        have hBV : Below (wo.heap.size + 1) (wo.alloc (.cells #[.pointer none, .slice none 0 0] 194)) V1 := by
          have := bytesW_below (wo.alloc (.cells #[.pointer none, .slice none 0 0] 194)) 5 s
          rw [World.size_alloc] at this; rw [hV1]; exact this
        have hBd : Bd wo.heap.size (wo.heap.size + 2) V1 [] := by
          refine ⟨by omega, by omega, .pointer none, .slice none 0 0, ?_, .inl rfl, rfl, .inl ⟨rfl, rfl⟩⟩
          exact (hBV.block _ (by omega)).trans (World.alloc_heap_new wo _)
        have hcV : ∀ j, j < s.size → V1.cell? ⟨wo.heap.size + 1, j, none⟩ = some (.int .u8 (bN s j : Int)) := by
          intro j hj
          have := bytes_cell (wo.alloc (.cells #[.pointer none, .slice none 0 0] 194)) s j hj
          rw [World.size_alloc] at this; rw [hV1]; exact this
        have hBV2 : Below wo.heap.size wo V1 := ((Below.refl _ _).alloc (Nat.le_refl _) _).trans (hBV.mono (by omega))
        have HV := Lib.hid (And.intro hBV2 hcV); clear hBV2 hcV hBV
        go_wp2_with fail
        clear kb
        rw [← hV1]
        clear hV1
        go_loopw [25] (fun jv wr => ∃ j : Nat, j ≤ s.size ∧ jv = .int .i64 (j : Int) ∧ Bd wo.heap.size (wo.heap.size + 2) wr ((s.data.toList.take j).flatMap quoteB) ∧ Ex wo.heap.size (wo.heap.size + 2) V1 wr) (fun jv _ => s.size - (intOf jv).toNat)
        case atStart => exact ⟨0, Nat.zero_le _, rfl, hBd, Ex.refl _ _ _⟩
        case round =>
          obtain ⟨j, hj, rfl, hBd, hX⟩ := hrel
          by_cases hjl : j < s.size
          · have hcj := (hX.block (wo.heap.size + 1) (by omega) (by omega))
            have hc : wr.cell? ⟨wo.heap.size + 1, j, none⟩ = some (.int .u8 (bN s j : Int)) := by
              rw [← HV.out.2 j hjl]; simp only [World.cell?, hcj]
            clear hcj
            have hqt := quote_take s.data.toList j (by rw [data_length]; exact hjl)
            have h256 := bN_lt s j
            have hql := quote_len (s.data.toList.take j)
            rw [List.length_take] at hql
            obtain ⟨c8, hc8⟩ : ∃ c8, c8 = s.data.toList.getD j 0 := ⟨_, rfl⟩
            have hcb : bN s j = c8.toNat := by rw [hc8, bN_u8]
            rw [← hc8] at hqt
            rw [hcb] at hc h256
            have HQ := Lib.hid hqt; clear hqt hc8 hcb
            have hXs := hX.size
            have HX := Lib.hid hX; clear hX
            by_cases hq : c8.toNat = 34 ∨ c8.toNat = 92
            · have hqb : quoteB c8 = [92, c8] := by rw [quoteB, if_pos hq]
              have HB1 := Lib.hid hqb; clear hqb
              rcases hq with h | h
              · obtain rfl : c8 = 34 := UInt8.toNat_inj.1 h
                replace hc : wr.cell? ⟨wo.heap.size + 1, j, none⟩ = some (.int .u8 34) := hc
                go_wp2_with fail
                refine (write_any wo.heap.size (wo.heap.size + 2) wr.heap.size _ [92, 34] _ (hBd.alloc _) (by simp only [List.length_cons, List.length_nil]; omega) (World.alloc_heap_new wr _) (by omega)).mono ?_
                rintro e w3 ⟨rfl, hBd3, hX3⟩
                rw [← HB1.out, ← HQ.out] at hBd3
                have HD3 := Lib.hid (And.intro hBd3 ((HX.out.alloc (by omega) _).trans hX3)); clear hBd3 hX3 hBd
                go_wp2
                go_roundw
                case rel => exact ⟨j + 1, by omega, by go_num, HD3.out.1, HD3.out.2⟩
                case measure => simp [intOf]; omega
              · obtain rfl : c8 = 92 := UInt8.toNat_inj.1 h
                replace hc : wr.cell? ⟨wo.heap.size + 1, j, none⟩ = some (.int .u8 92) := hc
                go_wp2_with fail
                refine (write_any wo.heap.size (wo.heap.size + 2) wr.heap.size _ [92, 92] _ (hBd.alloc _) (by simp only [List.length_cons, List.length_nil]; omega) (World.alloc_heap_new wr _) (by omega)).mono ?_
                rintro e w3 ⟨rfl, hBd3, hX3⟩
                rw [← HB1.out, ← HQ.out] at hBd3
                have HD3 := Lib.hid (And.intro hBd3 ((HX.out.alloc (by omega) _).trans hX3)); clear hBd3 hX3 hBd
                go_wp2
                go_roundw
                case rel => exact ⟨j + 1, by omega, by go_num, HD3.out.1, HD3.out.2⟩
                case measure => simp [intOf]; omega
            · by_cases hw : c8.toNat < 32 ∨ 126 < c8.toNat
              · have b1 : ((c8.toNat : Int) == 34) = false := beq_eq_false_iff_ne.2 (by omega)
                have b2 : ((c8.toNat : Int) == 92) = false := beq_eq_false_iff_ne.2 (by omega)
                have hqb : quoteB c8 = [92, UInt8.ofNat (48 + c8.toNat / 100), UInt8.ofNat (48 + c8.toNat / 10 % 10), UInt8.ofNat (48 + c8.toNat % 10)] := by rw [quoteB, if_neg hq, if_pos hw]
                have HB1 := Lib.hid hqb; clear hqb
                have e1 : (((UInt8.ofNat (48 + c8.toNat / 100)).toNat : Nat) : Int) = 48 + (c8.toNat : Int) / 100 := by rw [ofNat_toNat _ (by omega)]; omega
                have e2 : (((UInt8.ofNat (48 + c8.toNat / 10 % 10)).toNat : Nat) : Int) = 48 + (c8.toNat : Int) / 10 % 10 := by rw [ofNat_toNat _ (by omega)]; omega
                have e3 : (((UInt8.ofNat (48 + c8.toNat % 10)).toNat : Nat) : Int) = 48 + (c8.toNat : Int) % 10 := by rw [ofNat_toNat _ (by omega)]; omega
                have e4 : bc [92, UInt8.ofNat (48 + c8.toNat / 100), UInt8.ofNat (48 + c8.toNat / 10 % 10), UInt8.ofNat (48 + c8.toNat % 10)] = [.int .u8 92, .int .u8 (48 + (c8.toNat : Int) / 100), .int .u8 (48 + (c8.toNat : Int) / 10 % 10), .int .u8 (48 + (c8.toNat : Int) % 10)] := by
                  simp only [bc, List.map_cons, List.map_nil, e1, e2, e3]; rfl
                have hnew := World.alloc_heap_new wr (.cells (bc [92, UInt8.ofNat (48 + c8.toNat / 100), UInt8.ofNat (48 + c8.toNat / 10 % 10), UInt8.ofNat (48 + c8.toNat % 10)]).toArray 5)
                have HW := Lib.hid (write_any wo.heap.size (wo.heap.size + 2) wr.heap.size _ _ _ (hBd.alloc _) (by simp only [List.length_cons, List.length_nil]; omega) hnew (by omega))
                rw [e4] at HW
                clear e1 e2 e3 e4 hnew
                go_wp2_with fail
                all_goals
                  refine HW.out.mono ?_
                  rintro e w3 ⟨rfl, hBd3, hX3⟩
                  rw [← HB1.out, ← HQ.out] at hBd3
                  have HD3 := Lib.hid (And.intro hBd3 ((HX.out.alloc (by omega) _).trans hX3)); clear hBd3 hX3 hBd HW
                  go_wp2
                  go_roundw
                  case rel => exact ⟨j + 1, by omega, by go_num, HD3.out.1, HD3.out.2⟩
                  case measure => simp [intOf]; omega
              · have b1 : ((c8.toNat : Int) == 34) = false := beq_eq_false_iff_ne.2 (by omega)
                have b2 : ((c8.toNat : Int) == 92) = false := beq_eq_false_iff_ne.2 (by omega)
                have hqb : quoteB c8 = [c8] := by rw [quoteB, if_neg hq, if_neg hw]
                have HB1 := Lib.hid hqb; clear hqb
                go_wp2_with fail
                refine (writeByte_any wo.heap.size (wo.heap.size + 2) _ c8 wr hBd (by omega)).mono ?_
                rintro e w3 ⟨rfl, hBd3, hX3⟩
                rw [← HB1.out, ← HQ.out] at hBd3
                have HD3 := Lib.hid (And.intro hBd3 (HX.out.trans hX3)); clear hBd3 hX3 hBd
                go_wp2
                go_roundw
                case rel => exact ⟨j + 1, by omega, by go_num, HD3.out.1, HD3.out.2⟩
                case measure => simp [intOf]; omega
          · obtain rfl : j = s.size := by omega
            rw [List.take_of_length_le (by rw [data_length]; exact Nat.le_refl _)] at hBd
            have hql := quote_len s.data.toList
            rw [data_length] at hql
            have hXs := hX.size
            have hsr := hBd.le
            have HX := Lib.hid hX; clear hX
            have hstr := Tryz.Builder_String_any wo.heap.size wo.heap.size _ wr hBd.is (by omega)
            have HS := Lib.hid hstr; clear hstr hBd
            obtain ⟨q, hq⟩ : ∃ q, q = s.data.toList.flatMap quoteB := ⟨_, rfl⟩
            rw [← hq] at HS hql
            have hqs : (⟨q.toArray⟩ : ByteArray).size = q.length := by show q.toArray.size = _; simp
            go_wp2_with fail
            refine HS.out.mono ?_
            rintro e w3 ⟨rfl, hB3⟩
            have hBw3 : Below wo.heap.size wo w3 := HV.out.1.trans ((HX.out.to_below (by omega)).trans hB3)
            have hown3 := (pw_own_below HR.out.1 hBw3)
            have hf3 := hown3.frozenAt k
            have hset := own_set hown3 hlt (.string (quoteS s))
            have hms := mid_set quoteS l k hlt
            rw [← HR.out.2.2] at hms
            rw [hms] at hset
            have hbl : Below w.heap.size w (w3.setCell ⟨g, k, none⟩ (.string (quoteS s))) := (HR.out.2.1.trans (hBw3.mono HR.out.2.1.size)).setCell (p := ⟨g, k, none⟩) hg _
            have hc3 : w3.cell? ⟨g, k, none⟩ = some (.string s) := (hBw3.cell (p := ⟨g, k, none⟩) (by simpa using hgl)).trans hck
            have hqe : (⟨#[34]⟩ : ByteArray) ++ ⟨q.toArray⟩ ++ ⟨#[34]⟩ = quoteS s := by
              rw [quoteS, quoteL, ← hq]; apply ByteArray.ext; simp [ofL]
            have HF := Lib.hid (And.intro hset hbl); clear hset hbl hms hown3 hBw3 hB3 hq
            go_wp2_with fail
            refine ⟨⟨k + 1, by omega, by go_num, ?_, ?_⟩, by simp [intOf]; omega⟩
            · first | exact HF.out.1 | (rw [hqe]; exact HF.out.1)
            · first | exact HF.out.2 | (rw [hqe]; exact HF.out.2)
      · obtain rfl : k = l.length := by omega
        have HR := Lib.hid (And.intro hown hBr); clear hown hBr
        go_wp2_with fail
        go_ret
        rw [HP.out]
        refine ⟨⟨_, rfl, ?_⟩, HR.out.2⟩
        have := HR.out.1
        rw [List.drop_length, List.append_nil, List.take_of_length_le (by simp)] at this
        simpa using this
end Go.Proofs.YtnllofjjffflkaaGreatDoor
