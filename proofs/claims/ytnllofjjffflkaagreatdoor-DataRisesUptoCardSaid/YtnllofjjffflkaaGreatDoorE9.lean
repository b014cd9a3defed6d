/- Walks of WriteByte and Write of a Builder that the call made; for at most 2^40 bytes. -/
import Derived.Test.YtnllofjjffflkaaGreatDoorE8
set_option linter.unusedSimpArgs false
set_option linter.unusedVariables false
namespace Go.Proofs.YtnllofjjffflkaaGreatDoor
open Go.RowKit Gp
theorem copyCheck_any (b B : Nat) (l : List UInt8) (w : World) (h : Bd b B w l) :
    Calls Tryz.prog 224 #[.pointer (some ⟨b, 0, none⟩)] w fun e w' => e = .returned (.tuple #[]) ∧ (∃ v, w'.heap[b]? = some (.cells #[.pointer (some ⟨b, 0, none⟩), v] 194 (0, 0)) ∧ w'.ownsRow B 5 1 v l.length (bc l)) ∧ Ex b B w w' ∧ ∀ k, k ≠ b → w'.heap[k]? = w.heap[k]? := by
  obtain ⟨p, v, hb, hp, ho⟩ := h.at_
  rcases hp with rfl | rfl
  · refine (copyCheck_new b v w hb).mono ?_
    rintro e w' ⟨rfl, rfl⟩
    refine ⟨rfl, ⟨v, ?_, ownsRow_setCell_other ho (a := ⟨b, 0, none⟩) (own_ne ho hb (by decide)) _⟩, (Ex.refl _ _ _).setCell _ _ _, fun k hk => Below.heap_setCell _ _ _ _ hk⟩
    simp [World.setCell, Array.getElem?_modify, hb]
  · refine (copyCheck_old b v w hb).mono ?_
    rintro e w' ⟨rfl, rfl⟩
    exact ⟨rfl, ⟨v, hb, ho⟩, Ex.refl _ _ _, fun _ _ => rfl⟩
theorem Bd.put {b B : Nat} {p v' v : Value} {l : List UInt8} {w : World} (hlt : b < B) (hle : B ≤ w.heap.size) (hb : w.heap[b]? = some (.cells #[p, v] 194 (0, 0))) (hp : p = .pointer none ∨ p = .pointer (some ⟨b, 0, none⟩)) (ho : w.ownsRow B 5 1 v' l.length (bc l)) :
    Bd b B (w.setCell ⟨b, 1, none⟩ v') l :=
  ⟨hlt, by rw [World.size_setCell]; exact hle, p, v', by simp [World.setCell, Array.getElem?_modify, hb], hp, ownsRow_setCell_other ho (a := ⟨b, 1, none⟩) (own_ne ho hb (by decide)) _⟩
set_option maxRecDepth 100000 in
set_option maxHeartbeats 2000000 in
theorem writeByte_any (b B : Nat) (l : List UInt8) (c : UInt8) (w : World) (h : Bd b B w l) (hl : l.length ≤ 1099511627776) :
    Calls Tryz.prog 203 #[.pointer (some ⟨b, 0, none⟩), .int .u8 (c.toNat : Int)] w fun e w' => e = .returned .nilIface ∧ Bd b B w' (l ++ [c]) ∧ Ex b B w w' := by
  obtain ⟨i0, hi0, hz0, hz1, hz2⟩ := info_parts info5
  have hlt := h.lt
  have hle := h.le
  go_enter Tryz.func203, Tryz.ntmps203
  go_wp2_with fail
  refine (copyCheck_any b B l w h).mono ?_
  rintro e w1 ⟨rfl, ⟨v, hb, hown⟩, hx, _⟩
  have hsz := hx.size
  have c1 : w1.cell? ⟨b, 1, none⟩ = some v := by simp [World.cell?, hb]
  have q1 : l.length + 1 ≤ maxLen := by unfold maxLen; omega
  have q2 : (l.length + 1) * 1 ≤ 140737488355328 := by omega
  have q3 : B ≤ (w1.alloc (.cells #[.int .u8 (c.toNat : Int)] 5)).heap.size := by simp; omega
  have HX := Lib.hid hx; clear hx
  go_wp2_with (at_builtin; refine wpList_append_own _ rfl _ _ 126 rfl B 5 i0 (.int .u8 0) 1 1 Tryz.underlying126 hi0 hz0 hz1 hz2 rfl (by decide) _ _ _ rfl (hown.alloc _) ⟨w1.heap.size, 0, none⟩ 1 1 [.int .u8 (c.toNat : Int)] rfl rfl (cell_one_new _ _ _) (by simp [Value.oneCell']) q1 q2 q3 ?_)
  intro v' w3 hown' hgrow _
  obtain ⟨g', cap', rfl⟩ := ownsRow_succ hown'
  have hne := own_ne hown hb (by decide)
  have hb3 : w3.heap[b]? = some (.cells #[.pointer (some ⟨b, 0, none⟩), v] 194 (0, 0)) := by
    rw [hgrow.block b (by simp; omega) (fun e => hne e.symm), Below.heap_alloc _ _ _ (by omega)]; exact hb
  have hx3 : Ex b B w w3 := (HX.out.alloc (by omega) _).grown hgrow q3 (own_from hown)
  have hle3 : B ≤ w3.heap.size := Nat.le_trans hle hx3.size
  have hf1 : w3.frozen? ⟨b, 1, none⟩ = false := by simp [World.frozen?, hb3]
  have hc1 : w3.cell? ⟨b, 1, none⟩ = some v := by simp [World.cell?, hb3]
  rw [show bc l ++ [Value.int .u8 (c.toNat : Int)] = bc (l ++ [c]) from by simp [bc]] at hown'
  have hown'' : w3.ownsRow B 5 1 (.slice (some ⟨g', 0, none⟩) (l.length + 1) cap') (l ++ [c]).length (bc (l ++ [c])) := by simpa using hown'
  have HD := Lib.hid (Bd.put hlt hle3 hb3 (.inr rfl) hown'')
  have HX3 := Lib.hid (hx3.setCell 1 none (.slice (some ⟨g', 0, none⟩) (l.length + 1) cap'))
  clear hb3 hown' hown'' hx3 hgrow hown hb
  go_wp2
  go_ret
  exact ⟨rfl, HD.out, HX3.out⟩
set_option maxRecDepth 100000 in
set_option maxHeartbeats 2000000 in
/-- Write, of bytes that the caller laid. -/
theorem write_any (b B S : Nat) (l m : List UInt8) (w : World) (h : Bd b B w l) (hl : l.length + m.length ≤ 1099511627776) (hS : w.heap[S]? = some (.cells (bc m).toArray 5 (0, 0))) (hSb : S ≠ b) :
    Calls Tryz.prog 202 #[.pointer (some ⟨b, 0, none⟩), .slice (some ⟨S, 0, none⟩) m.length m.length] w fun e w' => e = .returned (.tuple #[.int .i64 (m.length : Int), .nilIface]) ∧ Bd b B w' (l ++ m) ∧ Ex b B w w' := by
  obtain ⟨i0, hi0, hz0, hz1, hz2⟩ := info_parts info5
  have hlt := h.lt
  have hle := h.le
  go_enter Tryz.func202, Tryz.ntmps202
  go_wp2_with fail
  refine (copyCheck_any b B l w h).mono ?_
  rintro e w1 ⟨rfl, ⟨v, hb, hown⟩, hx, hk⟩
  have hsz := hx.size
  have c1 : w1.cell? ⟨b, 1, none⟩ = some v := by simp [World.cell?, hb]
  have hS1 : w1.heap[S]? = some (.cells (bc m).toArray 5 (0, 0)) := (hk S hSb).trans hS
  have hn : ∀ (j : Nat) (u : Value), (bc m)[j]? = some u → w1.cell? ((⟨S, 0, none⟩ : Addr).add j) = some u := by
    intro j u hj
    have ha : (⟨S, 0, none⟩ : Addr).add j = ⟨S, 0 + j, none⟩ := by unfold Addr.add; split <;> simp_all
    rw [ha, Nat.zero_add]
    simp only [World.cell?, hS1, List.getElem?_toArray]
    exact hj
  have h1 : ∀ u ∈ bc m, u.oneCell' = true := by
    intro u hu
    simp only [bc, List.mem_map] at hu
    obtain ⟨c, _, rfl⟩ := hu
    rfl
  have q1 : l.length + m.length ≤ maxLen := by unfold maxLen; omega
  have q2 : (l.length + m.length) * 1 ≤ 140737488355328 := by omega
  have q3 : B ≤ w1.heap.size := by omega
  have HX := Lib.hid hx; clear hx
  go_wp2_with (at_builtin; refine wpList_append_own _ rfl _ _ 126 rfl B 5 i0 (.int .u8 0) 1 1 Tryz.underlying126 hi0 hz0 hz1 hz2 rfl (by decide) _ _ _ rfl hown ⟨S, 0, none⟩ m.length m.length (bc m) rfl (by simp [bc]) hn h1 q1 q2 q3 ?_)
  intro v' w3 hown' hgrow _
  have hne := own_ne hown hb (by decide)
  have hb3 : w3.heap[b]? = some (.cells #[.pointer (some ⟨b, 0, none⟩), v] 194 (0, 0)) := by
    rw [hgrow.block b (by omega) (fun e => hne e.symm)]; exact hb
  have hx3 : Ex b B w w3 := HX.out.grown hgrow q3 (own_from hown)
  have hle3 : B ≤ w3.heap.size := Nat.le_trans hle hx3.size
  have hf1 : w3.frozen? ⟨b, 1, none⟩ = false := by simp [World.frozen?, hb3]
  have hc1 : w3.cell? ⟨b, 1, none⟩ = some v := by simp [World.cell?, hb3]
  rw [show bc l ++ bc m = bc (l ++ m) from by simp [bc]] at hown'
  have hown'' : w3.ownsRow B 5 1 v' (l ++ m).length (bc (l ++ m)) := by simpa using hown'
  obtain ⟨A, c, rfl⟩ := own_slice hown''
  have HD := Lib.hid (Bd.put hlt hle3 hb3 (.inr rfl) hown'')
  have HX3 := Lib.hid (hx3.setCell 1 none (.slice A (l ++ m).length c))
  clear hb3 hown' hown'' hx3 hgrow hown hb hn hS1 hk
  go_wp2
  go_ret2
  have hd := HD.out
  have hx := HX3.out
  rw [List.length_append] at hd hx
  exact ⟨rfl, hd, hx⟩
end Go.Proofs.YtnllofjjffflkaaGreatDoor
