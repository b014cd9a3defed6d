/- Plain law: records of types that rise are read as they were put down; turned round they are refused. No program in sight. -/
import Derived.Test.YtnllofjjffflkaaGreatDoorB2
import Derived.Test.YtnllofjjffflkaaGreatDoorKG
set_option linter.unusedSimpArgs false
set_option linter.unusedVariables false
namespace Gp
theorem typesL_short : ∀ (n : Nat) (l : List Nat), l.length ≤ n → Rising l → (typesL l).length ≤ 34 * l.length
  | 0, l, hn, _ => by
    obtain rfl : l = [] := List.eq_nil_of_length_eq_zero (by omega)
    rw [typesL_nil]; simp
  | n + 1, [], _, _ => by rw [typesL_nil]; simp
  | n + 1, x :: r, hn, hR => by
    have hp := hR.2
    have h0 : ∀ t ∈ x :: r, x / 256 ≤ t / 256 := by
      intro t ht
      rw [List.pairwise_cons] at hp
      rcases List.mem_cons.1 ht with rfl | h
      · exact Nat.le_refl _
      · have := hp.1 t h; omega
    have hs := split_win (x :: r) (x / 256) hp h0
    have hne : win (x / 256) (x :: r) ≠ [] := by simp [win]
    have hwa : ∀ t ∈ win (x / 256) (x :: r), t / 256 = x / 256 := by
      intro t ht
      have := (List.mem_filter.1 ht).2
      simpa using this
    have hwl : ∀ t ∈ (x :: r).filter (fun t => decide (x / 256 < t / 256)), x / 256 < t / 256 := by
      intro t ht
      have := (List.mem_filter.1 ht).2
      simpa using this
    have hx := hR.1 x (by simp)
    have ht := typesL_ahead _ _ (x / 256) (by omega) hwa hwl hne
    rw [← hs] at ht
    have hlen := blkOf_length (x / 256) (win (x / 256) (x :: r))
    have hla := lastAt_lt (win (x / 256) (x :: r))
    have hll := congrArg List.length hs
    rw [List.length_append] at hll
    have hw1 : 0 < (win (x / 256) (x :: r)).length := List.length_pos_iff.2 hne
    have hcons : (x :: r).length = r.length + 1 := rfl
    have ih := typesL_short n ((x :: r).filter (fun t => decide (x / 256 < t / 256))) (by omega) ⟨fun t h => hR.1 t (List.mem_filter.1 h).1, hp.filter _⟩
    rw [ht, List.length_append]
    omega
theorem rise_types {R : List Nat} (hR : Rising R) : takeTypes (toB (typesL R)).size (-1) (toB (typesL R)) = some R :=
  types_on _ _ _ (by rw [toB_size]; exact Nat.le_refl _) hR.2 (fun t ht => ⟨by omega, hR.1 t ht⟩)
theorem rise_fine {R : List Nat} (hR : Rising R) : typesBad (intsOf R) = false := types_fine hR.1 hR.2
theorem rise_S {R : List Nat} (hR : Rising R) : typesS (intsOf R) = typesL R := by
  unfold typesS; rw [rise_fine hR, natsOf_intsOf]; rfl
def nsecOf (R : List Nat) : Nsec := ⟨toB [0], intsOf R⟩
def nsec3Of (R : List Nat) : Nsec3 := ⟨1, 0, 0, ⟨#[]⟩, toB [110], intsOf R⟩
theorem nsecL_of {R : List Nat} (hR : Rising R) : nsecL (nsecOf R) = 0 :: typesL R ∧ nsecBad (nsecOf R) = false := by
  constructor
  · show (toB [0]).data.toList ++ typesS (intsOf R) = _
    rw [rise_S hR]; rfl
  · show (!rightB (toB [0]) || typesBad (intsOf R)) = false
    rw [rise_fine hR, show rightB (toB [0]) = true by decide]; rfl
theorem nsec3L_of {R : List Nat} (hR : Rising R) : nsec3L (nsec3Of R) = be 1 1 ++ (be 0 1 ++ (be 0 2 ++ (be 0 1 ++ ([] ++ (be 1 1 ++ ([110] ++ typesL R)))))) ∧ nsec3Bad (nsec3Of R) = false := by
  constructor
  · show be 1 1 ++ be 0 1 ++ be 0 2 ++ be 0 1 ++ [] ++ be 1 1 ++ [110] ++ typesS (intsOf R) = _
    rw [rise_S hR]; simp only [List.append_assoc]
  · show (badNum 1 1 || badNum 0 1 || badNum 0 2 || badNum 0 1 || badNum 1 1 || decide ((1 : Int) < 1) || typesBad (intsOf R)) = false
    rw [rise_fine hR]; decide
theorem nsec_done {R : List Nat} (hR : Rising R) (h : R.length ≤ 40) : doneV (nsecL (nsecOf R)) (nsecBad (nsecOf R)) = (toB (0 :: typesL R), 0) := by
  obtain ⟨h1, h2⟩ := nsecL_of hR
  have h3 := typesL_short _ R (Nat.le_refl _) hR
  rw [h1, h2, doneV, if_neg]
  · rfl
  · rw [List.length_cons]; intro h; rcases h with h | h
    · cases h
    · omega
theorem nsec3_done {R : List Nat} (hR : Rising R) (h : R.length ≤ 40) : doneV (nsec3L (nsec3Of R)) (nsec3Bad (nsec3Of R)) = (toB (nsec3L (nsec3Of R)), 0) := by
  obtain ⟨h1, h2⟩ := nsec3L_of hR
  have h3 := typesL_short _ R (Nat.le_refl _) hR
  rw [h2, doneV, if_neg]
  · rfl
  · intro h; rcases h with h | h
    · cases h
    · rw [h1] at h; simp only [List.length_append, be_length, List.length_nil, List.length_cons] at h; omega
theorem nsec_same {R : List Nat} (hR : Rising R) (h : R.length ≤ 40) : takeNsec (toB (0 :: typesL R)) = some (nsecOf R, ⟨#[]⟩) := by
  unfold takeNsec
  rw [name_on]
  show (takeTypes (toB (typesL R)).size (-1) (toB (typesL R))).bind (fun l => some ((⟨toB [0], intsOf l⟩ : Nsec), (⟨#[]⟩ : ByteArray))) = _
  rw [rise_types hR]; rfl
theorem short_on (v : Nat) (d X : List UInt8) (hv : v < 256) (hd : d.length = v) : takeShort (toB (be (v : Int) 1 ++ (d ++ X))) = some (toB d, toB X) := by
  unfold takeShort
  rw [num_on 1 v _ (by omega)]
  exact bytes_on d X hd
theorem nsec3_same {R : List Nat} (hR : Rising R) (h : R.length ≤ 40) : takeNsec3 (toB (nsec3L (nsec3Of R))) = some (nsec3Of R, ⟨#[]⟩) := by
  rw [(nsec3L_of hR).1]
  unfold takeNsec3
  rw [show be 1 1 = be ((1 : Nat) : Int) 1 from rfl, num_on 1 1 _ (by decide)]
  simp only [Option.bind_eq_bind, Option.bind_some]
  rw [show be 0 1 = be ((0 : Nat) : Int) 1 from rfl, num_on 1 0 _ (by decide)]
  simp only [Option.bind_eq_bind, Option.bind_some]
  rw [show be 0 2 = be ((0 : Nat) : Int) 2 from rfl, num_on 2 0 _ (by decide)]
  simp only [Option.bind_eq_bind, Option.bind_some]
  rw [short_on 0 [] _ (by decide) rfl]
  simp only [Option.bind_eq_bind, Option.bind_some]
  rw [short_on 1 [110] _ (by decide) rfl]
  simp only [Option.bind_eq_bind, Option.bind_some]
  rw [if_neg (by rw [toB_size]; simp), rise_types hR]
  rfl
theorem rise_nsec {R : List Nat} (hR : Rising R) (h : R.length ≤ 40) : wholeOf (toB (0 :: typesL R)) (takeNsec (toB (0 :: typesL R))) = some (nsecOf R) := by
  have h3 := typesL_short _ R (Nat.le_refl _) hR
  rw [nsec_same hR h]
  unfold wholeOf
  rw [if_pos (by rw [toB_size, List.length_cons]; omega)]
  rfl
theorem rise_nsec3 {R : List Nat} (hR : Rising R) (h : R.length ≤ 40) : wholeOf (toB (nsec3L (nsec3Of R))) (takeNsec3 (toB (nsec3L (nsec3Of R)))) = some (nsec3Of R) := by
  have h3 := typesL_short _ R (Nat.le_refl _) hR
  rw [nsec3_same hR h]
  unfold wholeOf
  rw [if_pos (by rw [toB_size, (nsec3L_of hR).1]; simp only [List.length_append, be_length, List.length_nil, List.length_cons]; omega)]
  rfl
/-- Turned round. -/
theorem back_bad {R : List Nat} (hR : Rising R) (h : 2 ≤ R.length) : nsecBad ⟨toB [0], (intsOf R).reverse⟩ = true := by
  have hl : (intsOf R).length = R.length := by simp [intsOf]
  have hb : tyBad (intsOf R).reverse 1 = true := by
    have e : ∀ i (hi : i < R.length), iAt (intsOf R).reverse i = (R[R.length - 1 - i]'(by omega) : Int) := by
      intro i hi
      have hi' : i < (intsOf R).length := by omega
      rw [← iAt_intsOf R _ (by omega), iAt, iAt, List.getD_eq_getElem?_getD, List.getD_eq_getElem?_getD, List.getElem?_reverse hi', hl]
    have hlt := List.pairwise_iff_getElem.1 hR.2 (R.length - 1 - 1) (R.length - 1 - 0) (by omega) (by omega) (by omega)
    unfold tyBad
    rw [e 1 (by omega), e (1 - 1) (by omega)]
    rw [Bool.or_eq_true]; right
    rw [Bool.and_eq_true]
    refine ⟨by decide, ?_⟩
    rw [decide_eq_true_eq]
    have : R[R.length - 1 - 1] ≤ R[R.length - 1 - (1 - 1)] := Nat.le_of_lt hlt
    omega
  have ht : typesBad (intsOf R).reverse = true := tysBad_mono _ hb (by rw [List.length_reverse, hl]; omega)
  show (!rightB (toB [0]) || typesBad (intsOf R).reverse) = true
  rw [ht]; simp
theorem back_done {R : List Nat} (hR : Rising R) (h : 2 ≤ R.length) : doneV (nsecL ⟨toB [0], (intsOf R).reverse⟩) (nsecBad ⟨toB [0], (intsOf R).reverse⟩) = (⟨#[]⟩, 6) := by
  rw [back_bad hR h]; simp [doneV]
end Gp
namespace Go.Proofs.YtnllofjjffflkaaGreatDoor
open Go.RowKit Gp
theorem get_rise {R : List Nat} (hR : Rising R) (h : R.length ≤ 40) : getNsec (toB (0 :: typesL R)) = nsecOf R ∧ okNsec (toB (0 :: typesL R)) = true := by
  unfold getNsec okNsec
  rw [rise_nsec hR h]; exact ⟨rfl, rfl⟩
theorem get_rise3 {R : List Nat} (hR : Rising R) (h : R.length ≤ 40) : getNsec3 (toB (nsec3L (nsec3Of R))) = nsec3Of R ∧ okNsec3 (toB (nsec3L (nsec3Of R))) = true := by
  unfold getNsec3 okNsec3
  rw [rise_nsec3 hR h]; exact ⟨rfl, rfl⟩
end Go.Proofs.YtnllofjjffflkaaGreatDoor
