/- The law LatticeRises (later times have no lesser epochs; each epoch begins in its own activity) as a statement on numbers alone; no conditions. -/
import Derived.Test.YtbjmoebajdhdoaaPAx6
import Derived.Test.YtbjmoebajdhdoaaLatB
set_option linter.unusedVariables false
set_option linter.unusedSimpArgs false
namespace Go.Proofs.Ytbjmoebajdhdoaa.Pure
open Go.RowKit Go.Proofs.Ytbjmoebajdhdoaa.PA Go.Proofs.YtbjmoebajdhdoaaW.PrintWords Go.Proofs.YtbjmoebajdhdoaaW.PrintLast Go.Proofs.YtbjmoebajdhdoaaW.PrintMore
theorem LatticeRises : omnibuslaw11_LatticeRises.Pure := by
  intro a0 a1 a2 a3 a4 h0 h1 h2 h3 h4
  have w0 := wf_i64 h0
  have w1 := wf_i64 h1
  have w2 := wf_i64 h2
  have w3 := wf_i64 h3
  have w4 := wf_i64 h4
  have r0 := pk_range a0 10000 (by omega)
  have r1 := pk_range a1 10000 (by omega)
  have r2 := pk_range a2 1099511627776 (by omega)
  have r3 := pk_range a3 1099511627776 (by omega)
  have r4 := pk_range a4 1048576 (by omega)
  unfold omnibuslaw11_LatticeRises.f
  rw [awake_eq, Option.bind_some, Lattice_eq _ _ w0 w1, Option.bind_some, pick_eq a2 _ w2 (by omega), Option.bind_some, pick_eq a3 _ w3 (by omega), Option.bind_some]
  rw [w64 (x := pk a2 1099511627776 - 549755813888) (by omega) (by omega), w64 (x := pk a3 1099511627776 - 549755813888) (by omega) (by omega)]
  generalize ea : 1 + pk a0 10000 = a
  generalize eg : 1 + pk a1 10000 = g
  generalize et : pk a2 1099511627776 - 549755813888 = t
  generalize eu : pk a3 1099511627776 - 549755813888 = u
  have ha : 1 ≤ a ∧ a ≤ 10000 := by omega
  have hg : 1 ≤ g ∧ g ≤ 10000 := by omega
  have ht : -549755813888 ≤ t ∧ t ≤ 549755813888 := by omega
  have hu : -549755813888 ≤ u ∧ u ≤ 549755813888 := by omega
  clear ea eg et eu r0 r1 r2 r3 w0 w1 w2 w3 h0 h1 h2 h3 h4
  dsimp only
  have hmn : mn t u = if u < t then u else t := rfl
  have hmx : mx t u = if t < u then u else t := rfl
  have hmnb : -1099511627776 ≤ mn t u ∧ mn t u ≤ 1099511627776 := by rw [hmn]; split <;> omega
  have hmxb : -1099511627776 ≤ mx t u ∧ mx t u ≤ 1099511627776 := by rw [hmx]; split <;> omega
  rw [Epoch_ok ha hg hmnb, Option.bind_some, Epoch_ok ha hg hmxb, Option.bind_some, Order_ok ha hg (t := t) (u := u) (by omega) (by omega), Option.bind_some, Order_ok ha hg (t := u) (u := t) (by omega) (by omega), Option.bind_some, pick_eq a4 _ w4 (by omega), Option.bind_some, w64 (x := pk a4 1048576 - 524288) (by omega) (by omega)]
  generalize ek : pk a4 1048576 - 524288 = k
  have hk : -524288 ≤ k ∧ k ≤ 524288 := by omega
  have hkg : -10485760000 ≤ k * (a + g) ∧ k * (a + g) ≤ 10485760000 := by
    constructor
    · have h6 : -524288 * (a + g) ≤ k * (a + g) := Int.mul_le_mul_of_nonneg_right (by omega) (by omega)
      omega
    · have h6 : k * (a + g) ≤ 524288 * (a + g) := Int.mul_le_mul_of_nonneg_right (by omega) (by omega)
      omega
  rw [Begin_ok ha hg (e := k) (by omega) (by omega), Option.bind_some]
  dsimp only
  rw [Epoch_ok ha hg (t := k * (a + g)) (by omega), Option.bind_some]
  dsimp only
  have hz : (k * (a + g) + g / 2) / (a + g) = k := (parts_of k (g / 2) (a + g) (by omega) (by omega)).1
  have hm0 : (k * (a + g)) % (a + g) = 0 := by have := (parts_of k 0 (a + g) (by omega) (by omega)).2; rwa [Int.add_zero] at this
  have hm1 : (k * (a + g) - 1) % (a + g) = a + g - 1 := by
    have := (parts_of (k - 1) (a + g - 1) (a + g) (by omega) (by omega)).2
    rwa [show (k - 1) * (a + g) + (a + g - 1) = k * (a + g) - 1 by rw [Int.sub_mul]; omega] at this
  have hlast : ((lattice_Active.f a g (k * (a + g))).bind fun t214 => (if t214 = true then ((lattice_Active.f a g (wrap64 (k * (a + g) - 1))).bind fun t215 => (some (!t215))) else (some false))) = some true := by
    rw [Active_ok ha hg (t := k * (a + g)) (by omega), Option.bind_some, if_pos (decide_eq_true (by omega)), w64 (by omega) (by omega), Active_ok ha hg (t := k * (a + g) - 1) (by omega), Option.bind_some, hm1, decide_eq_false (by omega)]
    rfl
  rw [hz]
  have hle : ∀ x y : Int, x ≤ y → (x + g / 2) / (a + g) ≤ (y + g / 2) / (a + g) := fun x y h => Int.ediv_le_ediv (by omega) (by omega)
  have h1 := hle (mn t u) (mx t u) (by rw [hmn, hmx]; split <;> split <;> omega)
  have htu : (u < t ∧ mn t u = u ∧ mx t u = t) ∨ (t ≤ u ∧ mn t u = t ∧ mx t u = u) := by
    rw [hmn, hmx]
    by_cases h : u < t
    · rw [if_pos h, if_neg (by omega)]
      exact .inl ⟨h, rfl, rfl⟩
    · rw [if_neg h]
      refine .inr ⟨by omega, rfl, ?_⟩
      split <;> omega
  simp only [if_true]
  rw [if_pos h1]
  generalize hX : (t + g / 2) / (a + g) = X at *
  generalize hY : (u + g / 2) / (a + g) = Y at *
  have hcm : cmpZ X Y = -cmpZ Y X ∧ -1 ≤ cmpZ Y X ∧ cmpZ Y X ≤ 1 ∧ (cmpZ X Y = 0 ↔ X = Y) ∧ (X ≤ Y → cmpZ X Y ≤ 0) := by
    unfold cmpZ
    by_cases c1 : X = Y
    · rw [if_pos c1, if_pos c1.symm]
      omega
    · by_cases c2 : X < Y
      · rw [if_neg c1, if_pos c2, if_neg (Ne.symm c1), if_neg (by omega)]
        omega
      · rw [if_neg c1, if_neg c2, if_neg (Ne.symm c1), if_pos (by omega)]
        omega
  obtain ⟨c1, c2, c3, c4, c5⟩ := hcm
  rw [w64 (x := -cmpZ Y X) (by omega) (by omega), if_pos c1]
  have b1 : ((cmpZ X Y == 0) == (Y == X)) = true := by
    by_cases c : X = Y
    · rw [c4.2 c, c]
      simp
    · have d : ¬ cmpZ X Y = 0 := fun e => c (c4.1 e)
      rw [beq_eq_false_iff_ne.mpr d, beq_eq_false_iff_ne.mpr (Ne.symm c)]
      rfl
  have b2 : ((cmpZ X Y == 0) == (X == Y)) = true := by
    by_cases c : X = Y
    · rw [c4.2 c, c]
      simp
    · have d : ¬ cmpZ X Y = 0 := fun e => c (c4.1 e)
      rw [beq_eq_false_iff_ne.mpr d, beq_eq_false_iff_ne.mpr c]
      rfl
  rcases htu with ⟨h, e1, e2⟩ | ⟨h, e1, e2⟩
  · rw [e1, e2, hX, hY]
    rw [if_pos b1, if_pos (by omega)]
    exact hlast
  · rw [e1, e2, hX, hY]
    have hxy : X ≤ Y := by rw [← hX, ← hY]; exact hle t u h
    rw [if_pos b2, if_neg (by omega), if_pos (c5 hxy)]
    exact hlast
end Go.Proofs.Ytbjmoebajdhdoaa.Pure
