/- The law LatticeNext (Next of Next is Next; it is a time of activity; ahead of it there is none; it is of the same epoch, or begins one) as a statement on numbers alone; no conditions. -/
import Derived.Test.YtbjmoebajdhdoaaPAx7
import Derived.Test.YtbjmoebajdhdoaaLatB
set_option linter.unusedVariables false
set_option linter.unusedSimpArgs false
namespace Go.Proofs.Ytbjmoebajdhdoaa.Pure
open Go.RowKit Go.Proofs.Ytbjmoebajdhdoaa.PA Go.Proofs.YtbjmoebajdhdoaaW.PrintWords Go.Proofs.YtbjmoebajdhdoaaW.PrintLast Go.Proofs.YtbjmoebajdhdoaaW.PrintMore
theorem LatticeNext : omnibuslaw11_LatticeNext.Pure := by
  intro a0 a1 a2 h0 h1 h2
  have w0 := wf_i64 h0
  have w1 := wf_i64 h1
  have w2 := wf_i64 h2
  have r0 := pk_range a0 10000 (by omega)
  have r1 := pk_range a1 10000 (by omega)
  have r2 := pk_range a2 1099511627776 (by omega)
  unfold omnibuslaw11_LatticeNext.f
  rw [awake_eq, Option.bind_some, Lattice_eq _ _ w0 w1, Option.bind_some, pick_eq a2 _ w2 (by omega), Option.bind_some]
  generalize ea : 1 + pk a0 10000 = a
  generalize eg : 1 + pk a1 10000 = g
  have ha : 1 ≤ a ∧ a ≤ 10000 := by omega
  have hg : 1 ≤ g ∧ g ≤ 10000 := by omega
  rw [w64 (x := pk a2 1099511627776 - 549755813888) (by omega) (by omega)]
  generalize et : pk a2 1099511627776 - 549755813888 = t
  have ht : -549755813888 ≤ t ∧ t ≤ 549755813888 := by omega
  clear ea eg et r0 r1 r2 w0 w1 w2 h0 h1 h2
  dsimp only
  obtain ⟨q, s, e, hs0, hs1, hq, hs⟩ := split_of t (a + g) (by omega)
  have hep := epoch_of q s a g ha.1 hg.1 hs0 hs1
  rw [← e] at hep
  have hqb : -1099511627776 ≤ (q + 1) * (a + g) ∧ (q + 1) * (a + g) ≤ 1099511627776 := by rw [Int.add_mul]; omega
  have hqq : -549755833888 ≤ q ∧ q ≤ 549755833888 := by
    constructor
    · by_cases hn : q ≤ -1
      · have h6 : q * (a + g) ≤ q * 1 := Int.mul_le_mul_of_nonpos_left (by omega) (by omega)
        omega
      · omega
    · by_cases hn : 0 ≤ q
      · have h6 : q * 1 ≤ q * (a + g) := Int.mul_le_mul_of_nonneg_left (by omega) hn
        omega
      · omega
  rw [Next_ok ha hg (t := t) (by omega), Option.bind_some]
  rcases next_cases a (a + g) t ha.1 (by omega) with ⟨hc, hn⟩ | ⟨hc, hn, hn2⟩
  · rw [hn]
    dsimp only
    rw [Next_ok ha hg (t := t) (by omega), Option.bind_some, Epoch_ok ha hg (t := t) (by omega), Option.bind_some, Option.bind_some, hn]
    dsimp only
    have hb1 : -1099511627776 ≤ (t + g / 2) / (a + g) ∧ (t + g / 2) / (a + g) ≤ 1099511627776 := by rw [hep]; split <;> omega
    have hb2 : -1099511627776 ≤ (t + g / 2) / (a + g) * (a + g) ∧ (t + g / 2) / (a + g) * (a + g) ≤ 1099511627776 := by
      have x1 := Int.mul_ediv_add_emod (t + g / 2) (a + g)
      have x2 := Int.emod_nonneg (t + g / 2) (show a + g ≠ 0 by omega)
      have x3 := Int.emod_lt_of_pos (t + g / 2) (show 0 < a + g by omega)
      rw [Int.mul_comm] at x1
      omega
    rw [Begin_ok ha hg hb1 hb2, Option.bind_some]
    simp only [if_true]
    rw [if_neg (by omega), Active_ok ha hg (t := t) (by omega), Option.bind_some, if_pos (decide_eq_true hc)]
  · have hne : (nextZ a (a + g) t) % (a + g) = 0 ∧ (nextZ a (a + g) t + g / 2) / (a + g) = q + 1 := by
      rw [hn, hq]
      have y1 := parts_of (q + 1) 0 (a + g) (by omega) (by omega)
      have y2 := parts_of (q + 1) (g / 2) (a + g) (by omega) (by omega)
      rw [Int.add_zero] at y1
      exact ⟨y1.2, y2.1⟩
    have hnn : nextZ a (a + g) (nextZ a (a + g) t) = nextZ a (a + g) t := by
      unfold nextZ at hne ⊢
      rw [if_neg (by omega)]
    have hb : nextZ a (a + g) t = (q + 1) * (a + g) := by rw [hn, hq]
    generalize hnv : nextZ a (a + g) t = n at *
    dsimp only
    rw [Next_ok ha hg (t := n) (by omega), Option.bind_some, Epoch_ok ha hg (t := t) (by omega), Option.bind_some, Epoch_ok ha hg (t := n) (by omega), Option.bind_some, hnn, hne.2]
    dsimp only
    rw [Begin_ok ha hg (e := q + 1) (by omega) hqb, Option.bind_some]
    simp only [if_true]
    rw [if_neg (by omega), Active_ok ha hg (t := n) (by omega), Option.bind_some, if_pos (decide_eq_true (by omega)), if_neg (by omega), if_pos hb, Active_ok ha hg (t := t) (by omega), Option.bind_some]
    rw [if_neg (by simp; omega), w64 (by omega) (by omega), hep]
    split
    · rw [if_pos (by omega)]
      simp
      try omega
    · rw [if_pos (by omega)]
      simp
      try omega
end Go.Proofs.Ytbjmoebajdhdoaa.Pure
