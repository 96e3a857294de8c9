import Derived.Test.YtbjmoebajdhdoaaPAx5
import Derived.Test.YtbjmoebajdhdoaaLatB
set_option linter.unusedVariables false
set_option linter.unusedSimpArgs false
namespace Go.Proofs.Ytbjmoebajdhdoaa.Pure
open Go.RowKit Go.Proofs.Ytbjmoebajdhdoaa Go.Proofs.Ytbjmoebajdhdoaa.PA Go.Proofs.YtbjmoebajdhdoaaW.PrintWords Go.Proofs.YtbjmoebajdhdoaaW.PrintLast

/-- How many of the first i ticks from a remainder r on are active. -/
def cf (A G r i : Int) : Int :=
  if r < A then (if i ≤ A - r then i else if r + i ≤ G then A - r else A + (r + i - G) - r) else (if r + i ≤ G then 0 else if r + i - G ≤ A then r + i - G else A)

theorem rem_of (A G t q r i : Int) (hA : 1 ≤ A) (hG : A < G) (h0 : 0 ≤ r) (h1 : r < G) (hi0 : 0 ≤ i) (hi : i < G) (ht : t = q * G + r) :
    (t + i) % G = if r + i < G then r + i else r + i - G := by
  subst ht
  by_cases h : r + i < G
  · rw [if_pos h, Int.add_assoc]
    exact (parts_of q (r + i) G (by omega) h).2
  · rw [if_neg h]
    have e : q * G + r + i = (q + 1) * G + (r + i - G) := by rw [Int.add_mul q 1]; omega
    rw [e]
    exact (parts_of (q + 1) (r + i - G) G (by omega) (by omega)).2

theorem loop (A B : Int) (hA : 1 ≤ A ∧ A ≤ 20) (hB : 1 ≤ B ∧ B ≤ 20) (t q r n : Int) (ht : t = q * (A + B) + r) (ht0 : 0 ≤ t) (ht1 : t < 549755813888)
    (h0 : 0 ≤ r) (h1 : r < A + B) (hn : n = if r < A then t else t + (A + B - r)) :
    ∀ (m : Nat) (i : Int), 0 ≤ i → i ≤ A + B → i + m = A + B → omnibuslaw11_LatticeTurns.l0 (2 * m + 1) true (A + B) t n (cf A (A + B) r i) i A B = some true
  | 0, i, hi0, hi1, hm => by
    have hi : i = A + B := by omega
    subst hi
    show omnibuslaw11_LatticeTurns.l0 (0 + 1) _ _ _ _ _ _ _ _ = _
    rw [omnibuslaw11_LatticeTurns.l0, if_neg (by omega), if_pos rfl]
    have : cf A (A + B) r (A + B) = A := by unfold cf; split <;> split <;> (try split) <;> omega
    rw [this]
    simp
  | m + 1, i, hi0, hi1, hm => by
    have hb : -1099511627776 ≤ t + i ∧ t + i ≤ 1099511627776 := by omega
    have hb2 : -1099511627776 ≤ t + i + (A + B) ∧ t + i + (A + B) ≤ 1099511627776 := by omega
    have hA' : 1 ≤ A ∧ A ≤ 10000 := by omega
    have hB' : 1 ≤ B ∧ B ≤ 10000 := by omega
    have w1 : wrap64 (t + i) = t + i := w64 (by omega) (by omega)
    have w2 : wrap64 (t + i + (A + B)) = t + i + (A + B) := w64 (by omega) (by omega)
    have w3 : wrap64 (i + 1) = i + 1 := w64 (by omega) (by omega)
    have a1 := Active_ok hA' hB' hb
    have a2 := Active_ok hA' hB' hb2
    have e2 : (t + i + (A + B)) % (A + B) = (t + i) % (A + B) := by rw [Int.add_emod_right]
    rw [e2] at a2
    have er := rem_of A (A + B) t q r i hA.1 (by omega) h0 h1 hi0 (by omega) ht
    have ih := loop A B hA hB t q r n ht ht0 ht1 h0 h1 hn m (i + 1) (by omega) (by omega) (by omega)
    -- the next count
    have hcf : cf A (A + B) r (i + 1) = if (t + i) % (A + B) < A then cf A (A + B) r i + 1 else cf A (A + B) r i := by
      rw [er]; unfold cf
      by_cases c1 : r < A
      · simp only [if_pos c1]
        by_cases c2 : r + i < A + B
        · simp only [if_pos c2]
          by_cases c3 : r + i < A
          · rw [if_pos (by omega), if_pos c3, if_pos (by omega)]
          · rw [if_neg (by omega), if_pos (by omega), if_neg c3]; split <;> omega
        · simp only [if_neg c2]
          rw [if_neg (by omega), if_neg (by omega), if_pos (by omega)]; split <;> (try split) <;> omega
      · simp only [if_neg c1]
        by_cases c2 : r + i < A + B
        · simp only [if_pos c2]
          rw [if_pos (by omega), if_neg (by omega), if_pos (by omega)]
        · simp only [if_neg c2]
          by_cases c3 : r + i - (A + B) < A
          · rw [if_neg (by omega), if_pos (by omega), if_pos c3]; split <;> (try split) <;> omega
          · rw [if_neg (by omega), if_neg (by omega), if_neg c3]; split <;> (try split) <;> omega
    have hwc : wrap64 (cf A (A + B) r i + 1) = cf A (A + B) r i + 1 := w64 (by unfold cf; split <;> split <;> (try split) <;> omega) (by unfold cf; split <;> split <;> (try split) <;> omega)
    -- before Next no tick is active
    have hbef : t + i < n → ¬ (t + i) % (A + B) < A := by
      intro hlt
      rw [er]
      by_cases c1 : r < A
      · rw [if_pos c1] at hn; omega
      · rw [if_neg c1] at hn; rw [if_pos (by omega)]; omega
    have step : ∀ c, c = cf A (A + B) r (i + 1) → omnibuslaw11_LatticeTurns.j2 (2 * m + 1 + 1) true (A + B) t n c i A B = some true := by
      intro c hc
      subst hc
      rw [omnibuslaw11_LatticeTurns.j2, w1, w2, w3, a1, a2]
      by_cases hlt : t + i < n
      · rw [if_pos hlt, Option.bind_some, if_neg (by simpa using hbef hlt), Option.bind_some, Option.bind_some, if_neg (by simp)]
        exact ih
      · rw [if_neg hlt, Option.bind_some, Option.bind_some, if_neg (by simp)]
        exact ih
    show omnibuslaw11_LatticeTurns.l0 (2 * m + 1 + 1 + 1) _ _ _ _ _ _ _ _ = _
    rw [omnibuslaw11_LatticeTurns.l0, if_pos (by omega), w1, a1, Option.bind_some]
    by_cases hact : (t + i) % (A + B) < A
    · rw [if_pos (by simpa using hact), hwc]
      rw [if_pos hact] at hcf
      exact step _ hcf.symm
    · rw [if_neg (by simpa using hact)]
      rw [if_neg hact] at hcf
      exact step _ hcf.symm

/-- YOURS -/
theorem LatticeTurns : omnibuslaw11_LatticeTurns.Pure := by
  intro a0 a1 a2 w0 w1 w2
  have b0 := wf_i64 w0
  have b1 := wf_i64 w1
  have b2 := wf_i64 w2
  have r0 := pk_range a0 20 (by omega)
  have r1 := pk_range a1 20 (by omega)
  have r2 := pk_range a2 549755813888 (by omega)
  have hL := Lattice_eq (pk a0 20) (pk a1 20) (by omega) (by omega)
  have e0 : pk (pk a0 20) 10000 = pk a0 20 := by
    rw [pk, if_neg (by omega)]; exact Int.emod_eq_of_lt (by omega) (by omega)
  have e1 : pk (pk a1 20) 10000 = pk a1 20 := by
    rw [pk, if_neg (by omega)]; exact Int.emod_eq_of_lt (by omega) (by omega)
  rw [e0, e1] at hL
  generalize hA : 1 + pk a0 20 = A at hL
  generalize hB : 1 + pk a1 20 = B at hL
  generalize ht : pk a2 549755813888 = t at r2
  have hAr : 1 ≤ A ∧ A ≤ 20 := by omega
  have hBr : 1 ≤ B ∧ B ≤ 20 := by omega
  have hA' : 1 ≤ A ∧ A ≤ 10000 := by omega
  have hB' : 1 ≤ B ∧ B ≤ 10000 := by omega
  obtain ⟨q, r, hq, h0, h1, hd, hr⟩ := split_of t (A + B) (by omega)
  have wg : wrap64 (A + B) = A + B := w64 (by omega) (by omega)
  have wt : wrap64 (t + (A + B)) = t + (A + B) := w64 (by omega) (by omega)
  have E1 := Epoch_ok hA' hB' (t := t) (by omega)
  have E2 := Epoch_ok hA' hB' (t := t + (A + B)) (by omega)
  have N := Next_ok hA' hB' (t := t) (by omega)
  have hep : (t + (A + B) + B / 2) / (A + B) = (t + B / 2) / (A + B) + 1 := by
    rw [show t + (A + B) + B / 2 = t + B / 2 + 1 * (A + B) by omega, Int.add_mul_ediv_right _ _ (by omega)]
  have hq0 : 0 ≤ (t + B / 2) / (A + B) := Int.ediv_nonneg (by omega) (by omega)
  have hq1 : (t + B / 2) / (A + B) ≤ t + B / 2 := Int.ediv_le_self _ (by omega)
  have wq : wrap64 ((t + B / 2) / (A + B) + 1) = (t + B / 2) / (A + B) + 1 := w64 (by omega) (by omega)
  generalize hn : nextZ A (A + B) t = n at N
  have hnn : n = if r < A then t else t + (A + B - r) := by
    rcases next_cases A (A + B) t (by omega) (by omega) with ⟨c, e⟩ | ⟨c, e, e'⟩
    · rw [if_pos (by omega)]; omega
    · rw [if_neg (by omega)]; omega
  have hnr : n % (A + B) < A := by
    rcases next_cases A (A + B) t (by omega) (by omega) with ⟨c, e⟩ | ⟨c, e, e'⟩
    · rw [← hn, e]; exact c
    · rw [← hn, e]
      rw [Int.mul_emod_left]; omega
  have hnb : t ≤ n ∧ n ≤ t + B := by
    rw [hnn]; split <;> omega
  have Ac := Active_ok hA' hB' (t := n) (by omega)
  have wn : wrap64 (n - t) = n - t := w64 (by omega) (by omega)
  have hl := loop A B hAr hBr t q r n hq (by omega) (by omega) h0 h1 hnn (A + B).toNat 0 (by omega) (by omega) (by omega)
  have hc0 : cf A (A + B) r 0 = 0 := by unfold cf; split <;> split <;> (try split) <;> omega
  rw [hc0] at hl
  refine ⟨2 * (A + B).toNat + 1 + 1, ?_⟩
  unfold omnibuslaw11_LatticeTurns.f
  rw [awake_eq, Option.bind_some, pick_eq a0 20 b0 (by omega), Option.bind_some, pick_eq a1 20 b1 (by omega), Option.bind_some, hL, Option.bind_some, pick_eq a2 _ b2 (by omega), Option.bind_some, ht]
  dsimp only
  rw [wg, wt, E1, Option.bind_some, E2, Option.bind_some, N, Option.bind_some]
  dsimp only
  rw [if_pos rfl, if_pos rfl, if_pos rfl, wq, if_pos hep, if_neg (by omega), wn, if_neg (by omega), Ac, Option.bind_some, omnibuslaw11_LatticeTurns.j0]
  rw [if_neg (by simpa using hnr)]
  exact hl

end Go.Proofs.Ytbjmoebajdhdoaa.Pure
