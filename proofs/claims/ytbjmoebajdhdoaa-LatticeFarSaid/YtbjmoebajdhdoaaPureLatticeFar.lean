/- The law LatticeFar (where two times are a granule and more apart their order is that of any two clocks that are near; in one activity it is none) as a statement on numbers alone; no conditions. -/
import Derived.Test.YtbjmoebajdhdoaaPBx6
import Derived.Test.YtbjmoebajdhdoaaLatC
set_option linter.unusedVariables false
set_option linter.unusedSimpArgs false
namespace Go.Proofs.Ytbjmoebajdhdoaa.Pure
open Go.RowKit Go.Proofs.Ytbjmoebajdhdoaa.C Go.Proofs.Ytbjmoebajdhdoaa.PB Go.Proofs.YtbjmoebajdhdoaaW.PrintWords Go.Proofs.YtbjmoebajdhdoaaW.PrintLast

theorem LatticeFar : omnibuslaw11_LatticeFar.Pure := by
  intro a0 a1 a2 a3 a4 a5 w0 w1 w2 w3 w4 w5
  have b0 := wf_i64 w0
  have b1 := wf_i64 w1
  have b2 := wf_i64 w2
  have b3 := wf_i64 w3
  have b4 := wf_i64 w4
  have b5 := wf_i64 w5
  have r0 := pk_range a0 10000 (by omega)
  have r1 := pk_range a1 10000 (by omega)
  have r2 := pk_range a2 274877906944 (by omega)
  have r3 := pk_range a3 274877906944 (by omega)
  have r3' := pk_range a3 1048576 (by omega)
  have hL := Lattice_eq a0 a1 b0 b1
  generalize hA : 1 + pk a0 10000 = A at hL
  generalize hB : 1 + pk a1 10000 = g at hL
  have hAr : 1 ≤ A ∧ A ≤ 10000 := by omega
  have hgr : 1 ≤ g ∧ g ≤ 10000 := by omega
  have hdiv : Int.tdiv g 2 = g / 2 := Int.tdiv_eq_ediv_of_nonneg (by omega)
  have hmod : wrap64 (wrap64 (2 * wrap64 (g / 2)) + 1) = 2 * (g / 2) + 1 := by
    rw [w64 (x := g / 2) (by omega) (by omega), w64 (x := 2 * (g / 2)) (by omega) (by omega), w64 (by omega) (by omega)]
  have r4 := pk_range a4 (2 * (g / 2) + 1) (by omega)
  have r5 := pk_range a5 (2 * (g / 2) + 1) (by omega)
  generalize ht : pk a2 274877906944 = t at r2
  generalize hu : pk a3 274877906944 = u at r3
  generalize he : pk a3 1048576 = e at r3'
  generalize hx : pk a4 (2 * (g / 2) + 1) = x at r4
  generalize hy : pk a5 (2 * (g / 2) + 1) = y at r5
  have hGpos : 0 < A + g := by omega
  have T0 : wrap64 (wrap64 (t + x) - wrap64 (g / 2)) = t + x - g / 2 := by
    rw [w64 (x := t + x) (by omega) (by omega), w64 (x := g / 2) (by omega) (by omega), w64 (by omega) (by omega)]
  have T1 : wrap64 (wrap64 (wrap64 (wrap64 (wrap64 (t + wrap64 (A + g)) + g) + u) + y) - wrap64 (g / 2)) = t + (A + g) + g + u + y - g / 2 := by
    rw [w64 (x := A + g) (by omega) (by omega), w64 (x := t + (A + g)) (by omega) (by omega), w64 (x := t + (A + g) + g) (by omega) (by omega), w64 (x := t + (A + g) + g + u) (by omega) (by omega), w64 (x := t + (A + g) + g + u + y) (by omega) (by omega), w64 (x := g / 2) (by omega) (by omega), w64 (by omega) (by omega)]
  have heG : 0 ≤ e * (A + g) ∧ e * (A + g) ≤ 20971520000 := by
    refine ⟨Int.mul_nonneg (by omega) (by omega), ?_⟩
    have h1 : e * (A + g) ≤ 1048576 * (A + g) := Int.mul_le_mul_of_nonneg_right (by omega) (by omega)
    omega
  have O1 := Order_ok hAr hgr (t := t + x - g / 2) (u := t + (A + g) + g + u + y - g / 2) (by omega) (by omega)
  have B1 := Begin_ok hAr hgr (e := e) (by omega) (by omega)
  have S1 : wrap64 (wrap64 (e * (A + g) + A) - 1) = e * (A + g) + A - 1 := by
    rw [w64 (x := e * (A + g) + A) (by omega) (by omega), w64 (by omega) (by omega)]
  have O2 := Order_ok hAr hgr (t := e * (A + g)) (u := e * (A + g) + A - 1) (by omega) (by omega)
  -- the two orders
  have q1 : (t + x - g / 2 + g / 2) / (A + g) < (t + (A + g) + g + u + y - g / 2 + g / 2) / (A + g) := by
    have h1 : (t + x - g / 2 + g / 2) / (A + g) ≤ (t + g) / (A + g) := Int.ediv_le_ediv hGpos (by omega)
    have h2 : (t + g + 1 * (A + g)) / (A + g) ≤ (t + (A + g) + g + u + y - g / 2 + g / 2) / (A + g) := Int.ediv_le_ediv hGpos (by omega)
    rw [Int.add_mul_ediv_right _ _ (by omega)] at h2
    omega
  have q2 : (e * (A + g) + g / 2) / (A + g) = e := (parts_of e (g / 2) (A + g) (by omega) (by omega)).1
  have q3 : (e * (A + g) + A - 1 + g / 2) / (A + g) = e := by
    have := (parts_of e (A - 1 + g / 2) (A + g) (by omega) (by omega)).1
    rwa [show e * (A + g) + (A - 1 + g / 2) = e * (A + g) + A - 1 + g / 2 by omega] at this
  have c1 : cmpZ ((t + x - g / 2 + g / 2) / (A + g)) ((t + (A + g) + g + u + y - g / 2 + g / 2) / (A + g)) = -1 := by
    unfold cmpZ
    rw [if_neg (by omega), if_pos q1]
  have c2 : cmpZ ((e * (A + g) + g / 2) / (A + g)) ((e * (A + g) + A - 1 + g / 2) / (A + g)) = 0 := by
    unfold cmpZ
    rw [q2, q3, if_pos rfl]
  rw [c1] at O1
  rw [c2] at O2
  unfold omnibuslaw11_LatticeFar.f
  rw [awake_eq, Option.bind_some, hL, Option.bind_some, pick_eq a2 _ b2 (by omega), Option.bind_some, pick_eq a3 274877906944 b3 (by omega), Option.bind_some]
  dsimp only
  rw [hdiv, hmod, pick_eq a4 _ b4 (by omega), Option.bind_some, pick_eq a5 _ b5 (by omega), Option.bind_some, ht, hu, hx, hy, T0, T1, O1, Option.bind_some, pick_eq a3 1048576 b3 (by omega), Option.bind_some, he, B1, Option.bind_some]
  dsimp only
  rw [S1, O2, Option.bind_some]
  rfl

end Go.Proofs.Ytbjmoebajdhdoaa.Pure
