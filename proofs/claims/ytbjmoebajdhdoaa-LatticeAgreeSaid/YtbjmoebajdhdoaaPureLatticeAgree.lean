/- The law LatticeAgree (what happens in an activity has that activity's number as its Epoch by each clock that is Near; all that are agree, and on the order, too) as a statement on numbers alone; no conditions. -/
import Derived.Test.YtbjmoebajdhdoaaPDx4
import Derived.Test.YtbjmoebajdhdoaaLatD
set_option linter.unusedVariables false
set_option linter.unusedSimpArgs false
namespace Go.Proofs.Ytbjmoebajdhdoaa.Pure
open Go.RowKit Go.Proofs.Ytbjmoebajdhdoaa.D Go.Proofs.Ytbjmoebajdhdoaa.PD Go.Proofs.YtbjmoebajdhdoaaW.PrintWords Go.Proofs.YtbjmoebajdhdoaaW.PrintLast
theorem Near_eq {A g d : Int} (hA : 1 ≤ A ∧ A ≤ 10000) (hg : 1 ≤ g ∧ g ≤ 10000) : lattice_Near.f A g d = some (decide (-(g / 2) ≤ d ∧ d ≤ g / 2)) := by
  have hdiv : Int.tdiv g 2 = g / 2 := Int.tdiv_eq_ediv_of_nonneg (by omega)
  unfold lattice_Near.f
  rw [right_eq, right_mk hA hg, Option.bind_some, if_pos rfl, hdiv, w64 (x := g / 2) (by omega) (by omega), w64 (x := -(g / 2)) (by omega) (by omega)]
  unfold lattice_within.f
  by_cases h : d ≥ -(g / 2)
  · rw [if_pos h, Option.bind_some]
    congr 1
    exact decide_eq_decide.mpr ⟨fun h2 => ⟨h, h2⟩, fun h2 => h2.2⟩
  · rw [if_neg h, Option.bind_some]
    congr 1
    exact (decide_eq_false (by omega)).symm
theorem sel_some (e0 e1 e2 e3 : Int) (h0 : (Lit.int .i64 e0).wf = true) (h1 : (Lit.int .i64 e1).wf = true) (h2 : (Lit.int .i64 e2).wf = true) (h3 : (Lit.int .i64 e3).wf = true) (i : Int) (hi : 0 ≤ i ∧ i < 4) :
    ∃ t, latsel.f e0 e1 e2 e3 i = some t ∧ -9223372036854775808 ≤ t ∧ t ≤ 9223372036854775807 := by
  unfold latsel.f
  by_cases c0 : i = 0
  · exact ⟨e0, by rw [if_pos c0], wf_i64 h0⟩
  · by_cases c1 : i = 1
    · exact ⟨e1, by rw [if_neg c0, if_pos c1], wf_i64 h1⟩
    · by_cases c2 : i = 2
      · exact ⟨e2, by rw [if_neg c0, if_neg c1, if_pos c2], wf_i64 h2⟩
      · exact ⟨e3, by rw [if_neg c0, if_neg c1, if_neg c2, if_pos (by omega)], wf_i64 h3⟩
theorem agree_l0 (A g x y s u e0 e1 e2 e3 : Int) (hA : 1 ≤ A ∧ A ≤ 10000) (hg : 1 ≤ g ∧ g ≤ 10000) (hx : -524288 ≤ x ∧ x ≤ 524288) (hy : -524288 ≤ y ∧ y ≤ 524288) (hs : 0 ≤ s ∧ s < A) (hu : 0 ≤ u ∧ u < A)
    (h0 : (Lit.int .i64 e0).wf = true) (h1 : (Lit.int .i64 e1).wf = true) (h2 : (Lit.int .i64 e2).wf = true) (h3 : (Lit.int .i64 e3).wf = true) : ∀ (d i : Nat), i + d = 4 →
    Ev (fun k => omnibuslaw11_LatticeAgree.l0 k true (g / 2) x (x * (A + g) + s) (y * (A + g) + u) (cmpZ x y) (i : Int) e0 e1 e2 e3 A g) true
  | 0, i, hd => by
    refine Ev.step (f := fun _ => some true) (fun k => ?_) (Ev.now _)
    simp only [omnibuslaw11_LatticeAgree.l0]
    rw [if_neg (by omega), if_pos trivial, w64 (x := g / 2 + 1) (by omega) (by omega), w64 (x := -(g / 2)) (by omega) (by omega), w64 (x := -(g / 2) - 1) (by omega) (by omega), Near_eq hA hg, Near_eq hA hg, Option.bind_some, decide_eq_false (by omega), if_neg (by decide), Option.bind_some, decide_eq_false (by omega)]
    rfl
  | d + 1, i, hd => by
    have hw : wrap64 ((i : Int) + 1) = ((i + 1 : Nat) : Int) := by rw [w64 (by omega) (by omega)]; rfl
    have hw3 : wrap64 (3 - (i : Int)) = 3 - (i : Int) := w64 (by omega) (by omega)
    obtain ⟨t, ht, tr⟩ := sel_some e0 e1 e2 e3 h0 h1 h2 h3 (i : Int) (by omega)
    obtain ⟨v, hv, vr⟩ := sel_some e0 e1 e2 e3 h0 h1 h2 h3 (3 - (i : Int)) (by omega)
    have hmod : wrap64 (wrap64 (2 * (g / 2)) + 1) = 2 * (g / 2) + 1 := by
      rw [w64 (x := 2 * (g / 2)) (by omega) (by omega), w64 (by omega) (by omega)]
    have rt := pk_range t (2 * (g / 2) + 1) (by omega)
    have rv := pk_range v (2 * (g / 2) + 1) (by omega)
    have pt := pick_eq t (2 * (g / 2) + 1) tr (by omega)
    have pv := pick_eq v (2 * (g / 2) + 1) vr (by omega)
    generalize pk t (2 * (g / 2) + 1) = m at rt pt
    generalize pk v (2 * (g / 2) + 1) = n at rv pv
    have bx : -20000 * 524288 ≤ x * (A + g) ∧ x * (A + g) ≤ 20000 * 524288 := by
      constructor
      · have h1 : -524288 * (A + g) ≤ x * (A + g) := Int.mul_le_mul_of_nonneg_right (by omega) (by omega)
        omega
      · have h1 : x * (A + g) ≤ 524288 * (A + g) := Int.mul_le_mul_of_nonneg_right (by omega) (by omega)
        omega
    have bY : -20000 * 524288 ≤ y * (A + g) ∧ y * (A + g) ≤ 20000 * 524288 := by
      constructor
      · have h1 : -524288 * (A + g) ≤ y * (A + g) := Int.mul_le_mul_of_nonneg_right (by omega) (by omega)
        omega
      · have h1 : y * (A + g) ≤ 524288 * (A + g) := Int.mul_le_mul_of_nonneg_right (by omega) (by omega)
        omega
    have E1 : wrap64 (x * (A + g) + s + wrap64 (m - g / 2)) = x * (A + g) + s + (m - g / 2) := by
      rw [w64 (x := m - g / 2) (by omega) (by omega), w64 (by omega) (by omega)]
    have E2 : wrap64 (wrap64 (y * (A + g) + u + n) - g / 2) = y * (A + g) + u + (n - g / 2) := by
      rw [w64 (x := y * (A + g) + u + n) (by omega) (by omega), w64 (by omega) (by omega)]
      omega
    have E3 : wrap64 (m - g / 2) = m - g / 2 := w64 (by omega) (by omega)
    have ep := Epoch_ok hA hg (t := x * (A + g) + s + (m - g / 2)) (by omega)
    have ord := Order_ok hA hg (t := x * (A + g) + s + (m - g / 2)) (u := y * (A + g) + u + (n - g / 2)) (by omega) (by omega)
    have q1 : (x * (A + g) + s + (m - g / 2) + g / 2) / (A + g) = x := by
      have := (parts_of x (s + m) (A + g) (by omega) (by omega)).1
      rwa [show x * (A + g) + (s + m) = x * (A + g) + s + (m - g / 2) + g / 2 by omega] at this
    have q2 : (y * (A + g) + u + (n - g / 2) + g / 2) / (A + g) = y := by
      have := (parts_of y (u + n) (A + g) (by omega) (by omega)).1
      rwa [show y * (A + g) + (u + n) = y * (A + g) + u + (n - g / 2) + g / 2 by omega] at this
    rw [q1] at ep
    rw [q1, q2] at ord
    have near : lattice_Near.f A g (m - g / 2) = some true := by rw [Near_eq hA hg, decide_eq_true (by omega)]
    refine Ev.step (fun k => ?_) (agree_l0 A g x y s u e0 e1 e2 e3 hA hg hx hy hs hu h0 h1 h2 h3 d (i + 1) (by omega))
    simp only [omnibuslaw11_LatticeAgree.l0]
    rw [if_pos (by omega), ht, Option.bind_some, hmod, pt, Option.bind_some, E1, ep, Option.bind_some, hw3, hv, Option.bind_some, pv, Option.bind_some, E2, ord, Option.bind_some, E3, near, Option.bind_some, if_pos rfl, if_pos rfl, if_pos rfl, if_pos rfl, if_pos rfl, hw]
theorem LatticeAgree : omnibuslaw11_LatticeAgree.Pure := by
  intro a0 a1 a2 a3 a4 a5 e0 e1 e2 e3 w0 w1 w2 w3 w4 w5 v0 v1 v2 v3
  have b0 := wf_i64 w0
  have b1 := wf_i64 w1
  have b2 := wf_i64 w2
  have b3 := wf_i64 w3
  have b4 := wf_i64 w4
  have b5 := wf_i64 w5
  have r0 := pk_range a0 10000 (by omega)
  have r1 := pk_range a1 10000 (by omega)
  have r2 := pk_range a2 1048576 (by omega)
  have r3 := pk_range a3 1048576 (by omega)
  have hL := Lattice_eq a0 a1 b0 b1
  generalize hA' : 1 + pk a0 10000 = A at hL
  generalize hg' : 1 + pk a1 10000 = g at hL
  have hA : 1 ≤ A ∧ A ≤ 10000 := by omega
  have hg : 1 ≤ g ∧ g ≤ 10000 := by omega
  have rs := pk_range a4 A (by omega)
  have ru := pk_range a5 A (by omega)
  have p2 := pick_eq a2 1048576 b2 (by omega)
  have p3 := pick_eq a3 1048576 b3 (by omega)
  have ps := pick_eq a4 A b4 (by omega)
  have pu := pick_eq a5 A b5 (by omega)
  generalize pk a4 A = s at rs ps
  generalize pk a5 A = u at ru pu
  obtain ⟨x, hx⟩ : ∃ x, pk a2 1048576 - 524288 = x := ⟨_, rfl⟩
  obtain ⟨y, hy⟩ : ∃ y, pk a3 1048576 - 524288 = y := ⟨_, rfl⟩
  have X : wrap64 (pk a2 1048576 - 524288) = x := by rw [w64 (by omega) (by omega), hx]
  have Y : wrap64 (pk a3 1048576 - 524288) = y := by rw [w64 (by omega) (by omega), hy]
  have xr : -524288 ≤ x ∧ x ≤ 524288 := by omega
  have yr : -524288 ≤ y ∧ y ≤ 524288 := by omega
  have bx : -20000 * 524288 ≤ x * (A + g) ∧ x * (A + g) ≤ 20000 * 524288 := by
    constructor
    · have h1 : -524288 * (A + g) ≤ x * (A + g) := Int.mul_le_mul_of_nonneg_right (by omega) (by omega)
      omega
    · have h1 : x * (A + g) ≤ 524288 * (A + g) := Int.mul_le_mul_of_nonneg_right (by omega) (by omega)
      omega
  have bY : -20000 * 524288 ≤ y * (A + g) ∧ y * (A + g) ≤ 20000 * 524288 := by
    constructor
    · have h1 : -524288 * (A + g) ≤ y * (A + g) := Int.mul_le_mul_of_nonneg_right (by omega) (by omega)
      omega
    · have h1 : y * (A + g) ≤ 524288 * (A + g) := Int.mul_le_mul_of_nonneg_right (by omega) (by omega)
      omega
  have B1 := Begin_ok hA hg (e := x) (by omega) (by omega)
  have B2 := Begin_ok hA hg (e := y) (by omega) (by omega)
  have A1 := Active_ok hA hg (t := x * (A + g) + s) (by omega)
  have A2 := Active_ok hA hg (t := y * (A + g) + u) (by omega)
  rw [(parts_of x s (A + g) (by omega) (by omega)).2, decide_eq_true rs.2] at A1
  rw [(parts_of y u (A + g) (by omega) (by omega)).2, decide_eq_true ru.2] at A2
  have Z1 : wrap64 (x * (A + g) + s) = x * (A + g) + s := w64 (by omega) (by omega)
  have Z2 : wrap64 (y * (A + g) + u) = y * (A + g) + u := w64 (by omega) (by omega)
  have hdiv : Int.tdiv g 2 = g / 2 := Int.tdiv_eq_ediv_of_nonneg (by omega)
  have H : wrap64 (g / 2) = g / 2 := w64 (by omega) (by omega)
  have fin := agree_l0 A g x y s u e0 e1 e2 e3 hA hg xr yr rs ru v0 v1 v2 v3 4 0 rfl
  have j2 : Ev (fun k => omnibuslaw11_LatticeAgree.j2 k true (g / 2) x (x * (A + g) + s) (y * (A + g) + u) (cmpZ x y) e0 e1 e2 e3 A g) true := Ev.step (fun k => by simp only [omnibuslaw11_LatticeAgree.j2]; rfl) fin
  have j0 : Ev (fun k => omnibuslaw11_LatticeAgree.j0 k true (g / 2) x y (x * (A + g) + s) (y * (A + g) + u) false e0 e1 e2 e3 A g) true := by
    by_cases c1 : x < y
    · refine Ev.step (f := fun k => omnibuslaw11_LatticeAgree.j1 k true (g / 2) x y (x * (A + g) + s) (y * (A + g) + u) (-1) e0 e1 e2 e3 A g) (fun k => ?_) (Ev.step (fun k => ?_) j2)
      · simp only [omnibuslaw11_LatticeAgree.j0]
        rw [if_neg (by decide), if_pos c1]
      · simp only [omnibuslaw11_LatticeAgree.j1]
        have : cmpZ x y = -1 := by
          unfold cmpZ
          rw [if_neg (by omega), if_pos c1]
        rw [if_neg (by omega), this]
    · refine Ev.step (f := fun k => omnibuslaw11_LatticeAgree.j1 k true (g / 2) x y (x * (A + g) + s) (y * (A + g) + u) 0 e0 e1 e2 e3 A g) (fun k => ?_) (Ev.step (fun k => ?_) j2)
      · simp only [omnibuslaw11_LatticeAgree.j0]
        rw [if_neg (by decide), if_neg c1]
      · simp only [omnibuslaw11_LatticeAgree.j1]
        by_cases c2 : x > y
        · have : cmpZ x y = 1 := by
            unfold cmpZ
            rw [if_neg (by omega), if_neg c1]
          rw [if_pos c2, this]
        · have : cmpZ x y = 0 := by
            unfold cmpZ
            rw [if_pos (by omega)]
          rw [if_neg c2, this]
  obtain ⟨K, hK⟩ := j0.rounds
  refine ⟨K, ?_⟩
  unfold omnibuslaw11_LatticeAgree.f
  rw [awake_eq, Option.bind_some, hL, Option.bind_some, p2, Option.bind_some, p3, Option.bind_some]
  dsimp only
  rw [X, Y, B1, Option.bind_some, B2, Option.bind_some, ps, Option.bind_some, pu, Option.bind_some]
  dsimp only
  rw [if_pos rfl, if_pos rfl, Z1, Z2, A1, Option.bind_some, if_pos rfl, A2, Option.bind_some, hdiv, H]
  exact hK
end Go.Proofs.Ytbjmoebajdhdoaa.Pure
