/- The law LatticeTells (which lattices may be, what times are active, and their epochs, are as the document says) as a statement on numbers alone; no conditions. -/
import Derived.Test.YtbjmoebajdhdoaaPBx5
import Derived.Test.YtbjmoebajdhdoaaLatC
set_option linter.unusedVariables false
set_option linter.unusedSimpArgs false
namespace Go.Proofs.Ytbjmoebajdhdoaa.Pure
open Go.RowKit Go.Proofs.Ytbjmoebajdhdoaa.C Go.Proofs.Ytbjmoebajdhdoaa.PB Go.Proofs.YtbjmoebajdhdoaaW.PrintWords Go.Proofs.YtbjmoebajdhdoaaW.PrintLast

theorem ref_right (a g : Int) : omnibusref11_Right.f a g = some (rightB a g) := by
  unfold omnibusref11_Right.f rightB
  by_cases h1 : a ≥ 1 <;> by_cases h2 : a ≤ 10000 <;> by_cases h3 : g ≥ 1 <;> by_cases h4 : g ≤ 10000 <;> simp [h1, h2, h3, h4] <;> omega
theorem ref_near (a g n : Int) : lattice_Near.f a g n = omnibusref11_Near.f a g n := by
  unfold lattice_Near.f omnibusref11_Near.f
  rw [right_eq, ref_right, Option.bind_some, Option.bind_some]
  by_cases h : rightB a g = true
  · rw [if_pos h, if_pos h]
    unfold lattice_within.f
    split <;> rfl
  · rw [if_neg h, if_neg h]
theorem near_some (a g n : Int) : ∃ b, omnibusref11_Near.f a g n = some b := by
  unfold omnibusref11_Near.f
  rw [ref_right, Option.bind_some]
  split
  · split
    · exact ⟨_, rfl⟩
    · exact ⟨_, rfl⟩
  · exact ⟨_, rfl⟩
theorem ref_may (a g t : Int) : omnibusref11_may.f a g t = some (okL a g t) := by
  unfold omnibusref11_may.f okL inT
  rw [ref_right, Option.bind_some]
  by_cases h : rightB a g = true
  · rw [if_pos h, h]
    by_cases h1 : t ≥ -1099511627776
    · rw [if_pos h1, decide_eq_true (show (-1099511627776 : Int) ≤ t from h1)]
      simp
    · rw [if_neg h1, decide_eq_false (show ¬ (-1099511627776 : Int) ≤ t from h1)]
      simp
  · rw [if_neg h, Bool.eq_false_iff.mpr h]
    rfl
theorem ok_parts {a g t : Int} (h : okL a g t = true) : (1 ≤ a ∧ a ≤ 10000 ∧ 1 ≤ g ∧ g ≤ 10000) ∧ -1099511627776 ≤ t ∧ t ≤ 1099511627776 := by
  have h' := Bool.and_eq_true_iff.mp h
  exact ⟨right_of h'.1, inT_of h'.2⟩
theorem ref_down (t G : Int) (hG : 1 ≤ G ∧ G ≤ 20000) (ht : -2199023255552 ≤ t ∧ t ≤ 2199023255552) : omnibusref11_down.f t G = some (t / G) := by
  unfold omnibusref11_down.f
  rw [if_neg (by omega)]
  have e := Int.mul_tdiv_add_tmod t G
  have b1 := Int.tmod_lt_of_pos t (show 0 < G by omega)
  have b2 := Int.tmod_lt_of_pos (-t) (show 0 < G by omega)
  rw [Int.neg_tmod] at b2
  have hq : -2199023275552 ≤ Int.tdiv t G ∧ Int.tdiv t G ≤ 2199023275552 := by
    constructor
    · by_cases h : Int.tdiv t G ≤ -1
      · have h6 : G * Int.tdiv t G ≤ 1 * Int.tdiv t G := Int.mul_le_mul_of_nonpos_right (by omega) (by omega)
        omega
      · omega
    · by_cases h : 0 ≤ Int.tdiv t G
      · have h6 : 1 * Int.tdiv t G ≤ G * Int.tdiv t G := Int.mul_le_mul_of_nonneg_right (by omega) h
        omega
      · omega
  by_cases hs : Int.tmod t G < 0
  · rw [if_pos hs, w64 (x := Int.tdiv t G) (by omega) (by omega), w64 (by omega) (by omega)]
    have h2 := (Int.ediv_emod_unique (a := t) (b := G) (r := Int.tmod t G + G) (q := Int.tdiv t G - 1) (by omega)).2 ⟨by rw [Int.mul_sub]; omega, by omega, by omega⟩
    rw [h2.1]
  · rw [if_neg hs, w64 (x := Int.tdiv t G) (by omega) (by omega)]
    have h2 := (Int.ediv_emod_unique (a := t) (b := G) (r := Int.tmod t G) (q := Int.tdiv t G) (by omega)).2 ⟨by omega, by omega, by omega⟩
    rw [h2.1]
theorem ref_rest (t G : Int) (hG : 1 ≤ G ∧ G ≤ 20000) (ht : -2199023255552 ≤ t ∧ t ≤ 2199023255552) : omnibusref11_rest.f t G = some (t % G) := by
  unfold omnibusref11_rest.f
  have e := Int.mul_ediv_add_emod t G
  have h0 := Int.emod_nonneg t (show G ≠ 0 by omega)
  have h1 := Int.emod_lt_of_pos t (show 0 < G by omega)
  rw [ref_down t G hG ht, Option.bind_some, w64 (x := G * (t / G)) (by omega) (by omega), w64 (by omega) (by omega)]
  congr 1
  omega
theorem ref_active (a g t : Int) : omnibusref11_Active.f a g t = lattice_Active.f a g t := by
  unfold omnibusref11_Active.f lattice_Active.f
  rw [ref_may, Option.bind_some]
  by_cases h : okL a g t = true
  · have p := ok_parts h
    rw [if_pos h, if_pos h, w64 (x := a + g) (by omega) (by omega), ref_rest t (a + g) (by omega) (by omega), Option.bind_some]
  · rw [if_neg h, if_neg h]
theorem ref_next (a g t : Int) : omnibusref11_Next.f a g t = lattice_Next.f a g t := by
  unfold omnibusref11_Next.f
  rw [ref_may, Option.bind_some, ref_active]
  unfold lattice_Active.f lattice_Next.f
  by_cases h : okL a g t = true
  · have p := ok_parts h
    have e := Int.mul_ediv_add_emod t (a + g)
    have h0 := Int.emod_nonneg t (show a + g ≠ 0 by omega)
    have h1 := Int.emod_lt_of_pos t (show 0 < a + g by omega)
    rw [if_pos h, if_pos h, if_pos h, Option.bind_some, w64 (x := a + g) (by omega) (by omega), ref_rest t (a + g) (by omega) (by omega), Option.bind_some]
    unfold nextZ
    by_cases h2 : t % (a + g) < a
    · rw [if_pos (decide_eq_true h2), if_neg (by omega)]
    · rw [if_neg (by simpa using h2), if_pos (by omega), w64 (x := t + a) (by omega) (by omega), w64 (x := t + a + g) (by omega) (by omega), w64 (by omega) (by omega), Int.add_mul, Int.mul_comm (t / (a + g))]
      have : t + a + g - t % (a + g) = (a + g) * (t / (a + g)) + 1 * (a + g) := by omega
      rw [this]
  · rw [if_neg h, if_neg h]
theorem ref_epoch (a g t : Int) : omnibusref11_Epoch.f a g t = lattice_Epoch.f a g t := by
  unfold omnibusref11_Epoch.f lattice_Epoch.f
  rw [ref_may, Option.bind_some]
  by_cases h : okL a g t = true
  · have p := ok_parts h
    have hd : Int.tdiv g 2 = g / 2 := Int.tdiv_eq_ediv_of_nonneg (by omega)
    rw [if_pos h, if_pos h, hd, w64 (x := g / 2) (by omega) (by omega), w64 (x := t + g / 2) (by omega) (by omega), w64 (x := a + g) (by omega) (by omega), ref_down (t + g / 2) (a + g) (by omega) (by omega), Option.bind_some]
  · rw [if_neg h, if_neg h]
theorem ref_order (k : Nat) (a g t u : Int) : omnibusref11_Order.f (k + 1) a g t u = lattice_Order.f a g t u := by
  unfold omnibusref11_Order.f lattice_Order.f
  rw [ref_epoch, ref_epoch]
  unfold lattice_Epoch.f
  rw [Option.bind_some, Option.bind_some]
  by_cases h : okL a g t = true
  · rw [if_pos h, if_pos h]
    by_cases h2 : okL a g u = true
    · rw [if_pos h2, if_pos h2]
      dsimp only
      rw [if_pos rfl, omnibusref11_Order.j0, if_neg (by decide)]
      unfold cmpZ
      generalize (t + g / 2) / (a + g) = x
      generalize (u + g / 2) / (a + g) = y
      by_cases h3 : x < y
      · rw [if_pos h3, if_neg (by omega), if_pos h3]
      · rw [if_neg h3]
        by_cases h4 : x > y
        · rw [if_pos h4, if_neg (by omega), if_neg h3]
        · rw [if_neg h4, if_pos (by omega)]
    · rw [if_neg h2, if_neg h2]
      dsimp only
      rw [if_pos rfl, omnibusref11_Order.j0, if_pos (by decide)]
  · rw [if_neg h, if_neg h]
    dsimp only
    rw [if_neg (by decide), omnibusref11_Order.j0, if_pos rfl]
theorem ref_begin (a g e : Int) : omnibusref11_Begin.f a g e = lattice_Begin.f a g e := by
  unfold omnibusref11_Begin.f lattice_Begin.f
  rw [ref_right, Option.bind_some]
  unfold okL
  by_cases h : rightB a g = true
  · have p := right_of h
    rw [if_pos h, mx_right h, ref_may, h, w64 (x := a + g) (by omega) (by omega), Option.bind_some]
    unfold okL
    rw [h, Bool.true_and, Bool.true_and]
    by_cases h1 : e < -1099511627776
    · have : inT e = false := by unfold inT; rw [decide_eq_false (by omega), Bool.false_and]
      rw [if_pos h1, this, if_neg (by decide)]
    · rw [if_neg h1]
      by_cases h2 : e > 1099511627776
      · have : inT e = false := by unfold inT; rw [decide_eq_false (show ¬ e ≤ 1099511627776 by omega), Bool.and_false]
        rw [if_pos h2, this, if_neg (by decide)]
      · have : inT e = true := by unfold inT; rw [decide_eq_true (show (-1099511627776 : Int) ≤ e by omega), decide_eq_true (show e ≤ 1099511627776 by omega)]; rfl
        rw [if_neg h2, this, if_pos rfl]
        split <;> rfl
  · rw [if_neg h, Bool.eq_false_iff.mpr h]
    rfl
section
variable {x3 x4 x5 : Int} (hx3 : -9223372036854775808 ≤ x3 ∧ x3 ≤ 9223372036854775807) (hx4 : -9223372036854775808 ≤ x4 ∧ x4 ≤ 9223372036854775807) (hx5 : -9223372036854775808 ≤ x5 ∧ x5 ≤ 9223372036854775807)
variable {l : List S23}
theorem tells_l1 (i : Nat) (hi : i < 1000) (a g : Int) (hE : Ev (fun k => omnibuslaw11_LatticeTells.l0 k x3 x4 x5 true l (l.length : Int) ((i + 1 : Nat) : Int)) true) (m0 : List S30) (hm : m0.length < 1000) : ∀ (m j : Nat), j + m = m0.length →
    Ev (fun k => omnibuslaw11_LatticeTells.l1 k x3 x4 x5 true l (l.length : Int) (i : Int) m0 (m0.length : Int) (j : Int) a g) true
  | 0, j, h => by
    refine Ev.step (fun k => ?_) hE
    rw [omnibuslaw11_LatticeTells.l1, if_neg (by omega), w64 (x := (i : Int) + 1) (by omega) (by omega)]
    rfl
  | m + 1, j, h => by
    obtain ⟨K, ih⟩ := tells_l1 i hi a g hE m0 hm m (j + 1) (by omega)
    refine ⟨K + 2, fun k hk => ?_⟩
    obtain ⟨q, rfl⟩ : ∃ q, k = q + 1 + 1 := ⟨k - 2, by omega⟩
    have e := ih (q + 1) (by omega)
    dsimp only at e ⊢
    rw [omnibuslaw11_LatticeTells.l1, if_pos (by omega), if_pos (by omega), if_pos (by omega), ref_next, ref_epoch, ref_order, ref_begin, ref_active, w64 (x := (j : Int) + 1) (by omega) (by omega)]
    generalize (rd_T30 m0 (j : Int)).f0 = t
    generalize (rd_T30 m0 (j : Int)).f1 = u
    unfold lattice_Next.f lattice_Epoch.f lattice_Order.f lattice_Begin.f lattice_Active.f
    rw [Option.bind_some, Option.bind_some, Option.bind_some, Option.bind_some, Option.bind_some, Option.bind_some, Option.bind_some, Option.bind_some, if_pos rfl, if_pos rfl, if_pos rfl, if_pos rfl, if_pos rfl, if_pos rfl, if_pos rfl, if_pos rfl, Option.bind_some, Option.bind_some, bne_self_eq_false, if_neg (by decide)]
    exact e
include hx3 hx4 hx5 in
theorem tells_l0 (hl : l.length < 1000) : ∀ (m i : Nat), i + m = l.length → Ev (fun k => omnibuslaw11_LatticeTells.l0 k x3 x4 x5 true l (l.length : Int) (i : Int)) true
  | 0, i, h => by
    refine Ev.step (f := fun _ => some true) (fun k => ?_) (Ev.now _)
    rw [omnibuslaw11_LatticeTells.l0, if_neg (by omega)]
  | m + 1, i, h => by
    have ih := tells_l0 hl m (i + 1) (by omega)
    generalize ha : (rd_T23 l (i : Int)).f0 = a
    generalize hg : (rd_T23 l (i : Int)).f1 = g
    have h1 := tells_l1 (x3 := x3) (x4 := x4) (x5 := x5) (l := l) i (by omega) a g ih [⟨x3, x4⟩, ⟨wrap64 (pk x3 2199023255552 - 1099511627776), wrap64 (pk x4 2199023255552 - 1099511627776)⟩, ⟨wrap64 (pk x3 100 - 50), wrap64 (pk x4 100 - 50)⟩] (by simp) 3 0 rfl
    have h2 : Ev (fun k => omnibuslaw11_LatticeTells.j1 k x3 x4 x5 true l (l.length : Int) (i : Int) false a g) true := by
      refine Ev.step (fun k => ?_) h1
      rw [omnibuslaw11_LatticeTells.j1, if_neg (by decide), pick_eq x3 2199023255552 hx3 (by omega), pick_eq x4 2199023255552 hx4 (by omega), pick_eq x3 100 hx3 (by omega), pick_eq x4 100 hx4 (by omega), Option.bind_some, Option.bind_some, Option.bind_some, Option.bind_some, Option.bind_some]
      rfl
    refine Ev.step (fun k => ?_) h2
    obtain ⟨n1, e1⟩ := near_some a g x5
    obtain ⟨n2, e2⟩ := near_some a g (wrap64 (pk x5 12 - 6))
    rw [omnibuslaw11_LatticeTells.l0, if_pos (by omega), if_pos (by omega), if_pos (by omega), ha, hg, right_eq, ref_right, Option.bind_some, Option.bind_some, bne_self_eq_false, if_neg (by decide), ref_near, e1, Option.bind_some, Option.bind_some, bne_self_eq_false, if_neg (by decide), pick_eq x5 12 hx5 (by omega), Option.bind_some]
    rw [ref_near, e2, Option.bind_some, Option.bind_some, e2, Option.bind_some, bne_self_eq_false]
end
theorem LatticeTells : omnibuslaw11_LatticeTells.Pure := by
  intro a00 a01 a1 a2 a3 a4 a5 w00 w01 w1 w2 w3 w4 w5
  have b1 := wf_i64 w1
  have b2 := wf_i64 w2
  have b3 := wf_i64 w3
  have b4 := wf_i64 w4
  have b5 := wf_i64 w5
  have r1 := pk_range a1 9 (by omega)
  have r2 := pk_range a2 9 (by omega)
  have hL1 := Lattice_eq a1 a2 b1 b2
  have hL2 := Lattice_eq (pk a1 9) (pk a2 9) (by omega) (by omega)
  obtain ⟨K, e⟩ := tells_l0 b3 b4 b5 (l := [⟨a00, a01⟩, ⟨1 + pk a1 10000, 1 + pk a2 10000⟩, ⟨1 + pk (pk a1 9) 10000, 1 + pk (pk a2 9) 10000⟩]) (by simp) 3 0 rfl
  refine ⟨K, ?_⟩
  have e' := e K (Nat.le_refl _)
  dsimp only at e'
  unfold omnibuslaw11_LatticeTells.f
  rw [awake_eq, Option.bind_some, hL1, Option.bind_some, pick_eq a1 9 b1 (by omega), Option.bind_some, pick_eq a2 9 b2 (by omega), Option.bind_some, hL2, Option.bind_some, Option.bind_some]
  exact e'

end Go.Proofs.Ytbjmoebajdhdoaa.Pure
