/- What the functions of the lattice layer answer where a lattice is right and times may be: plain laws on numbers. -/
import Derived.Test.YtbjmoebajdhdoaaPDx3
set_option linter.unusedVariables false
set_option linter.unusedSimpArgs false
namespace Go.Proofs.Ytbjmoebajdhdoaa.D
open Go.RowKit Go.Proofs.Ytbjmoebajdhdoaa.PD Go.Proofs.YtbjmoebajdhdoaaW.PrintWords Go.Proofs.YtbjmoebajdhdoaaW.PrintLast Go.Proofs.YtbjmoebajdhdoaaW.PrintMore
theorem w64 {x : Int} (h1 : -9223372036854775808 ≤ x) (h2 : x ≤ 9223372036854775807) : wrap64 x = x := by
  unfold wrap64
  omega
theorem wf_i64 {x : Int} (h : (Lit.int .i64 x).wf = true) : -9223372036854775808 ≤ x ∧ x ≤ 9223372036854775807 := by
  have hmin : IntKind.i64.min = -9223372036854775808 := rfl
  have hmax : IntKind.i64.max = 9223372036854775807 := rfl
  simp only [Lit.wf, Bool.and_eq_true, decide_eq_true_eq] at h
  omega
/-- Which of n things a raw number speaks of. -/
def pk (c n : Int) : Int := (if c < 0 then -(c + 1) else c) % n
theorem pk_range (c n : Int) (hn : 0 < n) : 0 ≤ pk c n ∧ pk c n < n := ⟨Int.emod_nonneg _ (by omega), Int.emod_lt_of_pos _ hn⟩
theorem pick_eq (c n : Int) (hc : -9223372036854775808 ≤ c ∧ c ≤ 9223372036854775807) (hn : 0 < n) : omnibuslaw11_pick.f c n = some (pk c n) := by
  unfold omnibuslaw11_pick.f pk
  by_cases h : c < 0
  · rw [if_pos h, if_neg (by omega), if_pos h, w64 (x := c + 1) (by omega) (by omega), w64 (by omega) (by omega), Int.tmod_eq_emod_of_nonneg (by omega)]
  · rw [if_neg h, if_neg (by omega), if_neg h, Int.tmod_eq_emod_of_nonneg (by omega)]
theorem Lattice_eq (a g : Int) (ha : -9223372036854775808 ≤ a ∧ a ≤ 9223372036854775807) (hg : -9223372036854775808 ≤ g ∧ g ≤ 9223372036854775807) : omnibuslaw11_Lattice.f a g = some (1 + pk a 10000, 1 + pk g 10000) := by
  have h1 := pk_range a 10000 (by omega)
  have h2 := pk_range g 10000 (by omega)
  unfold omnibuslaw11_Lattice.f
  rw [pick_eq a _ ha (by omega), Option.bind_some, pick_eq g _ hg (by omega), Option.bind_some, w64 (by omega) (by omega), w64 (by omega) (by omega)]
theorem right_mk {a g : Int} (ha : 1 ≤ a ∧ a ≤ 10000) (hg : 1 ≤ g ∧ g ≤ 10000) : rightB a g = true := by
  unfold rightB
  simp [ha.1, ha.2, hg.1, hg.2]
theorem inT_mk {t : Int} (h : -1099511627776 ≤ t ∧ t ≤ 1099511627776) : inT t = true := by
  unfold inT
  simp [h.1, h.2]
theorem okL_mk {a g t : Int} (ha : 1 ≤ a ∧ a ≤ 10000) (hg : 1 ≤ g ∧ g ≤ 10000) (h : -1099511627776 ≤ t ∧ t ≤ 1099511627776) : okL a g t = true := by
  unfold okL
  rw [right_mk ha hg, inT_mk h]
  rfl
section
variable {a g : Int} (ha : 1 ≤ a ∧ a ≤ 10000) (hg : 1 ≤ g ∧ g ≤ 10000)
include ha hg
theorem Epoch_ok {t : Int} (ht : -1099511627776 ≤ t ∧ t ≤ 1099511627776) : lattice_Epoch.f a g t = some ((t + g / 2) / (a + g), 0) := by
  unfold lattice_Epoch.f
  rw [if_pos (okL_mk ha hg ht)]
theorem Next_ok {t : Int} (ht : -1099511627776 ≤ t ∧ t ≤ 1099511627776) : lattice_Next.f a g t = some (nextZ a (a + g) t, 0) := by
  unfold lattice_Next.f
  rw [if_pos (okL_mk ha hg ht)]
theorem Active_ok {t : Int} (ht : -1099511627776 ≤ t ∧ t ≤ 1099511627776) : lattice_Active.f a g t = some (decide (t % (a + g) < a)) := by
  unfold lattice_Active.f
  rw [if_pos (okL_mk ha hg ht)]
theorem Order_ok {t u : Int} (ht : -1099511627776 ≤ t ∧ t ≤ 1099511627776) (hu : -1099511627776 ≤ u ∧ u ≤ 1099511627776) : lattice_Order.f a g t u = some (cmpZ ((t + g / 2) / (a + g)) ((u + g / 2) / (a + g)), 0) := by
  unfold lattice_Order.f
  rw [if_pos (okL_mk ha hg ht), if_pos (okL_mk ha hg hu)]
theorem Begin_ok {e : Int} (he : -1099511627776 ≤ e ∧ e ≤ 1099511627776) (ht : -1099511627776 ≤ e * (a + g) ∧ e * (a + g) ≤ 1099511627776) : lattice_Begin.f a g e = some (e * (a + g), 0) := by
  have h1 : wrap64 (e * mx (wrap64 (a + g)) 1) = e * (a + g) := by
    rw [mx_right (right_mk ha hg), w64 (by omega) (by omega)]
  unfold lattice_Begin.f
  rw [h1, if_pos (okL_mk ha hg he), if_pos (okL_mk ha hg ht)]
end
theorem awake_eq : omnibuslaw11_awake.f = some true := by decide +kernel
/-! ### granules -/
theorem parts_of (q s G : Int) (h0 : 0 ≤ s) (h1 : s < G) : (q * G + s) / G = q ∧ (q * G + s) % G = s := by
  have h := (Int.ediv_emod_unique (a := q * G + s) (b := G) (r := s) (q := q) (by omega)).2 ⟨by rw [Int.mul_comm]; omega, h0, h1⟩
  exact h
theorem split_of (t G : Int) (hG : 0 < G) : ∃ q s, t = q * G + s ∧ 0 ≤ s ∧ s < G ∧ t / G = q ∧ t % G = s := by
  have e := Int.mul_ediv_add_emod t G
  rw [Int.mul_comm] at e
  exact ⟨t / G, t % G, by omega, Int.emod_nonneg _ (by omega), Int.emod_lt_of_pos _ hG, rfl, rfl⟩
/-- The epoch of a time that is q granules and s ticks. -/
theorem epoch_of (q s a g : Int) (ha : 1 ≤ a) (hg : 1 ≤ g) (h0 : 0 ≤ s) (h1 : s < a + g) : (q * (a + g) + s + g / 2) / (a + g) = if s + g / 2 < a + g then q else q + 1 := by
  by_cases h : s + g / 2 < a + g
  · rw [if_pos h, Int.add_assoc]
    exact (parts_of q (s + g / 2) (a + g) (by omega) h).1
  · rw [if_neg h]
    have e : q * (a + g) + s + g / 2 = (q + 1) * (a + g) + (s + g / 2 - (a + g)) := by rw [Int.add_mul q 1]; omega
    rw [e]
    exact (parts_of (q + 1) _ (a + g) (by omega) (by omega)).1
theorem next_cases (a G t : Int) (ha : 1 ≤ a) (hG : a < G) : (t % G < a ∧ nextZ a G t = t) ∨ (a ≤ t % G ∧ nextZ a G t = (t / G + 1) * G ∧ nextZ a G t = t + (G - t % G)) := by
  unfold nextZ
  have e := Int.mul_ediv_add_emod t G
  by_cases h : a ≤ t % G
  · rw [if_pos h]
    refine .inr ⟨h, rfl, ?_⟩
    rw [Int.add_mul, Int.mul_comm]
    omega
  · rw [if_neg h]
    exact .inl ⟨by omega, rfl⟩
end Go.Proofs.Ytbjmoebajdhdoaa.D
