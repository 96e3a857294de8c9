-- Laid by a program of this session (wip/myprint.py, over the kit's print.py), not by print.sh.
import Derived.Test.YtbjmoebajdhdoaaPDx0
import Derived.Test.YtbjmoebajdhdoaaPDx1
namespace Go.Proofs.Ytbjmoebajdhdoaa.PD
open Go.RowKit Go.Proofs.YtbjmoebajdhdoaaW.PrintWords Go.Proofs.YtbjmoebajdhdoaaW.PrintLast Go.Proofs.YtbjmoebajdhdoaaW.PrintMore
attribute [local go_sem] max2_int min2_int max_two min_two max_three min_three max_four min_four   -- for this text's walks alone
set_option linter.unusedVariables false
set_option linter.unusedSimpArgs false

set_option maxHeartbeats 1000000 in
set_option maxRecDepth 100000 in
theorem lat_of (a g : Int) (r : Bool) (w : World) (h : lattice_Right.f a g = some r) :
    Calls Try.prog 27 #[.agg #[.int .i64 a, .int .i64 g]] w fun e w' => ∃ b : Nat, e = .returned (.agg #[.int .i64 a, .int .i64 g, .int .i64 (mx (wrap64 (a + g)) 1), .func (.func 38) #[] #[.pointer (some ⟨b, 0, none⟩)]]) ∧ w.heap.size ≤ b ∧ w'.heap[b]? = some (.cells #[.bool r] 4 (0, 0)) ∧ Below w.heap.size w w' := by
  have hu23 := Try.underlying23
  have hu44 := Try.underlying44
  have HB := Aside0.mk (Below.refl w.heap.size w)
  obtain ⟨m, hm⟩ : ∃ m, mx (wrap64 (a + g)) 1 = m := ⟨_, rfl⟩
  rw [hm]
  have hm_ : (if wrap64 (a + g) < 1 then 1 else wrap64 (a + g)) = m := hm
  go_enter Try.func27, Try.ntmps27
  go_wp2_with (first | ((with_reducible refine gate_dst (N := 1) rfl ?_); refine box_event ?hg (N := 1) ?hd (cs := #[.int .i64 a, .int .i64 g]) (t := 23) ?hr ?_; (case hd => rfl); (case hg => rfl); (case hr => first | (go_simp; done) | (go_simp; rfl)); intro g_A hg w1 hbox hb; have GE_A := Aside0.mk (by rw [hg]; exact (below_size (by repeat (first | (with_reducible first | exact HB.out | apply below_alloc | apply pw_below_drewN | apply below_drew1) | exact HB.out))) : w.heap.size ≤ g_A); have m_HB := Aside0.mk (below_step (by repeat (first | (with_reducible first | exact HB.out | apply below_alloc | apply pw_below_drewN | apply below_drew1) | exact HB.out)) hb); have k_A := Aside0.mk hbox; clear hb hbox hg; clear HB; have HB := m_HB; clear m_HB; have BK_A := k_A; clear k_A; have hc1_A_0 : w1.cell? ⟨g_A, 0, none⟩ = some (.int .i64 a) := (blk_cell BK_A.out 0).trans rfl; have hc1_A_1 : w1.cell? ⟨g_A, 1, none⟩ = some (.int .i64 g) := (blk_cell BK_A.out 1).trans rfl; have hf1_A_0 := blk_frozen BK_A.out 0; have hf1_A_1 := blk_frozen BK_A.out 1) | ((with_reducible refine gate_dst (N := 2) rfl ?_); refine box_event ?hg (N := 2) ?hd (cs := #[.int .i64 0, .int .i64 0, .int .i64 0, .nilFunc]) (t := 44) ?hr ?_; (case hd => rfl); (case hg => rfl); (case hr => first | (go_simp; done) | (go_simp; rfl)); intro g_R hg w2 hbox hb; have GE_R := Aside0.mk (by rw [hg]; exact (below_size (by repeat (first | (with_reducible first | exact HB.out | apply below_alloc | apply pw_below_drewN | apply below_drew1 | refine below_set ?_ GE_A.out) | exact HB.out))) : w.heap.size ≤ g_R); have NE_A_R := Aside0.mk (by rw [hg]; exact Nat.ne_of_lt (blk_lt (o := .cells #[.int .i64 a, .int .i64 g] 23 (0, 0)) (by (with_reducible repeat (first | refine blk_drewN ?_ _ | refine blk_drew ?_ | refine blk_alloc ?_ _)); exact BK_A.out)) : g_A ≠ g_R); have NE_R_A := Aside0.mk (Ne.symm NE_A_R.out); have ne_A_R := NE_A_R.out; have ne_R_A := NE_R_A.out; have m_A := Aside0.mk (blk_below (g := g_A) (o := .cells #[.int .i64 a, .int .i64 g] 23 (0, 0)) (by (with_reducible repeat (first | refine blk_drewN ?_ _ | refine blk_drew ?_ | refine blk_alloc ?_ _)); exact BK_A.out) hb); have m_HB := Aside0.mk (below_step (by repeat (first | (with_reducible first | exact HB.out | apply below_alloc | apply pw_below_drewN | apply below_drew1 | refine below_set ?_ GE_A.out) | exact HB.out)) hb); have k_R := Aside0.mk hbox; clear hb hbox hg; clear HB; clear BK_A; have HB := m_HB; have BK_A := m_A; clear m_HB; clear m_A; have BK_R := k_R; clear k_R; have hc2_A_0 : w2.cell? ⟨g_A, 0, none⟩ = some (.int .i64 a) := (blk_cell BK_A.out 0).trans rfl; have hc2_A_1 : w2.cell? ⟨g_A, 1, none⟩ = some (.int .i64 g) := (blk_cell BK_A.out 1).trans rfl; have hf2_A_0 := blk_frozen BK_A.out 0; have hf2_A_1 := blk_frozen BK_A.out 1; have hc2_R_0 : w2.cell? ⟨g_R, 0, none⟩ = some (.int .i64 0) := (blk_cell BK_R.out 0).trans rfl; have hc2_R_1 : w2.cell? ⟨g_R, 1, none⟩ = some (.int .i64 0) := (blk_cell BK_R.out 1).trans rfl; have hc2_R_2 : w2.cell? ⟨g_R, 2, none⟩ = some (.int .i64 0) := (blk_cell BK_R.out 2).trans rfl; have hc2_R_3 : w2.cell? ⟨g_R, 3, none⟩ = some (.nilFunc) := (blk_cell BK_R.out 3).trans rfl; have hf2_R_0 := blk_frozen BK_R.out 0; have hf2_R_1 := blk_frozen BK_R.out 1; have hf2_R_2 := blk_frozen BK_R.out 2; have hf2_R_3 := blk_frozen BK_R.out 3) | (go_at_call 12; (with_reducible refine (lattice_Right.calls a g r _ h).mono ?_); rintro e w3 ⟨rfl, hb⟩; have m_A := Aside0.mk (blk_below (g := g_A) (o := .cells #[.int .i64 a, .int .i64 g] 23 (0, 0)) (by (with_reducible repeat (first | refine blk_drewN ?_ _ | refine blk_drew ?_ | refine blk_alloc ?_ _)); exact BK_A.out) hb); have m_R := Aside0.mk (blk_below (g := g_R) (o := .cells #[.int .i64 0, .int .i64 0, .int .i64 0, .nilFunc] 44 (0, 0)) (by (with_reducible repeat (first | refine blk_drewN ?_ _ | refine blk_drew ?_ | refine blk_alloc ?_ _)); exact BK_R.out) hb); have m_HB := Aside0.mk (below_step (by repeat (first | (with_reducible first | exact HB.out | apply below_alloc | apply pw_below_drewN | apply below_drew1 | refine below_set ?_ GE_A.out | refine below_set ?_ GE_R.out) | exact HB.out)) hb); clear hb; clear HB; clear BK_A; clear BK_R; have HB := m_HB; have BK_A := m_A; have BK_R := m_R; clear m_HB; clear m_A; clear m_R; have hc3_A_0 : w3.cell? ⟨g_A, 0, none⟩ = some (.int .i64 a) := (blk_cell BK_A.out 0).trans rfl; have hc3_A_1 : w3.cell? ⟨g_A, 1, none⟩ = some (.int .i64 g) := (blk_cell BK_A.out 1).trans rfl; have hf3_A_0 := blk_frozen BK_A.out 0; have hf3_A_1 := blk_frozen BK_A.out 1; have hc3_R_0 : w3.cell? ⟨g_R, 0, none⟩ = some (.int .i64 0) := (blk_cell BK_R.out 0).trans rfl; have hc3_R_1 : w3.cell? ⟨g_R, 1, none⟩ = some (.int .i64 0) := (blk_cell BK_R.out 1).trans rfl; have hc3_R_2 : w3.cell? ⟨g_R, 2, none⟩ = some (.int .i64 0) := (blk_cell BK_R.out 2).trans rfl; have hc3_R_3 : w3.cell? ⟨g_R, 3, none⟩ = some (.nilFunc) := (blk_cell BK_R.out 3).trans rfl; have hf3_R_0 := blk_frozen BK_R.out 0; have hf3_R_1 := blk_frozen BK_R.out 1; have hf3_R_2 := blk_frozen BK_R.out 2; have hf3_R_3 := blk_frozen BK_R.out 3) | ((with_reducible refine gate_dst (N := 3) rfl ?_); refine box_event ?hg (N := 3) ?hd (cs := #[.bool false]) (t := 4) ?hr ?_; (case hd => rfl); (case hg => rfl); (case hr => first | (go_simp; done) | (go_simp; rfl)); intro g_S hg w4 hbox hb; have GE_S := Aside0.mk (by rw [hg]; exact (below_size (by repeat (first | (with_reducible first | exact HB.out | apply below_alloc | apply pw_below_drewN | apply below_drew1 | refine below_set ?_ GE_A.out | refine below_set ?_ GE_R.out) | exact HB.out))) : w.heap.size ≤ g_S); have NE_A_S := Aside0.mk (by rw [hg]; exact Nat.ne_of_lt (blk_lt (o := .cells #[.int .i64 a, .int .i64 g] 23 (0, 0)) (by (with_reducible repeat (first | refine blk_drewN ?_ _ | refine blk_drew ?_ | refine blk_alloc ?_ _)); exact BK_A.out)) : g_A ≠ g_S); have NE_S_A := Aside0.mk (Ne.symm NE_A_S.out); have ne_A_S := NE_A_S.out; have ne_S_A := NE_S_A.out; have NE_R_S := Aside0.mk (by rw [hg]; exact Nat.ne_of_lt (blk_lt (o := .cells #[.int .i64 0, .int .i64 0, .int .i64 0, .nilFunc] 44 (0, 0)) (by (with_reducible repeat (first | refine blk_drewN ?_ _ | refine blk_drew ?_ | refine blk_alloc ?_ _)); exact BK_R.out)) : g_R ≠ g_S); have NE_S_R := Aside0.mk (Ne.symm NE_R_S.out); have ne_R_S := NE_R_S.out; have ne_S_R := NE_S_R.out; have m_A := Aside0.mk (blk_below (g := g_A) (o := .cells #[.int .i64 a, .int .i64 g] 23 (0, 0)) (by (with_reducible repeat (first | refine blk_drewN ?_ _ | refine blk_drew ?_ | refine blk_alloc ?_ _)); exact BK_A.out) hb); have m_R := Aside0.mk (blk_below (g := g_R) (o := .cells #[.int .i64 0, .int .i64 0, .int .i64 0, .nilFunc] 44 (0, 0)) (by (with_reducible repeat (first | refine blk_drewN ?_ _ | refine blk_drew ?_ | refine blk_alloc ?_ _)); exact BK_R.out) hb); have m_HB := Aside0.mk (below_step (by repeat (first | (with_reducible first | exact HB.out | apply below_alloc | apply pw_below_drewN | apply below_drew1 | refine below_set ?_ GE_A.out | refine below_set ?_ GE_R.out) | exact HB.out)) hb); have k_S := Aside0.mk hbox; clear hb hbox hg; clear HB; clear BK_A; clear BK_R; have HB := m_HB; have BK_A := m_A; have BK_R := m_R; clear m_HB; clear m_A; clear m_R; have BK_S := k_S; clear k_S; have hc4_A_0 : w4.cell? ⟨g_A, 0, none⟩ = some (.int .i64 a) := (blk_cell BK_A.out 0).trans rfl; have hc4_A_1 : w4.cell? ⟨g_A, 1, none⟩ = some (.int .i64 g) := (blk_cell BK_A.out 1).trans rfl; have hf4_A_0 := blk_frozen BK_A.out 0; have hf4_A_1 := blk_frozen BK_A.out 1; have hc4_R_0 : w4.cell? ⟨g_R, 0, none⟩ = some (.int .i64 0) := (blk_cell BK_R.out 0).trans rfl; have hc4_R_1 : w4.cell? ⟨g_R, 1, none⟩ = some (.int .i64 0) := (blk_cell BK_R.out 1).trans rfl; have hc4_R_2 : w4.cell? ⟨g_R, 2, none⟩ = some (.int .i64 0) := (blk_cell BK_R.out 2).trans rfl; have hc4_R_3 : w4.cell? ⟨g_R, 3, none⟩ = some (.nilFunc) := (blk_cell BK_R.out 3).trans rfl; have hf4_R_0 := blk_frozen BK_R.out 0; have hf4_R_1 := blk_frozen BK_R.out 1; have hf4_R_2 := blk_frozen BK_R.out 2; have hf4_R_3 := blk_frozen BK_R.out 3; have hc4_S_0 : w4.cell? ⟨g_S, 0, none⟩ = some (.bool false) := (blk_cell BK_S.out 0).trans rfl; have hf4_S_0 := blk_frozen BK_S.out 0))
  refine bodyPost_ret (results_cell_row rfl _ _ g_R 44 #[.int .i64 a, .int .i64 g, .int .i64 m, .func (.func 38) #[] #[.pointer (some ⟨g_S, 0, none⟩)]] (0, 0) _ rfl (by (with_reducible repeat (first | refine blk_drewN ?_ _ | refine blk_drew ?_ | refine blk_alloc ?_ _)); refine blk_put (cs := #[.int .i64 a, .int .i64 g, .int .i64 m, .nilFunc]) ?_ 3 _ rfl; (with_reducible repeat (first | refine blk_drewN ?_ _ | refine blk_drew ?_ | refine blk_alloc ?_ _)); refine blk_put (cs := #[.int .i64 a, .int .i64 g, .int .i64 0, .nilFunc]) ?_ 2 _ rfl; (with_reducible repeat (first | refine blk_drewN ?_ _ | refine blk_drew ?_ | refine blk_alloc ?_ _)); refine blk_put (cs := #[.int .i64 a, .int .i64 0, .int .i64 0, .nilFunc]) ?_ 1 _ rfl; (with_reducible repeat (first | refine blk_drewN ?_ _ | refine blk_drew ?_ | refine blk_alloc ?_ _)); refine blk_put (cs := #[.int .i64 0, .int .i64 0, .int .i64 0, .nilFunc]) ?_ 0 _ rfl; (with_reducible repeat (first | refine blk_drewN ?_ _ | refine blk_drew ?_ | refine blk_alloc ?_ _)); refine blk_far ?_ NE_R_S.out _; (with_reducible repeat (first | refine blk_drewN ?_ _ | refine blk_drew ?_ | refine blk_alloc ?_ _)); exact BK_R.out) Try.underlying44 rfl (by kernel_rfl)) rfl ?_
  exact ⟨g_S, rfl, GE_S.out, by (with_reducible repeat (first | refine blk_drewN ?_ _ | refine blk_drew ?_ | refine blk_alloc ?_ _)); refine blk_far ?_ NE_S_R.out _; (with_reducible repeat (first | refine blk_drewN ?_ _ | refine blk_drew ?_ | refine blk_alloc ?_ _)); refine blk_far ?_ NE_S_R.out _; (with_reducible repeat (first | refine blk_drewN ?_ _ | refine blk_drew ?_ | refine blk_alloc ?_ _)); refine blk_far ?_ NE_S_R.out _; (with_reducible repeat (first | refine blk_drewN ?_ _ | refine blk_drew ?_ | refine blk_alloc ?_ _)); refine blk_far ?_ NE_S_R.out _; (with_reducible repeat (first | refine blk_drewN ?_ _ | refine blk_drew ?_ | refine blk_alloc ?_ _)); refine blk_put (cs := #[.bool false]) ?_ 0 _ rfl; (with_reducible repeat (first | refine blk_drewN ?_ _ | refine blk_drew ?_ | refine blk_alloc ?_ _)); exact BK_S.out, by repeat (first | (with_reducible first | exact HB.out | apply below_alloc | apply pw_below_drewN | apply below_drew1 | refine below_set ?_ GE_A.out | refine below_set ?_ GE_R.out | refine below_set ?_ GE_S.out) | exact HB.out)⟩
def inT (t : Int) : Bool := decide (-1099511627776 ≤ t) && decide (t ≤ 1099511627776)
theorem within_inT (t : Int) : lattice_within.f t (-1099511627776) 1099511627776 = some (inT t) := by
  unfold lattice_within.f inT
  by_cases h : t ≥ (-1099511627776)
  · rw [if_pos h, decide_eq_true h]
    simp
  · rw [if_neg h, decide_eq_false h]
    simp
set_option maxHeartbeats 1000000 in
set_option maxRecDepth 100000 in
theorem lat_may_true (t : Int) (b : Nat) (w : World) (hb : w.heap[b]? = some (.cells #[.bool true] 4 (0, 0))) :
    Calls Try.prog 38 #[.int .i64 t, .pointer (some ⟨b, 0, none⟩)] w fun e w' => e = .returned (.bool (inT t)) ∧ Drawn0 w w' := by
  have hc : w.cell? ⟨b, 0, none⟩ = some (.bool true) := (blk_cell hb 0).trans rfl
  have hi := Aside0.mk (within_inT t)
  clear hb
  go_enter Try.func38, Try.ntmps38
  go_wp2_with (go_at_call 26; (with_reducible refine (lattice_within.calls t (-1099511627776) 1099511627776 (inT t) _ hi.out).mono ?_); rintro e w' ⟨rfl, ⟨nd, rfl⟩⟩)
  go_ret
  exact ⟨by first | rfl | (simp; done), by repeat (first | exact Drawn0.refl _ | apply Drawn0.step)⟩
set_option maxHeartbeats 1000000 in
set_option maxRecDepth 100000 in
theorem lat_may_false (t : Int) (b : Nat) (w : World) (hb : w.heap[b]? = some (.cells #[.bool false] 4 (0, 0))) :
    Calls Try.prog 38 #[.int .i64 t, .pointer (some ⟨b, 0, none⟩)] w fun e w' => e = .returned (.bool (false)) ∧ Drawn0 w w' := by
  have hc : w.cell? ⟨b, 0, none⟩ = some (.bool false) := (blk_cell hb 0).trans rfl
  have hi := Aside0.mk (within_inT t)
  clear hb
  go_enter Try.func38, Try.ntmps38
  go_wp2_with (go_at_call 26; (with_reducible refine (lattice_within.calls t (-1099511627776) 1099511627776 (inT t) _ hi.out).mono ?_); rintro e w' ⟨rfl, ⟨nd, rfl⟩⟩)
  go_ret
  exact ⟨by first | rfl | (simp; done), by repeat (first | exact Drawn0.refl _ | apply Drawn0.step)⟩
theorem w64' {x : Int} (h1 : -9223372036854775808 ≤ x) (h2 : x ≤ 9223372036854775807) : wrap64 x = x := by
  unfold wrap64
  omega
theorem parts_bound (gr t : Int) (h1 : 1 ≤ gr) (hg : gr ≤ 20000) (ht1 : -4398046511104 ≤ t) (ht2 : t ≤ 4398046511104) :
    -4398046600000 ≤ t.tdiv gr ∧ t.tdiv gr ≤ 4398046600000 ∧ -gr < t.tmod gr ∧ t.tmod gr < gr ∧ gr * t.tdiv gr + t.tmod gr = t := by
  have e := Int.mul_tdiv_add_tmod t gr
  have b1 := Int.tmod_lt_of_pos t (show 0 < gr by omega)
  have b2 := Int.tmod_lt_of_pos (-t) (show 0 < gr by omega)
  rw [Int.neg_tmod] at b2
  refine ⟨?_, ?_, by omega, b1, e⟩
  · by_cases hq : t.tdiv gr ≤ -1
    · have h6 : gr * t.tdiv gr ≤ 1 * t.tdiv gr := Int.mul_le_mul_of_nonpos_right (by omega) (by omega)
      omega
    · omega
  · by_cases hq : 0 ≤ t.tdiv gr
    · have h6 : 1 * t.tdiv gr ≤ gr * t.tdiv gr := Int.mul_le_mul_of_nonneg_right (by omega) hq
      omega
    · omega
theorem parts_fact_neg (gr t : Int) (h1 : 1 ≤ gr) (hs : t.tmod gr < 0) (hg : gr ≤ 20000) (ht1 : -4398046511104 ≤ t) (ht2 : t ≤ 4398046511104) :
    wrap64 (wrap64 (t.tdiv gr) - 1) = t / gr ∧ wrap64 (t.tmod gr + gr) = t % gr := by
  obtain ⟨b1, b2, b3, b4, e⟩ := parts_bound gr t h1 hg ht1 ht2
  rw [w64' (x := t.tdiv gr) (by omega) (by omega), w64' (by omega) (by omega), w64' (by omega) (by omega)]
  have h := (Int.ediv_emod_unique (a := t) (b := gr) (r := t.tmod gr + gr) (q := t.tdiv gr - 1) (by omega)).2 ⟨by rw [Int.mul_sub]; omega, by omega, by omega⟩
  exact ⟨h.1.symm, h.2.symm⟩
theorem parts_fact_pos (gr t : Int) (h1 : 1 ≤ gr) (hs : 0 ≤ t.tmod gr) (hg : gr ≤ 20000) (ht1 : -4398046511104 ≤ t) (ht2 : t ≤ 4398046511104) :
    wrap64 (t.tdiv gr) = t / gr ∧ t.tmod gr = t % gr := by
  obtain ⟨b1, b2, b3, b4, e⟩ := parts_bound gr t h1 hg ht1 ht2
  rw [w64' (x := t.tdiv gr) (by omega) (by omega)]
  have h := (Int.ediv_emod_unique (a := t) (b := gr) (r := t.tmod gr) (q := t.tdiv gr) (by omega)).2 ⟨by omega, by omega, by omega⟩
  exact ⟨h.1.symm, h.2.symm⟩
set_option maxHeartbeats 1000000 in
set_option maxRecDepth 100000 in
theorem lat_parts_neg (x y gr t : Int) (b : Nat) (w : World) (h1 : 1 ≤ gr) (hs : t.tmod gr < 0) :
    Calls Try.prog 30 #[.agg #[.int .i64 x, .int .i64 y, .int .i64 gr, .func (.func 38) #[] #[.pointer (some ⟨b, 0, none⟩)]], .int .i64 t] w fun e w' => ∃ n l : Int, e = .returned (.tuple #[.int .i64 n, .int .i64 l]) ∧ (gr ≤ 20000 → -4398046511104 ≤ t → t ≤ 4398046511104 → n = t / gr ∧ l = t % gr) ∧ Below w.heap.size w w' := by
  have hu44 := Try.underlying44
  have hq : ¬ gr = 0 := by omega
  have hq1 : (gr == 0) = false := beq_eq_false_iff_ne.mpr hq
  have HB := Aside0.mk (Below.refl w.heap.size w)
  have hd := hs
  go_enter Try.func30, Try.ntmps30
  go_wp2_with (((with_reducible refine gate_dst (N := 2) rfl ?_); refine box_event ?hg (N := 2) ?hd (cs := #[.int .i64 x, .int .i64 y, .int .i64 gr, .func (.func 38) #[] #[.pointer (some ⟨b, 0, none⟩)]]) (t := 44) ?hr ?_; (case hd => rfl); (case hg => rfl); (case hr => first | (go_simp; done) | (go_simp; rfl)); intro g_A hg w1 hbox hb; have GE_A := Aside0.mk (by rw [hg]; exact (below_size (by repeat (first | (with_reducible first | exact HB.out | apply below_alloc | apply pw_below_drewN | apply below_drew1) | exact HB.out))) : w.heap.size ≤ g_A); have m_HB := Aside0.mk (below_step (by repeat (first | (with_reducible first | exact HB.out | apply below_alloc | apply pw_below_drewN | apply below_drew1) | exact HB.out)) hb); have k_A := Aside0.mk hbox; clear hb hbox hg; clear HB; have HB := m_HB; clear m_HB; have BK_A := k_A; clear k_A; have hc1_A_0 : w1.cell? ⟨g_A, 0, none⟩ = some (.int .i64 x) := (blk_cell BK_A.out 0).trans rfl; have hc1_A_1 : w1.cell? ⟨g_A, 1, none⟩ = some (.int .i64 y) := (blk_cell BK_A.out 1).trans rfl; have hc1_A_2 : w1.cell? ⟨g_A, 2, none⟩ = some (.int .i64 gr) := (blk_cell BK_A.out 2).trans rfl; have hc1_A_3 : w1.cell? ⟨g_A, 3, none⟩ = some (.func (.func 38) #[] #[.pointer (some ⟨b, 0, none⟩)]) := (blk_cell BK_A.out 3).trans rfl; have hf1_A_0 := blk_frozen BK_A.out 0; have hf1_A_1 := blk_frozen BK_A.out 1; have hf1_A_2 := blk_frozen BK_A.out 2; have hf1_A_3 := blk_frozen BK_A.out 3))
  go_quiet (fail)
  go_wp2
  go_quiet (fail)
  go_wp2
  go_ret2
  exact ⟨_, _, rfl, fun hg ht1 ht2 => parts_fact_neg gr t h1 hs hg ht1 ht2, by repeat (first | (with_reducible first | exact HB.out | apply below_alloc | apply pw_below_drewN | apply below_drew1 | refine below_set ?_ GE_A.out) | exact HB.out)⟩
set_option maxHeartbeats 1000000 in
set_option maxRecDepth 100000 in
theorem lat_parts_pos (x y gr t : Int) (b : Nat) (w : World) (h1 : 1 ≤ gr) (hs : 0 ≤ t.tmod gr) :
    Calls Try.prog 30 #[.agg #[.int .i64 x, .int .i64 y, .int .i64 gr, .func (.func 38) #[] #[.pointer (some ⟨b, 0, none⟩)]], .int .i64 t] w fun e w' => ∃ n l : Int, e = .returned (.tuple #[.int .i64 n, .int .i64 l]) ∧ (gr ≤ 20000 → -4398046511104 ≤ t → t ≤ 4398046511104 → n = t / gr ∧ l = t % gr) ∧ Below w.heap.size w w' := by
  have hu44 := Try.underlying44
  have hq : ¬ gr = 0 := by omega
  have hq1 : (gr == 0) = false := beq_eq_false_iff_ne.mpr hq
  have HB := Aside0.mk (Below.refl w.heap.size w)
  have hd := hs
  go_enter Try.func30, Try.ntmps30
  go_wp2_with (((with_reducible refine gate_dst (N := 2) rfl ?_); refine box_event ?hg (N := 2) ?hd (cs := #[.int .i64 x, .int .i64 y, .int .i64 gr, .func (.func 38) #[] #[.pointer (some ⟨b, 0, none⟩)]]) (t := 44) ?hr ?_; (case hd => rfl); (case hg => rfl); (case hr => first | (go_simp; done) | (go_simp; rfl)); intro g_A hg w1 hbox hb; have GE_A := Aside0.mk (by rw [hg]; exact (below_size (by repeat (first | (with_reducible first | exact HB.out | apply below_alloc | apply pw_below_drewN | apply below_drew1) | exact HB.out))) : w.heap.size ≤ g_A); have m_HB := Aside0.mk (below_step (by repeat (first | (with_reducible first | exact HB.out | apply below_alloc | apply pw_below_drewN | apply below_drew1) | exact HB.out)) hb); have k_A := Aside0.mk hbox; clear hb hbox hg; clear HB; have HB := m_HB; clear m_HB; have BK_A := k_A; clear k_A; have hc1_A_0 : w1.cell? ⟨g_A, 0, none⟩ = some (.int .i64 x) := (blk_cell BK_A.out 0).trans rfl; have hc1_A_1 : w1.cell? ⟨g_A, 1, none⟩ = some (.int .i64 y) := (blk_cell BK_A.out 1).trans rfl; have hc1_A_2 : w1.cell? ⟨g_A, 2, none⟩ = some (.int .i64 gr) := (blk_cell BK_A.out 2).trans rfl; have hc1_A_3 : w1.cell? ⟨g_A, 3, none⟩ = some (.func (.func 38) #[] #[.pointer (some ⟨b, 0, none⟩)]) := (blk_cell BK_A.out 3).trans rfl; have hf1_A_0 := blk_frozen BK_A.out 0; have hf1_A_1 := blk_frozen BK_A.out 1; have hf1_A_2 := blk_frozen BK_A.out 2; have hf1_A_3 := blk_frozen BK_A.out 3))
  go_quiet (fail)
  go_wp2
  go_ret2
  exact ⟨_, _, rfl, fun hg ht1 ht2 => parts_fact_pos gr t h1 hs hg ht1 ht2, by repeat (first | (with_reducible first | exact HB.out | apply below_alloc | apply pw_below_drewN | apply below_drew1 | refine below_set ?_ GE_A.out) | exact HB.out)⟩
theorem lat_parts (x y gr t : Int) (b : Nat) (w : World) (h1 : 1 ≤ gr) :
    Calls Try.prog 30 #[.agg #[.int .i64 x, .int .i64 y, .int .i64 gr, .func (.func 38) #[] #[.pointer (some ⟨b, 0, none⟩)]], .int .i64 t] w fun e w' => ∃ n l : Int, e = .returned (.tuple #[.int .i64 n, .int .i64 l]) ∧ (gr ≤ 20000 → -4398046511104 ≤ t → t ≤ 4398046511104 → n = t / gr ∧ l = t % gr) ∧ Below w.heap.size w w' := by
  by_cases hs : t.tmod gr < 0
  · exact lat_parts_neg x y gr t b w h1 hs
  · exact lat_parts_pos x y gr t b w h1 (by omega)
theorem lat_may (t : Int) (b : Nat) (r : Bool) (w : World) (hb : w.heap[b]? = some (.cells #[.bool r] 4 (0, 0))) (m : Bool) (hm : (r && inT t) = m) :
    Calls Try.prog 38 #[.int .i64 t, .pointer (some ⟨b, 0, none⟩)] w fun e w' => e = .returned (.bool m) ∧ Drawn0 w w' := by
  cases r with
  | true => subst hm; simpa using lat_may_true t b w hb
  | false => subst hm; simpa using lat_may_false t b w hb
set_option maxHeartbeats 1000000 in
set_option maxRecDepth 100000 in
theorem lat_epoch (a g gr t : Int) (b : Nat) (w : World) (h1 : 1 ≤ gr) :
    Calls Try.prog 34 #[.agg #[.int .i64 a, .int .i64 g, .int .i64 gr, .func (.func 38) #[] #[.pointer (some ⟨b, 0, none⟩)]], .int .i64 t] w fun e w' => ∃ n : Int, e = .returned (.int .i64 n) ∧ (gr ≤ 20000 → 1 ≤ g → g ≤ 10000 → -2199023255552 ≤ t → t ≤ 2199023255552 → n = (t + g / 2) / gr) ∧ Below w.heap.size w w' := by
  have hu44 := Try.underlying44
  have hu23 := Try.underlying23
  have HB := Aside0.mk (Below.refl w.heap.size w)
  go_enter Try.func34, Try.ntmps34
  go_wp2_with (first | ((with_reducible refine gate_dst (N := 2) rfl ?_); refine box_event ?hg (N := 2) ?hd (cs := #[.int .i64 a, .int .i64 g, .int .i64 gr, .func (.func 38) #[] #[.pointer (some ⟨b, 0, none⟩)]]) (t := 44) ?hr ?_; (case hd => rfl); (case hg => rfl); (case hr => first | (go_simp; done) | (go_simp; rfl)); intro g_A hg w1 hbox hb; have GE_A := Aside0.mk (by rw [hg]; exact (below_size (by repeat (first | (with_reducible first | exact HB.out | apply below_alloc | apply pw_below_drewN | apply below_drew1) | exact HB.out))) : w.heap.size ≤ g_A); have m_HB := Aside0.mk (below_step (by repeat (first | (with_reducible first | exact HB.out | apply below_alloc | apply pw_below_drewN | apply below_drew1) | exact HB.out)) hb); have k_A := Aside0.mk hbox; clear hb hbox hg; clear HB; have HB := m_HB; clear m_HB; have BK_A := k_A; clear k_A; have hc1_A_0 : w1.cell? ⟨g_A, 0, none⟩ = some (.int .i64 a) := (blk_cell BK_A.out 0).trans rfl; have hc1_A_1 : w1.cell? ⟨g_A, 1, none⟩ = some (.int .i64 g) := (blk_cell BK_A.out 1).trans rfl; have hc1_A_2 : w1.cell? ⟨g_A, 2, none⟩ = some (.int .i64 gr) := (blk_cell BK_A.out 2).trans rfl; have hc1_A_3 : w1.cell? ⟨g_A, 3, none⟩ = some (.func (.func 38) #[] #[.pointer (some ⟨b, 0, none⟩)]) := (blk_cell BK_A.out 3).trans rfl; have hf1_A_0 := blk_frozen BK_A.out 0; have hf1_A_1 := blk_frozen BK_A.out 1; have hf1_A_2 := blk_frozen BK_A.out 2; have hf1_A_3 := blk_frozen BK_A.out 3) | (go_at_call 30; (with_reducible refine (lat_parts a g gr _ b _ h1).mono ?_); rintro e w2 ⟨n, l, rfl, hn, hb⟩; have Hn := Aside0.mk hn; clear hn; have m_A := Aside0.mk (blk_below (g := g_A) (o := .cells #[.int .i64 a, .int .i64 g, .int .i64 gr, .func (.func 38) #[] #[.pointer (some ⟨b, 0, none⟩)]] 44 (0, 0)) (by (with_reducible repeat (first | refine blk_drewN ?_ _ | refine blk_drew ?_ | refine blk_alloc ?_ _)); exact BK_A.out) hb); have m_HB := Aside0.mk (below_step (by repeat (first | (with_reducible first | exact HB.out | apply below_alloc | apply pw_below_drewN | apply below_drew1 | refine below_set ?_ GE_A.out) | exact HB.out)) hb); clear hb; clear HB; clear BK_A; have HB := m_HB; have BK_A := m_A; clear m_HB; clear m_A; have hc2_A_0 : w2.cell? ⟨g_A, 0, none⟩ = some (.int .i64 a) := (blk_cell BK_A.out 0).trans rfl; have hc2_A_1 : w2.cell? ⟨g_A, 1, none⟩ = some (.int .i64 g) := (blk_cell BK_A.out 1).trans rfl; have hc2_A_2 : w2.cell? ⟨g_A, 2, none⟩ = some (.int .i64 gr) := (blk_cell BK_A.out 2).trans rfl; have hc2_A_3 : w2.cell? ⟨g_A, 3, none⟩ = some (.func (.func 38) #[] #[.pointer (some ⟨b, 0, none⟩)]) := (blk_cell BK_A.out 3).trans rfl; have hf2_A_0 := blk_frozen BK_A.out 0; have hf2_A_1 := blk_frozen BK_A.out 1; have hf2_A_2 := blk_frozen BK_A.out 2; have hf2_A_3 := blk_frozen BK_A.out 3))
  go_ret
  refine ⟨n, rfl, ?_, by repeat (first | (with_reducible first | exact HB.out | apply below_alloc | apply pw_below_drewN | apply below_drew1 | refine below_set ?_ GE_A.out) | exact HB.out)⟩
  intro hg1 hg2 hg3 ht1 ht2
  have e1 : g.tdiv 2 = g / 2 := Int.tdiv_eq_ediv_of_nonneg (by omega)
  have hh := Hn.out
  rw [e1, w64' (x := g / 2) (by omega) (by omega), w64' (x := t + g / 2) (by omega) (by omega)] at hh
  exact (hh hg1 (by omega) (by omega)).1
def nextZ (a gr t : Int) : Int := if a ≤ t % gr then (t / gr + 1) * gr else t
theorem next_fact (gr t : Int) (h1 : 1 ≤ gr) (hg : gr ≤ 20000) (ht1 : -4398046511104 ≤ t) (ht2 : t ≤ 4398046511104) : wrap64 (wrap64 (t / gr + 1) * gr) = (t / gr + 1) * gr := by
  have e := Int.mul_ediv_add_emod t gr
  have h3 := Int.emod_nonneg t (show gr ≠ 0 by omega)
  have h4 := Int.emod_lt_of_pos t (show 0 < gr by omega)
  have b1 : -4398046600000 ≤ t / gr ∧ t / gr ≤ 4398046600000 := by
    constructor
    · by_cases hq : t / gr ≤ -1
      · have h6 : gr * (t / gr) ≤ 1 * (t / gr) := Int.mul_le_mul_of_nonpos_right (by omega) (by omega)
        omega
      · omega
    · by_cases hq : 0 ≤ t / gr
      · have h6 : 1 * (t / gr) ≤ gr * (t / gr) := Int.mul_le_mul_of_nonneg_right (by omega) hq
        omega
      · omega
  rw [w64' (x := t / gr + 1) (by omega) (by omega)]
  have e2 : (t / gr + 1) * gr = gr * (t / gr) + gr := by rw [Int.add_mul, Int.mul_comm]; omega
  rw [e2]
  exact w64' (by omega) (by omega)
set_option maxHeartbeats 1000000 in
set_option maxRecDepth 100000 in
theorem lat_next1 (a g gr t : Int) (b g_G g_T g_L : Nat) (w : World) (h1 : 1 ≤ gr) (hG : w.heap[g_G]? = some (.cells #[.int .i64 a, .int .i64 g, .int .i64 gr, .func (.func 38) #[] #[.pointer (some ⟨b, 0, none⟩)]] 44 (0, 0))) (hT : w.heap[g_T]? = some (.cells #[.int .i64 t] 3 (0, 0))) (hL : w.heap[g_L]? = some (.cells #[.int .i64 a, .int .i64 g] 23 (0, 0))) :
    Calls Try.prog 29 #[.pointer (some ⟨g_G, 0, none⟩), .pointer (some ⟨g_T, 0, none⟩), .pointer (some ⟨g_L, 0, none⟩)] w fun e w' => ∃ v : Int, e = .returned (.int .i64 v) ∧ (gr ≤ 20000 → -4398046511104 ≤ t → t ≤ 4398046511104 → v = nextZ a gr t) ∧ Below w.heap.size w w' := by
  have hu44 := Try.underlying44
  have hu23 := Try.underlying23
  have HB := Aside0.mk (Below.refl w.heap.size w)
  have BK_G := Aside0.mk hG
  have BK_T := Aside0.mk hT
  have BK_L := Aside0.mk hL
  clear hG hT hL
  have hc1_G_0 : w.cell? ⟨g_G, 0, none⟩ = some (.int .i64 a) := (blk_cell BK_G.out 0).trans rfl
  have hc1_G_1 : w.cell? ⟨g_G, 1, none⟩ = some (.int .i64 g) := (blk_cell BK_G.out 1).trans rfl
  have hc1_G_2 : w.cell? ⟨g_G, 2, none⟩ = some (.int .i64 gr) := (blk_cell BK_G.out 2).trans rfl
  have hc1_G_3 : w.cell? ⟨g_G, 3, none⟩ = some (.func (.func 38) #[] #[.pointer (some ⟨b, 0, none⟩)]) := (blk_cell BK_G.out 3).trans rfl
  have hf1_G_0 := blk_frozen BK_G.out 0
  have hf1_G_1 := blk_frozen BK_G.out 1
  have hf1_G_2 := blk_frozen BK_G.out 2
  have hf1_G_3 := blk_frozen BK_G.out 3
  have hc1_T_0 : w.cell? ⟨g_T, 0, none⟩ = some (.int .i64 t) := (blk_cell BK_T.out 0).trans rfl
  have hf1_T_0 := blk_frozen BK_T.out 0
  have hc1_L_0 : w.cell? ⟨g_L, 0, none⟩ = some (.int .i64 a) := (blk_cell BK_L.out 0).trans rfl
  have hc1_L_1 : w.cell? ⟨g_L, 1, none⟩ = some (.int .i64 g) := (blk_cell BK_L.out 1).trans rfl
  have hf1_L_0 := blk_frozen BK_L.out 0
  have hf1_L_1 := blk_frozen BK_L.out 1
  go_enter Try.func29, Try.ntmps29
  go_wp2_with ((go_at_call 30; (with_reducible refine (lat_parts a g gr t b _ h1).mono ?_); rintro e w2 ⟨n, l, rfl, hn, hb⟩; have Hn := Aside0.mk hn; clear hn; have m_G := Aside0.mk (blk_below (g := g_G) (o := .cells #[.int .i64 a, .int .i64 g, .int .i64 gr, .func (.func 38) #[] #[.pointer (some ⟨b, 0, none⟩)]] 44 (0, 0)) (by (with_reducible repeat (first | refine blk_drewN ?_ _ | refine blk_drew ?_ | refine blk_alloc ?_ _)); exact BK_G.out) hb); have m_T := Aside0.mk (blk_below (g := g_T) (o := .cells #[.int .i64 t] 3 (0, 0)) (by (with_reducible repeat (first | refine blk_drewN ?_ _ | refine blk_drew ?_ | refine blk_alloc ?_ _)); exact BK_T.out) hb); have m_L := Aside0.mk (blk_below (g := g_L) (o := .cells #[.int .i64 a, .int .i64 g] 23 (0, 0)) (by (with_reducible repeat (first | refine blk_drewN ?_ _ | refine blk_drew ?_ | refine blk_alloc ?_ _)); exact BK_L.out) hb); have m_HB := Aside0.mk (below_step (by repeat (first | (with_reducible first | exact HB.out | apply below_alloc | apply pw_below_drewN | apply below_drew1 | refine below_set ?_ GE_G.out | refine below_set ?_ GE_T.out | refine below_set ?_ GE_L.out) | exact HB.out)) hb); clear hb; clear HB; clear BK_G; clear BK_T; clear BK_L; have HB := m_HB; have BK_G := m_G; have BK_T := m_T; have BK_L := m_L; clear m_HB; clear m_G; clear m_T; clear m_L; have hc2_G_0 : w2.cell? ⟨g_G, 0, none⟩ = some (.int .i64 a) := (blk_cell BK_G.out 0).trans rfl; have hc2_G_1 : w2.cell? ⟨g_G, 1, none⟩ = some (.int .i64 g) := (blk_cell BK_G.out 1).trans rfl; have hc2_G_2 : w2.cell? ⟨g_G, 2, none⟩ = some (.int .i64 gr) := (blk_cell BK_G.out 2).trans rfl; have hc2_G_3 : w2.cell? ⟨g_G, 3, none⟩ = some (.func (.func 38) #[] #[.pointer (some ⟨b, 0, none⟩)]) := (blk_cell BK_G.out 3).trans rfl; have hf2_G_0 := blk_frozen BK_G.out 0; have hf2_G_1 := blk_frozen BK_G.out 1; have hf2_G_2 := blk_frozen BK_G.out 2; have hf2_G_3 := blk_frozen BK_G.out 3; have hc2_T_0 : w2.cell? ⟨g_T, 0, none⟩ = some (.int .i64 t) := (blk_cell BK_T.out 0).trans rfl; have hf2_T_0 := blk_frozen BK_T.out 0; have hc2_L_0 : w2.cell? ⟨g_L, 0, none⟩ = some (.int .i64 a) := (blk_cell BK_L.out 0).trans rfl; have hc2_L_1 : w2.cell? ⟨g_L, 1, none⟩ = some (.int .i64 g) := (blk_cell BK_L.out 1).trans rfl; have hf2_L_0 := blk_frozen BK_L.out 0; have hf2_L_1 := blk_frozen BK_L.out 1))
  · go_ret
    refine ⟨_, rfl, ?_, by repeat (first | (with_reducible first | exact HB.out | apply below_alloc | apply pw_below_drewN | apply below_drew1 | refine below_set ?_ GE_G.out | refine below_set ?_ GE_T.out | refine below_set ?_ GE_L.out) | exact HB.out)⟩
    intro hg ht1 ht2
    obtain ⟨e1, e2⟩ := Hn.out hg ht1 ht2
    unfold nextZ
    rw [← e2, if_pos (by assumption), e1]
    exact next_fact gr t h1 hg ht1 ht2
  · go_ret
    refine ⟨_, rfl, ?_, by repeat (first | (with_reducible first | exact HB.out | apply below_alloc | apply pw_below_drewN | apply below_drew1 | refine below_set ?_ GE_G.out | refine below_set ?_ GE_T.out | refine below_set ?_ GE_L.out) | exact HB.out)⟩
    intro hg ht1 ht2
    obtain ⟨e1, e2⟩ := Hn.out hg ht1 ht2
    unfold nextZ
    rw [← e2, if_neg (by omega)]
set_option maxHeartbeats 1000000 in
set_option maxRecDepth 100000 in
theorem lat_epoch1 (a g gr t : Int) (b g_G g_T : Nat) (w : World) (h1 : 1 ≤ gr) (hG : w.heap[g_G]? = some (.cells #[.int .i64 a, .int .i64 g, .int .i64 gr, .func (.func 38) #[] #[.pointer (some ⟨b, 0, none⟩)]] 44 (0, 0))) (hT : w.heap[g_T]? = some (.cells #[.int .i64 t] 3 (0, 0))) :
    Calls Try.prog 33 #[.pointer (some ⟨g_G, 0, none⟩), .pointer (some ⟨g_T, 0, none⟩)] w fun e w' => ∃ v : Int, e = .returned (.int .i64 v) ∧ (gr ≤ 20000 → 1 ≤ g → g ≤ 10000 → -2199023255552 ≤ t → t ≤ 2199023255552 → v = (t + g / 2) / gr) ∧ Below w.heap.size w w' := by
  have hu44 := Try.underlying44
  have HB := Aside0.mk (Below.refl w.heap.size w)
  have BK_G := Aside0.mk hG
  have BK_T := Aside0.mk hT
  clear hG hT
  have hc1_G_0 : w.cell? ⟨g_G, 0, none⟩ = some (.int .i64 a) := (blk_cell BK_G.out 0).trans rfl
  have hc1_G_1 : w.cell? ⟨g_G, 1, none⟩ = some (.int .i64 g) := (blk_cell BK_G.out 1).trans rfl
  have hc1_G_2 : w.cell? ⟨g_G, 2, none⟩ = some (.int .i64 gr) := (blk_cell BK_G.out 2).trans rfl
  have hc1_G_3 : w.cell? ⟨g_G, 3, none⟩ = some (.func (.func 38) #[] #[.pointer (some ⟨b, 0, none⟩)]) := (blk_cell BK_G.out 3).trans rfl
  have hf1_G_0 := blk_frozen BK_G.out 0
  have hf1_G_1 := blk_frozen BK_G.out 1
  have hf1_G_2 := blk_frozen BK_G.out 2
  have hf1_G_3 := blk_frozen BK_G.out 3
  have hc1_T_0 : w.cell? ⟨g_T, 0, none⟩ = some (.int .i64 t) := (blk_cell BK_T.out 0).trans rfl
  have hf1_T_0 := blk_frozen BK_T.out 0
  go_enter Try.func33, Try.ntmps33
  go_wp2_with ((go_at_call 34; (with_reducible refine (lat_epoch a g gr t b _ h1).mono ?_); rintro e w2 ⟨n, rfl, hn, hb⟩; have Hn := Aside0.mk hn; clear hn; have m_G := Aside0.mk (blk_below (g := g_G) (o := .cells #[.int .i64 a, .int .i64 g, .int .i64 gr, .func (.func 38) #[] #[.pointer (some ⟨b, 0, none⟩)]] 44 (0, 0)) (by (with_reducible repeat (first | refine blk_drewN ?_ _ | refine blk_drew ?_ | refine blk_alloc ?_ _)); exact BK_G.out) hb); have m_T := Aside0.mk (blk_below (g := g_T) (o := .cells #[.int .i64 t] 3 (0, 0)) (by (with_reducible repeat (first | refine blk_drewN ?_ _ | refine blk_drew ?_ | refine blk_alloc ?_ _)); exact BK_T.out) hb); have m_HB := Aside0.mk (below_step (by repeat (first | (with_reducible first | exact HB.out | apply below_alloc | apply pw_below_drewN | apply below_drew1 | refine below_set ?_ GE_G.out | refine below_set ?_ GE_T.out) | exact HB.out)) hb); clear hb; clear HB; clear BK_G; clear BK_T; have HB := m_HB; have BK_G := m_G; have BK_T := m_T; clear m_HB; clear m_G; clear m_T; have hc2_G_0 : w2.cell? ⟨g_G, 0, none⟩ = some (.int .i64 a) := (blk_cell BK_G.out 0).trans rfl; have hc2_G_1 : w2.cell? ⟨g_G, 1, none⟩ = some (.int .i64 g) := (blk_cell BK_G.out 1).trans rfl; have hc2_G_2 : w2.cell? ⟨g_G, 2, none⟩ = some (.int .i64 gr) := (blk_cell BK_G.out 2).trans rfl; have hc2_G_3 : w2.cell? ⟨g_G, 3, none⟩ = some (.func (.func 38) #[] #[.pointer (some ⟨b, 0, none⟩)]) := (blk_cell BK_G.out 3).trans rfl; have hf2_G_0 := blk_frozen BK_G.out 0; have hf2_G_1 := blk_frozen BK_G.out 1; have hf2_G_2 := blk_frozen BK_G.out 2; have hf2_G_3 := blk_frozen BK_G.out 3; have hc2_T_0 : w2.cell? ⟨g_T, 0, none⟩ = some (.int .i64 t) := (blk_cell BK_T.out 0).trans rfl; have hf2_T_0 := blk_frozen BK_T.out 0))
  go_ret
  exact ⟨n, rfl, Hn.out, by repeat (first | (with_reducible first | exact HB.out | apply below_alloc | apply pw_below_drewN | apply below_drew1 | refine below_set ?_ GE_G.out | refine below_set ?_ GE_T.out) | exact HB.out)⟩
set_option maxHeartbeats 1000000 in
set_option maxRecDepth 100000 in
theorem lat_begin1 (a g gr t : Int) (b g_G g_T : Nat) (w : World) (hG : w.heap[g_G]? = some (.cells #[.int .i64 a, .int .i64 g, .int .i64 gr, .func (.func 38) #[] #[.pointer (some ⟨b, 0, none⟩)]] 44 (0, 0))) (hT : w.heap[g_T]? = some (.cells #[.int .i64 t] 3 (0, 0))) :
    Calls Try.prog 37 #[.pointer (some ⟨g_T, 0, none⟩), .pointer (some ⟨g_G, 0, none⟩)] w fun e w' => ∃ v : Int, e = .returned (.int .i64 v) ∧ v = wrap64 (t * gr) ∧ Below w.heap.size w w' := by
  have hu44 := Try.underlying44
  have HB := Aside0.mk (Below.refl w.heap.size w)
  have BK_G := Aside0.mk hG
  have BK_T := Aside0.mk hT
  clear hG hT
  have hc1_G_0 : w.cell? ⟨g_G, 0, none⟩ = some (.int .i64 a) := (blk_cell BK_G.out 0).trans rfl
  have hc1_G_1 : w.cell? ⟨g_G, 1, none⟩ = some (.int .i64 g) := (blk_cell BK_G.out 1).trans rfl
  have hc1_G_2 : w.cell? ⟨g_G, 2, none⟩ = some (.int .i64 gr) := (blk_cell BK_G.out 2).trans rfl
  have hc1_G_3 : w.cell? ⟨g_G, 3, none⟩ = some (.func (.func 38) #[] #[.pointer (some ⟨b, 0, none⟩)]) := (blk_cell BK_G.out 3).trans rfl
  have hf1_G_0 := blk_frozen BK_G.out 0
  have hf1_G_1 := blk_frozen BK_G.out 1
  have hf1_G_2 := blk_frozen BK_G.out 2
  have hf1_G_3 := blk_frozen BK_G.out 3
  have hc1_T_0 : w.cell? ⟨g_T, 0, none⟩ = some (.int .i64 t) := (blk_cell BK_T.out 0).trans rfl
  have hf1_T_0 := blk_frozen BK_T.out 0
  go_enter Try.func37, Try.ntmps37
  go_wp2
  go_ret
  exact ⟨_, rfl, rfl, by repeat (first | (with_reducible first | exact HB.out | apply below_alloc | apply pw_below_drewN | apply below_drew1 | refine below_set ?_ GE_G.out | refine below_set ?_ GE_T.out) | exact HB.out)⟩
set_option maxHeartbeats 1000000 in
set_option maxRecDepth 100000 in
theorem lat_guard_no (x y gr t0 : Int) (g_S g_T : Nat) (r : Bool) (F : Nat) (caps : Array Value) (w : World) (hS : w.heap[g_S]? = some (.cells #[.bool r] 4 (0, 0))) (hT : w.heap[g_T]? = some (.cells #[.int .i64 t0] 3 (0, 0))) (hm0_ : (r && inT t0) = false) :
    Calls Try.prog 28 #[.agg #[.int .i64 x, .int .i64 y, .int .i64 gr, .func (.func 38) #[] #[.pointer (some ⟨g_S, 0, none⟩)]], .func (.func F) #[] caps, .slice (some ⟨g_T, 0, none⟩) 1 1] w fun e w' => e = .returned (.tuple #[.int .i64 0, .int .i64 1]) ∧ Below w.heap.size w w' := by
  have hu44 := Try.underlying44
  have HB := Aside0.mk (Below.refl w.heap.size w)
  have BK_S := Aside0.mk hS
  have BK_T := Aside0.mk hT
  clear hS hT
  have hm0 := Aside0.mk hm0_
  clear hm0_
  go_enter Try.func28, Try.ntmps28
  go_wp2_with (((with_reducible refine gate_dst (N := 3) rfl ?_); refine box_event ?hg (N := 3) ?hd (cs := #[.int .i64 x, .int .i64 y, .int .i64 gr, .func (.func 38) #[] #[.pointer (some ⟨g_S, 0, none⟩)]]) (t := 44) ?hr ?_; (case hd => rfl); (case hg => rfl); (case hr => first | (go_simp; done) | (go_simp; rfl)); intro g_A hg w1 hbox hb; have GE_A := Aside0.mk (by rw [hg]; exact (below_size (HB.out)) : w.heap.size ≤ g_A); have m_S := Aside0.mk (blk_below (g := g_S) (o := .cells #[.bool r] 4 (0, 0)) (BK_S.out) hb); have m_T := Aside0.mk (blk_below (g := g_T) (o := .cells #[.int .i64 t0] 3 (0, 0)) (BK_T.out) hb); have m_HB := Aside0.mk (below_step (HB.out) hb); have k_A := Aside0.mk hbox; clear hb hbox hg; clear HB; clear BK_S; clear BK_T; have HB := m_HB; have BK_S := m_S; have BK_T := m_T; clear m_HB; clear m_S; clear m_T; have BK_A := k_A; clear k_A; have hc1_S_0 : w1.cell? ⟨g_S, 0, none⟩ = some (.bool r) := (blk_cell BK_S.out 0).trans rfl; have hc1_T_0 : w1.cell? ⟨g_T, 0, none⟩ = some (.int .i64 t0) := (blk_cell BK_T.out 0).trans rfl; have hc1_A_0 : w1.cell? ⟨g_A, 0, none⟩ = some (.int .i64 x) := (blk_cell BK_A.out 0).trans rfl; have hc1_A_1 : w1.cell? ⟨g_A, 1, none⟩ = some (.int .i64 y) := (blk_cell BK_A.out 1).trans rfl; have hc1_A_2 : w1.cell? ⟨g_A, 2, none⟩ = some (.int .i64 gr) := (blk_cell BK_A.out 2).trans rfl; have hc1_A_3 : w1.cell? ⟨g_A, 3, none⟩ = some (.func (.func 38) #[] #[.pointer (some ⟨g_S, 0, none⟩)]) := (blk_cell BK_A.out 3).trans rfl; have hf1_A_0 := blk_frozen BK_A.out 0; have hf1_A_1 := blk_frozen BK_A.out 1; have hf1_A_2 := blk_frozen BK_A.out 2; have hf1_A_3 := blk_frozen BK_A.out 3))
  refine wp_loop_rounds 1 ?_
  rw [rounds_succ]
  go_wp2_with ((go_at_call 38; (with_reducible refine (lat_may t0 g_S r _ (BK_S.out) false hm0.out).mono ?_); rintro e w2 ⟨rfl, hd⟩; have hb := hd.below; clear hd; have m_S := Aside0.mk (blk_below (g := g_S) (o := .cells #[.bool r] 4 (0, 0)) (BK_S.out) hb); have m_T := Aside0.mk (blk_below (g := g_T) (o := .cells #[.int .i64 t0] 3 (0, 0)) (BK_T.out) hb); have m_A := Aside0.mk (blk_below (g := g_A) (o := .cells #[.int .i64 x, .int .i64 y, .int .i64 gr, .func (.func 38) #[] #[.pointer (some ⟨g_S, 0, none⟩)]] 44 (0, 0)) (BK_A.out) hb); have m_HB := Aside0.mk (below_step (HB.out) hb); clear hb; clear HB; clear BK_S; clear BK_T; clear BK_A; have HB := m_HB; have BK_S := m_S; have BK_T := m_T; have BK_A := m_A; clear m_HB; clear m_S; clear m_T; clear m_A; have hc2_S_0 : w2.cell? ⟨g_S, 0, none⟩ = some (.bool r) := (blk_cell BK_S.out 0).trans rfl; have hc2_T_0 : w2.cell? ⟨g_T, 0, none⟩ = some (.int .i64 t0) := (blk_cell BK_T.out 0).trans rfl; have hc2_A_0 : w2.cell? ⟨g_A, 0, none⟩ = some (.int .i64 x) := (blk_cell BK_A.out 0).trans rfl; have hc2_A_1 : w2.cell? ⟨g_A, 1, none⟩ = some (.int .i64 y) := (blk_cell BK_A.out 1).trans rfl; have hc2_A_2 : w2.cell? ⟨g_A, 2, none⟩ = some (.int .i64 gr) := (blk_cell BK_A.out 2).trans rfl; have hc2_A_3 : w2.cell? ⟨g_A, 3, none⟩ = some (.func (.func 38) #[] #[.pointer (some ⟨g_S, 0, none⟩)]) := (blk_cell BK_A.out 3).trans rfl))
  go_ret2
  exact ⟨rfl, HB.out⟩
set_option maxHeartbeats 1000000 in
set_option maxRecDepth 100000 in
theorem lat_guard_no0 (x y gr t0 t1 : Int) (g_S g_T : Nat) (r : Bool) (F : Nat) (caps : Array Value) (w : World) (hS : w.heap[g_S]? = some (.cells #[.bool r] 4 (0, 0))) (hT : w.heap[g_T]? = some (.cells #[.int .i64 t0, .int .i64 t1] 3 (0, 0))) (hm0_ : (r && inT t0) = false) :
    Calls Try.prog 28 #[.agg #[.int .i64 x, .int .i64 y, .int .i64 gr, .func (.func 38) #[] #[.pointer (some ⟨g_S, 0, none⟩)]], .func (.func F) #[] caps, .slice (some ⟨g_T, 0, none⟩) 2 2] w fun e w' => e = .returned (.tuple #[.int .i64 0, .int .i64 1]) ∧ Below w.heap.size w w' := by
  have hu44 := Try.underlying44
  have HB := Aside0.mk (Below.refl w.heap.size w)
  have BK_S := Aside0.mk hS
  have BK_T := Aside0.mk hT
  clear hS hT
  have hm0 := Aside0.mk hm0_
  clear hm0_
  go_enter Try.func28, Try.ntmps28
  go_wp2_with (((with_reducible refine gate_dst (N := 3) rfl ?_); refine box_event ?hg (N := 3) ?hd (cs := #[.int .i64 x, .int .i64 y, .int .i64 gr, .func (.func 38) #[] #[.pointer (some ⟨g_S, 0, none⟩)]]) (t := 44) ?hr ?_; (case hd => rfl); (case hg => rfl); (case hr => first | (go_simp; done) | (go_simp; rfl)); intro g_A hg w1 hbox hb; have GE_A := Aside0.mk (by rw [hg]; exact (below_size (HB.out)) : w.heap.size ≤ g_A); have m_S := Aside0.mk (blk_below (g := g_S) (o := .cells #[.bool r] 4 (0, 0)) (BK_S.out) hb); have m_T := Aside0.mk (blk_below (g := g_T) (o := .cells #[.int .i64 t0, .int .i64 t1] 3 (0, 0)) (BK_T.out) hb); have m_HB := Aside0.mk (below_step (HB.out) hb); have k_A := Aside0.mk hbox; clear hb hbox hg; clear HB; clear BK_S; clear BK_T; have HB := m_HB; have BK_S := m_S; have BK_T := m_T; clear m_HB; clear m_S; clear m_T; have BK_A := k_A; clear k_A; have hc1_S_0 : w1.cell? ⟨g_S, 0, none⟩ = some (.bool r) := (blk_cell BK_S.out 0).trans rfl; have hc1_T_0 : w1.cell? ⟨g_T, 0, none⟩ = some (.int .i64 t0) := (blk_cell BK_T.out 0).trans rfl; have hc1_T_1 : w1.cell? ⟨g_T, 1, none⟩ = some (.int .i64 t1) := (blk_cell BK_T.out 1).trans rfl; have hc1_A_0 : w1.cell? ⟨g_A, 0, none⟩ = some (.int .i64 x) := (blk_cell BK_A.out 0).trans rfl; have hc1_A_1 : w1.cell? ⟨g_A, 1, none⟩ = some (.int .i64 y) := (blk_cell BK_A.out 1).trans rfl; have hc1_A_2 : w1.cell? ⟨g_A, 2, none⟩ = some (.int .i64 gr) := (blk_cell BK_A.out 2).trans rfl; have hc1_A_3 : w1.cell? ⟨g_A, 3, none⟩ = some (.func (.func 38) #[] #[.pointer (some ⟨g_S, 0, none⟩)]) := (blk_cell BK_A.out 3).trans rfl; have hf1_A_0 := blk_frozen BK_A.out 0; have hf1_A_1 := blk_frozen BK_A.out 1; have hf1_A_2 := blk_frozen BK_A.out 2; have hf1_A_3 := blk_frozen BK_A.out 3))
  refine wp_loop_rounds 1 ?_
  rw [rounds_succ]
  go_wp2_with ((go_at_call 38; (with_reducible refine (lat_may t0 g_S r _ (BK_S.out) false hm0.out).mono ?_); rintro e w2 ⟨rfl, hd⟩; have hb := hd.below; clear hd; have m_S := Aside0.mk (blk_below (g := g_S) (o := .cells #[.bool r] 4 (0, 0)) (BK_S.out) hb); have m_T := Aside0.mk (blk_below (g := g_T) (o := .cells #[.int .i64 t0, .int .i64 t1] 3 (0, 0)) (BK_T.out) hb); have m_A := Aside0.mk (blk_below (g := g_A) (o := .cells #[.int .i64 x, .int .i64 y, .int .i64 gr, .func (.func 38) #[] #[.pointer (some ⟨g_S, 0, none⟩)]] 44 (0, 0)) (BK_A.out) hb); have m_HB := Aside0.mk (below_step (HB.out) hb); clear hb; clear HB; clear BK_S; clear BK_T; clear BK_A; have HB := m_HB; have BK_S := m_S; have BK_T := m_T; have BK_A := m_A; clear m_HB; clear m_S; clear m_T; clear m_A; have hc2_S_0 : w2.cell? ⟨g_S, 0, none⟩ = some (.bool r) := (blk_cell BK_S.out 0).trans rfl; have hc2_T_0 : w2.cell? ⟨g_T, 0, none⟩ = some (.int .i64 t0) := (blk_cell BK_T.out 0).trans rfl; have hc2_T_1 : w2.cell? ⟨g_T, 1, none⟩ = some (.int .i64 t1) := (blk_cell BK_T.out 1).trans rfl; have hc2_A_0 : w2.cell? ⟨g_A, 0, none⟩ = some (.int .i64 x) := (blk_cell BK_A.out 0).trans rfl; have hc2_A_1 : w2.cell? ⟨g_A, 1, none⟩ = some (.int .i64 y) := (blk_cell BK_A.out 1).trans rfl; have hc2_A_2 : w2.cell? ⟨g_A, 2, none⟩ = some (.int .i64 gr) := (blk_cell BK_A.out 2).trans rfl; have hc2_A_3 : w2.cell? ⟨g_A, 3, none⟩ = some (.func (.func 38) #[] #[.pointer (some ⟨g_S, 0, none⟩)]) := (blk_cell BK_A.out 3).trans rfl))
  go_ret2
  exact ⟨rfl, HB.out⟩
set_option maxHeartbeats 1000000 in
set_option maxRecDepth 100000 in
theorem lat_guard_no1 (x y gr t0 t1 : Int) (g_S g_T : Nat) (r : Bool) (F : Nat) (caps : Array Value) (w : World) (hS : w.heap[g_S]? = some (.cells #[.bool r] 4 (0, 0))) (hT : w.heap[g_T]? = some (.cells #[.int .i64 t0, .int .i64 t1] 3 (0, 0))) (hm0_ : (r && inT t0) = true) (hm1_ : (r && inT t1) = false) :
    Calls Try.prog 28 #[.agg #[.int .i64 x, .int .i64 y, .int .i64 gr, .func (.func 38) #[] #[.pointer (some ⟨g_S, 0, none⟩)]], .func (.func F) #[] caps, .slice (some ⟨g_T, 0, none⟩) 2 2] w fun e w' => e = .returned (.tuple #[.int .i64 0, .int .i64 1]) ∧ Below w.heap.size w w' := by
  have hu44 := Try.underlying44
  have HB := Aside0.mk (Below.refl w.heap.size w)
  have BK_S := Aside0.mk hS
  have BK_T := Aside0.mk hT
  clear hS hT
  have hm0 := Aside0.mk hm0_
  clear hm0_
  have hm1 := Aside0.mk hm1_
  clear hm1_
  go_enter Try.func28, Try.ntmps28
  go_wp2_with (((with_reducible refine gate_dst (N := 3) rfl ?_); refine box_event ?hg (N := 3) ?hd (cs := #[.int .i64 x, .int .i64 y, .int .i64 gr, .func (.func 38) #[] #[.pointer (some ⟨g_S, 0, none⟩)]]) (t := 44) ?hr ?_; (case hd => rfl); (case hg => rfl); (case hr => first | (go_simp; done) | (go_simp; rfl)); intro g_A hg w1 hbox hb; have GE_A := Aside0.mk (by rw [hg]; exact (below_size (HB.out)) : w.heap.size ≤ g_A); have m_S := Aside0.mk (blk_below (g := g_S) (o := .cells #[.bool r] 4 (0, 0)) (BK_S.out) hb); have m_T := Aside0.mk (blk_below (g := g_T) (o := .cells #[.int .i64 t0, .int .i64 t1] 3 (0, 0)) (BK_T.out) hb); have m_HB := Aside0.mk (below_step (HB.out) hb); have k_A := Aside0.mk hbox; clear hb hbox hg; clear HB; clear BK_S; clear BK_T; have HB := m_HB; have BK_S := m_S; have BK_T := m_T; clear m_HB; clear m_S; clear m_T; have BK_A := k_A; clear k_A; have hc1_S_0 : w1.cell? ⟨g_S, 0, none⟩ = some (.bool r) := (blk_cell BK_S.out 0).trans rfl; have hc1_T_0 : w1.cell? ⟨g_T, 0, none⟩ = some (.int .i64 t0) := (blk_cell BK_T.out 0).trans rfl; have hc1_T_1 : w1.cell? ⟨g_T, 1, none⟩ = some (.int .i64 t1) := (blk_cell BK_T.out 1).trans rfl; have hc1_A_0 : w1.cell? ⟨g_A, 0, none⟩ = some (.int .i64 x) := (blk_cell BK_A.out 0).trans rfl; have hc1_A_1 : w1.cell? ⟨g_A, 1, none⟩ = some (.int .i64 y) := (blk_cell BK_A.out 1).trans rfl; have hc1_A_2 : w1.cell? ⟨g_A, 2, none⟩ = some (.int .i64 gr) := (blk_cell BK_A.out 2).trans rfl; have hc1_A_3 : w1.cell? ⟨g_A, 3, none⟩ = some (.func (.func 38) #[] #[.pointer (some ⟨g_S, 0, none⟩)]) := (blk_cell BK_A.out 3).trans rfl; have hf1_A_0 := blk_frozen BK_A.out 0; have hf1_A_1 := blk_frozen BK_A.out 1; have hf1_A_2 := blk_frozen BK_A.out 2; have hf1_A_3 := blk_frozen BK_A.out 3))
  refine wp_loop_rounds 2 ?_
  rw [rounds_succ]
  go_wp2_with ((go_at_call 38; (with_reducible refine (lat_may t0 g_S r _ (BK_S.out) true hm0.out).mono ?_); rintro e w2 ⟨rfl, hd⟩; have hb := hd.below; clear hd; have m_S := Aside0.mk (blk_below (g := g_S) (o := .cells #[.bool r] 4 (0, 0)) (BK_S.out) hb); have m_T := Aside0.mk (blk_below (g := g_T) (o := .cells #[.int .i64 t0, .int .i64 t1] 3 (0, 0)) (BK_T.out) hb); have m_A := Aside0.mk (blk_below (g := g_A) (o := .cells #[.int .i64 x, .int .i64 y, .int .i64 gr, .func (.func 38) #[] #[.pointer (some ⟨g_S, 0, none⟩)]] 44 (0, 0)) (BK_A.out) hb); have m_HB := Aside0.mk (below_step (HB.out) hb); clear hb; clear HB; clear BK_S; clear BK_T; clear BK_A; have HB := m_HB; have BK_S := m_S; have BK_T := m_T; have BK_A := m_A; clear m_HB; clear m_S; clear m_T; clear m_A; have hc2_S_0 : w2.cell? ⟨g_S, 0, none⟩ = some (.bool r) := (blk_cell BK_S.out 0).trans rfl; have hc2_T_0 : w2.cell? ⟨g_T, 0, none⟩ = some (.int .i64 t0) := (blk_cell BK_T.out 0).trans rfl; have hc2_T_1 : w2.cell? ⟨g_T, 1, none⟩ = some (.int .i64 t1) := (blk_cell BK_T.out 1).trans rfl; have hc2_A_0 : w2.cell? ⟨g_A, 0, none⟩ = some (.int .i64 x) := (blk_cell BK_A.out 0).trans rfl; have hc2_A_1 : w2.cell? ⟨g_A, 1, none⟩ = some (.int .i64 y) := (blk_cell BK_A.out 1).trans rfl; have hc2_A_2 : w2.cell? ⟨g_A, 2, none⟩ = some (.int .i64 gr) := (blk_cell BK_A.out 2).trans rfl; have hc2_A_3 : w2.cell? ⟨g_A, 3, none⟩ = some (.func (.func 38) #[] #[.pointer (some ⟨g_S, 0, none⟩)]) := (blk_cell BK_A.out 3).trans rfl))
  rw [rounds_succ]
  go_wp2_with ((go_at_call 38; (with_reducible refine (lat_may t1 g_S r _ (BK_S.out) false hm1.out).mono ?_); rintro e w3 ⟨rfl, hd⟩; have hb := hd.below; clear hd; have m_S := Aside0.mk (blk_below (g := g_S) (o := .cells #[.bool r] 4 (0, 0)) (BK_S.out) hb); have m_T := Aside0.mk (blk_below (g := g_T) (o := .cells #[.int .i64 t0, .int .i64 t1] 3 (0, 0)) (BK_T.out) hb); have m_A := Aside0.mk (blk_below (g := g_A) (o := .cells #[.int .i64 x, .int .i64 y, .int .i64 gr, .func (.func 38) #[] #[.pointer (some ⟨g_S, 0, none⟩)]] 44 (0, 0)) (BK_A.out) hb); have m_HB := Aside0.mk (below_step (HB.out) hb); clear hb; clear HB; clear BK_S; clear BK_T; clear BK_A; have HB := m_HB; have BK_S := m_S; have BK_T := m_T; have BK_A := m_A; clear m_HB; clear m_S; clear m_T; clear m_A; have hc3_S_0 : w3.cell? ⟨g_S, 0, none⟩ = some (.bool r) := (blk_cell BK_S.out 0).trans rfl; have hc3_T_0 : w3.cell? ⟨g_T, 0, none⟩ = some (.int .i64 t0) := (blk_cell BK_T.out 0).trans rfl; have hc3_T_1 : w3.cell? ⟨g_T, 1, none⟩ = some (.int .i64 t1) := (blk_cell BK_T.out 1).trans rfl; have hc3_A_0 : w3.cell? ⟨g_A, 0, none⟩ = some (.int .i64 x) := (blk_cell BK_A.out 0).trans rfl; have hc3_A_1 : w3.cell? ⟨g_A, 1, none⟩ = some (.int .i64 y) := (blk_cell BK_A.out 1).trans rfl; have hc3_A_2 : w3.cell? ⟨g_A, 2, none⟩ = some (.int .i64 gr) := (blk_cell BK_A.out 2).trans rfl; have hc3_A_3 : w3.cell? ⟨g_A, 3, none⟩ = some (.func (.func 38) #[] #[.pointer (some ⟨g_S, 0, none⟩)]) := (blk_cell BK_A.out 3).trans rfl))
  go_ret2
  exact ⟨rfl, HB.out⟩
set_option maxHeartbeats 1000000 in
set_option maxRecDepth 100000 in
theorem lat_guard_ok_29 (x y gr t0 : Int) (g_S g_T : Nat) (r : Bool) (P : Int → Prop) (caps : Array Value) (w : World) (hS : w.heap[g_S]? = some (.cells #[.bool r] 4 (0, 0))) (hT : w.heap[g_T]? = some (.cells #[.int .i64 t0] 3 (0, 0))) (hm0_ : (r && inT t0) = true) (hF : ∀ W, Below w.heap.size w W → Calls Try.prog 29 caps W fun e w' => ∃ v : Int, e = .returned (.int .i64 v) ∧ P v ∧ Below W.heap.size W w') :
    Calls Try.prog 28 #[.agg #[.int .i64 x, .int .i64 y, .int .i64 gr, .func (.func 38) #[] #[.pointer (some ⟨g_S, 0, none⟩)]], .func (.func 29) #[] caps, .slice (some ⟨g_T, 0, none⟩) 1 1] w fun e w' => ∃ v, e = .returned (.tuple #[.int .i64 v, .int .i64 0]) ∧ P v ∧ Below w.heap.size w w' := by
  have hu44 := Try.underlying44
  have HB := Aside0.mk (Below.refl w.heap.size w)
  have BK_S := Aside0.mk hS
  have BK_T := Aside0.mk hT
  clear hS hT
  have hm0 := Aside0.mk hm0_
  clear hm0_
  have HF := Aside0.mk hF
  clear hF
  go_enter Try.func28, Try.ntmps28
  go_wp2_with (((with_reducible refine gate_dst (N := 3) rfl ?_); refine box_event ?hg (N := 3) ?hd (cs := #[.int .i64 x, .int .i64 y, .int .i64 gr, .func (.func 38) #[] #[.pointer (some ⟨g_S, 0, none⟩)]]) (t := 44) ?hr ?_; (case hd => rfl); (case hg => rfl); (case hr => first | (go_simp; done) | (go_simp; rfl)); intro g_A hg w1 hbox hb; have GE_A := Aside0.mk (by rw [hg]; exact (below_size (HB.out)) : w.heap.size ≤ g_A); have m_S := Aside0.mk (blk_below (g := g_S) (o := .cells #[.bool r] 4 (0, 0)) (BK_S.out) hb); have m_T := Aside0.mk (blk_below (g := g_T) (o := .cells #[.int .i64 t0] 3 (0, 0)) (BK_T.out) hb); have m_HB := Aside0.mk (below_step (HB.out) hb); have k_A := Aside0.mk hbox; clear hb hbox hg; clear HB; clear BK_S; clear BK_T; have HB := m_HB; have BK_S := m_S; have BK_T := m_T; clear m_HB; clear m_S; clear m_T; have BK_A := k_A; clear k_A; have hc1_S_0 : w1.cell? ⟨g_S, 0, none⟩ = some (.bool r) := (blk_cell BK_S.out 0).trans rfl; have hc1_T_0 : w1.cell? ⟨g_T, 0, none⟩ = some (.int .i64 t0) := (blk_cell BK_T.out 0).trans rfl; have hc1_A_0 : w1.cell? ⟨g_A, 0, none⟩ = some (.int .i64 x) := (blk_cell BK_A.out 0).trans rfl; have hc1_A_1 : w1.cell? ⟨g_A, 1, none⟩ = some (.int .i64 y) := (blk_cell BK_A.out 1).trans rfl; have hc1_A_2 : w1.cell? ⟨g_A, 2, none⟩ = some (.int .i64 gr) := (blk_cell BK_A.out 2).trans rfl; have hc1_A_3 : w1.cell? ⟨g_A, 3, none⟩ = some (.func (.func 38) #[] #[.pointer (some ⟨g_S, 0, none⟩)]) := (blk_cell BK_A.out 3).trans rfl; have hf1_A_0 := blk_frozen BK_A.out 0; have hf1_A_1 := blk_frozen BK_A.out 1; have hf1_A_2 := blk_frozen BK_A.out 2; have hf1_A_3 := blk_frozen BK_A.out 3))
  refine wp_loop_rounds 2 ?_
  rw [rounds_succ]
  go_wp2_with ((go_at_call 38; (with_reducible refine (lat_may t0 g_S r _ (BK_S.out) true hm0.out).mono ?_); rintro e w2 ⟨rfl, hd⟩; have hb := hd.below; clear hd; have m_S := Aside0.mk (blk_below (g := g_S) (o := .cells #[.bool r] 4 (0, 0)) (BK_S.out) hb); have m_T := Aside0.mk (blk_below (g := g_T) (o := .cells #[.int .i64 t0] 3 (0, 0)) (BK_T.out) hb); have m_A := Aside0.mk (blk_below (g := g_A) (o := .cells #[.int .i64 x, .int .i64 y, .int .i64 gr, .func (.func 38) #[] #[.pointer (some ⟨g_S, 0, none⟩)]] 44 (0, 0)) (BK_A.out) hb); have m_HB := Aside0.mk (below_step (HB.out) hb); clear hb; clear HB; clear BK_S; clear BK_T; clear BK_A; have HB := m_HB; have BK_S := m_S; have BK_T := m_T; have BK_A := m_A; clear m_HB; clear m_S; clear m_T; clear m_A; have hc2_S_0 : w2.cell? ⟨g_S, 0, none⟩ = some (.bool r) := (blk_cell BK_S.out 0).trans rfl; have hc2_T_0 : w2.cell? ⟨g_T, 0, none⟩ = some (.int .i64 t0) := (blk_cell BK_T.out 0).trans rfl; have hc2_A_0 : w2.cell? ⟨g_A, 0, none⟩ = some (.int .i64 x) := (blk_cell BK_A.out 0).trans rfl; have hc2_A_1 : w2.cell? ⟨g_A, 1, none⟩ = some (.int .i64 y) := (blk_cell BK_A.out 1).trans rfl; have hc2_A_2 : w2.cell? ⟨g_A, 2, none⟩ = some (.int .i64 gr) := (blk_cell BK_A.out 2).trans rfl; have hc2_A_3 : w2.cell? ⟨g_A, 3, none⟩ = some (.func (.func 38) #[] #[.pointer (some ⟨g_S, 0, none⟩)]) := (blk_cell BK_A.out 3).trans rfl))
  rw [rounds_succ]
  go_wp2_with (go_at_call 29; (with_reducible refine (HF.out _ (HB.out)).mono ?_); rintro e w9 ⟨v9, rfl, hP9, hb⟩; have HP9 := Aside0.mk hP9; clear hP9; have n_ := Aside0.mk (below_step (HB.out) hb); clear HB hb; have HB := n_; clear n_)
  go_ret2
  exact ⟨v9, rfl, HP9.out, HB.out⟩
set_option maxHeartbeats 1000000 in
set_option maxRecDepth 100000 in
theorem lat_guard_ok_33 (x y gr t0 : Int) (g_S g_T : Nat) (r : Bool) (P : Int → Prop) (caps : Array Value) (w : World) (hS : w.heap[g_S]? = some (.cells #[.bool r] 4 (0, 0))) (hT : w.heap[g_T]? = some (.cells #[.int .i64 t0] 3 (0, 0))) (hm0_ : (r && inT t0) = true) (hF : ∀ W, Below w.heap.size w W → Calls Try.prog 33 caps W fun e w' => ∃ v : Int, e = .returned (.int .i64 v) ∧ P v ∧ Below W.heap.size W w') :
    Calls Try.prog 28 #[.agg #[.int .i64 x, .int .i64 y, .int .i64 gr, .func (.func 38) #[] #[.pointer (some ⟨g_S, 0, none⟩)]], .func (.func 33) #[] caps, .slice (some ⟨g_T, 0, none⟩) 1 1] w fun e w' => ∃ v, e = .returned (.tuple #[.int .i64 v, .int .i64 0]) ∧ P v ∧ Below w.heap.size w w' := by
  have hu44 := Try.underlying44
  have HB := Aside0.mk (Below.refl w.heap.size w)
  have BK_S := Aside0.mk hS
  have BK_T := Aside0.mk hT
  clear hS hT
  have hm0 := Aside0.mk hm0_
  clear hm0_
  have HF := Aside0.mk hF
  clear hF
  go_enter Try.func28, Try.ntmps28
  go_wp2_with (((with_reducible refine gate_dst (N := 3) rfl ?_); refine box_event ?hg (N := 3) ?hd (cs := #[.int .i64 x, .int .i64 y, .int .i64 gr, .func (.func 38) #[] #[.pointer (some ⟨g_S, 0, none⟩)]]) (t := 44) ?hr ?_; (case hd => rfl); (case hg => rfl); (case hr => first | (go_simp; done) | (go_simp; rfl)); intro g_A hg w1 hbox hb; have GE_A := Aside0.mk (by rw [hg]; exact (below_size (HB.out)) : w.heap.size ≤ g_A); have m_S := Aside0.mk (blk_below (g := g_S) (o := .cells #[.bool r] 4 (0, 0)) (BK_S.out) hb); have m_T := Aside0.mk (blk_below (g := g_T) (o := .cells #[.int .i64 t0] 3 (0, 0)) (BK_T.out) hb); have m_HB := Aside0.mk (below_step (HB.out) hb); have k_A := Aside0.mk hbox; clear hb hbox hg; clear HB; clear BK_S; clear BK_T; have HB := m_HB; have BK_S := m_S; have BK_T := m_T; clear m_HB; clear m_S; clear m_T; have BK_A := k_A; clear k_A; have hc1_S_0 : w1.cell? ⟨g_S, 0, none⟩ = some (.bool r) := (blk_cell BK_S.out 0).trans rfl; have hc1_T_0 : w1.cell? ⟨g_T, 0, none⟩ = some (.int .i64 t0) := (blk_cell BK_T.out 0).trans rfl; have hc1_A_0 : w1.cell? ⟨g_A, 0, none⟩ = some (.int .i64 x) := (blk_cell BK_A.out 0).trans rfl; have hc1_A_1 : w1.cell? ⟨g_A, 1, none⟩ = some (.int .i64 y) := (blk_cell BK_A.out 1).trans rfl; have hc1_A_2 : w1.cell? ⟨g_A, 2, none⟩ = some (.int .i64 gr) := (blk_cell BK_A.out 2).trans rfl; have hc1_A_3 : w1.cell? ⟨g_A, 3, none⟩ = some (.func (.func 38) #[] #[.pointer (some ⟨g_S, 0, none⟩)]) := (blk_cell BK_A.out 3).trans rfl; have hf1_A_0 := blk_frozen BK_A.out 0; have hf1_A_1 := blk_frozen BK_A.out 1; have hf1_A_2 := blk_frozen BK_A.out 2; have hf1_A_3 := blk_frozen BK_A.out 3))
  refine wp_loop_rounds 2 ?_
  rw [rounds_succ]
  go_wp2_with ((go_at_call 38; (with_reducible refine (lat_may t0 g_S r _ (BK_S.out) true hm0.out).mono ?_); rintro e w2 ⟨rfl, hd⟩; have hb := hd.below; clear hd; have m_S := Aside0.mk (blk_below (g := g_S) (o := .cells #[.bool r] 4 (0, 0)) (BK_S.out) hb); have m_T := Aside0.mk (blk_below (g := g_T) (o := .cells #[.int .i64 t0] 3 (0, 0)) (BK_T.out) hb); have m_A := Aside0.mk (blk_below (g := g_A) (o := .cells #[.int .i64 x, .int .i64 y, .int .i64 gr, .func (.func 38) #[] #[.pointer (some ⟨g_S, 0, none⟩)]] 44 (0, 0)) (BK_A.out) hb); have m_HB := Aside0.mk (below_step (HB.out) hb); clear hb; clear HB; clear BK_S; clear BK_T; clear BK_A; have HB := m_HB; have BK_S := m_S; have BK_T := m_T; have BK_A := m_A; clear m_HB; clear m_S; clear m_T; clear m_A; have hc2_S_0 : w2.cell? ⟨g_S, 0, none⟩ = some (.bool r) := (blk_cell BK_S.out 0).trans rfl; have hc2_T_0 : w2.cell? ⟨g_T, 0, none⟩ = some (.int .i64 t0) := (blk_cell BK_T.out 0).trans rfl; have hc2_A_0 : w2.cell? ⟨g_A, 0, none⟩ = some (.int .i64 x) := (blk_cell BK_A.out 0).trans rfl; have hc2_A_1 : w2.cell? ⟨g_A, 1, none⟩ = some (.int .i64 y) := (blk_cell BK_A.out 1).trans rfl; have hc2_A_2 : w2.cell? ⟨g_A, 2, none⟩ = some (.int .i64 gr) := (blk_cell BK_A.out 2).trans rfl; have hc2_A_3 : w2.cell? ⟨g_A, 3, none⟩ = some (.func (.func 38) #[] #[.pointer (some ⟨g_S, 0, none⟩)]) := (blk_cell BK_A.out 3).trans rfl))
  rw [rounds_succ]
  go_wp2_with (go_at_call 33; (with_reducible refine (HF.out _ (HB.out)).mono ?_); rintro e w9 ⟨v9, rfl, hP9, hb⟩; have HP9 := Aside0.mk hP9; clear hP9; have n_ := Aside0.mk (below_step (HB.out) hb); clear HB hb; have HB := n_; clear n_)
  go_ret2
  exact ⟨v9, rfl, HP9.out, HB.out⟩
set_option maxHeartbeats 1000000 in
set_option maxRecDepth 100000 in
theorem lat_guard_ok_36 (x y gr t0 t1 : Int) (g_S g_T : Nat) (r : Bool) (P : Int → Prop) (caps : Array Value) (w : World) (hS : w.heap[g_S]? = some (.cells #[.bool r] 4 (0, 0))) (hT : w.heap[g_T]? = some (.cells #[.int .i64 t0, .int .i64 t1] 3 (0, 0))) (hm0_ : (r && inT t0) = true) (hm1_ : (r && inT t1) = true) (hF : ∀ W, Below w.heap.size w W → Calls Try.prog 36 caps W fun e w' => ∃ v : Int, e = .returned (.int .i64 v) ∧ P v ∧ Below W.heap.size W w') :
    Calls Try.prog 28 #[.agg #[.int .i64 x, .int .i64 y, .int .i64 gr, .func (.func 38) #[] #[.pointer (some ⟨g_S, 0, none⟩)]], .func (.func 36) #[] caps, .slice (some ⟨g_T, 0, none⟩) 2 2] w fun e w' => ∃ v, e = .returned (.tuple #[.int .i64 v, .int .i64 0]) ∧ P v ∧ Below w.heap.size w w' := by
  have hu44 := Try.underlying44
  have HB := Aside0.mk (Below.refl w.heap.size w)
  have BK_S := Aside0.mk hS
  have BK_T := Aside0.mk hT
  clear hS hT
  have hm0 := Aside0.mk hm0_
  clear hm0_
  have hm1 := Aside0.mk hm1_
  clear hm1_
  have HF := Aside0.mk hF
  clear hF
  go_enter Try.func28, Try.ntmps28
  go_wp2_with (((with_reducible refine gate_dst (N := 3) rfl ?_); refine box_event ?hg (N := 3) ?hd (cs := #[.int .i64 x, .int .i64 y, .int .i64 gr, .func (.func 38) #[] #[.pointer (some ⟨g_S, 0, none⟩)]]) (t := 44) ?hr ?_; (case hd => rfl); (case hg => rfl); (case hr => first | (go_simp; done) | (go_simp; rfl)); intro g_A hg w1 hbox hb; have GE_A := Aside0.mk (by rw [hg]; exact (below_size (HB.out)) : w.heap.size ≤ g_A); have m_S := Aside0.mk (blk_below (g := g_S) (o := .cells #[.bool r] 4 (0, 0)) (BK_S.out) hb); have m_T := Aside0.mk (blk_below (g := g_T) (o := .cells #[.int .i64 t0, .int .i64 t1] 3 (0, 0)) (BK_T.out) hb); have m_HB := Aside0.mk (below_step (HB.out) hb); have k_A := Aside0.mk hbox; clear hb hbox hg; clear HB; clear BK_S; clear BK_T; have HB := m_HB; have BK_S := m_S; have BK_T := m_T; clear m_HB; clear m_S; clear m_T; have BK_A := k_A; clear k_A; have hc1_S_0 : w1.cell? ⟨g_S, 0, none⟩ = some (.bool r) := (blk_cell BK_S.out 0).trans rfl; have hc1_T_0 : w1.cell? ⟨g_T, 0, none⟩ = some (.int .i64 t0) := (blk_cell BK_T.out 0).trans rfl; have hc1_T_1 : w1.cell? ⟨g_T, 1, none⟩ = some (.int .i64 t1) := (blk_cell BK_T.out 1).trans rfl; have hc1_A_0 : w1.cell? ⟨g_A, 0, none⟩ = some (.int .i64 x) := (blk_cell BK_A.out 0).trans rfl; have hc1_A_1 : w1.cell? ⟨g_A, 1, none⟩ = some (.int .i64 y) := (blk_cell BK_A.out 1).trans rfl; have hc1_A_2 : w1.cell? ⟨g_A, 2, none⟩ = some (.int .i64 gr) := (blk_cell BK_A.out 2).trans rfl; have hc1_A_3 : w1.cell? ⟨g_A, 3, none⟩ = some (.func (.func 38) #[] #[.pointer (some ⟨g_S, 0, none⟩)]) := (blk_cell BK_A.out 3).trans rfl; have hf1_A_0 := blk_frozen BK_A.out 0; have hf1_A_1 := blk_frozen BK_A.out 1; have hf1_A_2 := blk_frozen BK_A.out 2; have hf1_A_3 := blk_frozen BK_A.out 3))
  refine wp_loop_rounds 3 ?_
  rw [rounds_succ]
  go_wp2_with ((go_at_call 38; (with_reducible refine (lat_may t0 g_S r _ (BK_S.out) true hm0.out).mono ?_); rintro e w2 ⟨rfl, hd⟩; have hb := hd.below; clear hd; have m_S := Aside0.mk (blk_below (g := g_S) (o := .cells #[.bool r] 4 (0, 0)) (BK_S.out) hb); have m_T := Aside0.mk (blk_below (g := g_T) (o := .cells #[.int .i64 t0, .int .i64 t1] 3 (0, 0)) (BK_T.out) hb); have m_A := Aside0.mk (blk_below (g := g_A) (o := .cells #[.int .i64 x, .int .i64 y, .int .i64 gr, .func (.func 38) #[] #[.pointer (some ⟨g_S, 0, none⟩)]] 44 (0, 0)) (BK_A.out) hb); have m_HB := Aside0.mk (below_step (HB.out) hb); clear hb; clear HB; clear BK_S; clear BK_T; clear BK_A; have HB := m_HB; have BK_S := m_S; have BK_T := m_T; have BK_A := m_A; clear m_HB; clear m_S; clear m_T; clear m_A; have hc2_S_0 : w2.cell? ⟨g_S, 0, none⟩ = some (.bool r) := (blk_cell BK_S.out 0).trans rfl; have hc2_T_0 : w2.cell? ⟨g_T, 0, none⟩ = some (.int .i64 t0) := (blk_cell BK_T.out 0).trans rfl; have hc2_T_1 : w2.cell? ⟨g_T, 1, none⟩ = some (.int .i64 t1) := (blk_cell BK_T.out 1).trans rfl; have hc2_A_0 : w2.cell? ⟨g_A, 0, none⟩ = some (.int .i64 x) := (blk_cell BK_A.out 0).trans rfl; have hc2_A_1 : w2.cell? ⟨g_A, 1, none⟩ = some (.int .i64 y) := (blk_cell BK_A.out 1).trans rfl; have hc2_A_2 : w2.cell? ⟨g_A, 2, none⟩ = some (.int .i64 gr) := (blk_cell BK_A.out 2).trans rfl; have hc2_A_3 : w2.cell? ⟨g_A, 3, none⟩ = some (.func (.func 38) #[] #[.pointer (some ⟨g_S, 0, none⟩)]) := (blk_cell BK_A.out 3).trans rfl))
  rw [rounds_succ]
  go_wp2_with ((go_at_call 38; (with_reducible refine (lat_may t1 g_S r _ (BK_S.out) true hm1.out).mono ?_); rintro e w3 ⟨rfl, hd⟩; have hb := hd.below; clear hd; have m_S := Aside0.mk (blk_below (g := g_S) (o := .cells #[.bool r] 4 (0, 0)) (BK_S.out) hb); have m_T := Aside0.mk (blk_below (g := g_T) (o := .cells #[.int .i64 t0, .int .i64 t1] 3 (0, 0)) (BK_T.out) hb); have m_A := Aside0.mk (blk_below (g := g_A) (o := .cells #[.int .i64 x, .int .i64 y, .int .i64 gr, .func (.func 38) #[] #[.pointer (some ⟨g_S, 0, none⟩)]] 44 (0, 0)) (BK_A.out) hb); have m_HB := Aside0.mk (below_step (HB.out) hb); clear hb; clear HB; clear BK_S; clear BK_T; clear BK_A; have HB := m_HB; have BK_S := m_S; have BK_T := m_T; have BK_A := m_A; clear m_HB; clear m_S; clear m_T; clear m_A; have hc3_S_0 : w3.cell? ⟨g_S, 0, none⟩ = some (.bool r) := (blk_cell BK_S.out 0).trans rfl; have hc3_T_0 : w3.cell? ⟨g_T, 0, none⟩ = some (.int .i64 t0) := (blk_cell BK_T.out 0).trans rfl; have hc3_T_1 : w3.cell? ⟨g_T, 1, none⟩ = some (.int .i64 t1) := (blk_cell BK_T.out 1).trans rfl; have hc3_A_0 : w3.cell? ⟨g_A, 0, none⟩ = some (.int .i64 x) := (blk_cell BK_A.out 0).trans rfl; have hc3_A_1 : w3.cell? ⟨g_A, 1, none⟩ = some (.int .i64 y) := (blk_cell BK_A.out 1).trans rfl; have hc3_A_2 : w3.cell? ⟨g_A, 2, none⟩ = some (.int .i64 gr) := (blk_cell BK_A.out 2).trans rfl; have hc3_A_3 : w3.cell? ⟨g_A, 3, none⟩ = some (.func (.func 38) #[] #[.pointer (some ⟨g_S, 0, none⟩)]) := (blk_cell BK_A.out 3).trans rfl))
  rw [rounds_succ]
  go_wp2_with (go_at_call 36; (with_reducible refine (HF.out _ (HB.out)).mono ?_); rintro e w9 ⟨v9, rfl, hP9, hb⟩; have HP9 := Aside0.mk hP9; clear hP9; have n_ := Aside0.mk (below_step (HB.out) hb); clear HB hb; have HB := n_; clear n_)
  go_ret2
  exact ⟨v9, rfl, HP9.out, HB.out⟩
set_option maxHeartbeats 1000000 in
set_option maxRecDepth 100000 in
theorem lat_guard_ok_37 (x y gr t0 : Int) (g_S g_T : Nat) (r : Bool) (P : Int → Prop) (caps : Array Value) (w : World) (hS : w.heap[g_S]? = some (.cells #[.bool r] 4 (0, 0))) (hT : w.heap[g_T]? = some (.cells #[.int .i64 t0] 3 (0, 0))) (hm0_ : (r && inT t0) = true) (hF : ∀ W, Below w.heap.size w W → Calls Try.prog 37 caps W fun e w' => ∃ v : Int, e = .returned (.int .i64 v) ∧ P v ∧ Below W.heap.size W w') :
    Calls Try.prog 28 #[.agg #[.int .i64 x, .int .i64 y, .int .i64 gr, .func (.func 38) #[] #[.pointer (some ⟨g_S, 0, none⟩)]], .func (.func 37) #[] caps, .slice (some ⟨g_T, 0, none⟩) 1 1] w fun e w' => ∃ v, e = .returned (.tuple #[.int .i64 v, .int .i64 0]) ∧ P v ∧ Below w.heap.size w w' := by
  have hu44 := Try.underlying44
  have HB := Aside0.mk (Below.refl w.heap.size w)
  have BK_S := Aside0.mk hS
  have BK_T := Aside0.mk hT
  clear hS hT
  have hm0 := Aside0.mk hm0_
  clear hm0_
  have HF := Aside0.mk hF
  clear hF
  go_enter Try.func28, Try.ntmps28
  go_wp2_with (((with_reducible refine gate_dst (N := 3) rfl ?_); refine box_event ?hg (N := 3) ?hd (cs := #[.int .i64 x, .int .i64 y, .int .i64 gr, .func (.func 38) #[] #[.pointer (some ⟨g_S, 0, none⟩)]]) (t := 44) ?hr ?_; (case hd => rfl); (case hg => rfl); (case hr => first | (go_simp; done) | (go_simp; rfl)); intro g_A hg w1 hbox hb; have GE_A := Aside0.mk (by rw [hg]; exact (below_size (HB.out)) : w.heap.size ≤ g_A); have m_S := Aside0.mk (blk_below (g := g_S) (o := .cells #[.bool r] 4 (0, 0)) (BK_S.out) hb); have m_T := Aside0.mk (blk_below (g := g_T) (o := .cells #[.int .i64 t0] 3 (0, 0)) (BK_T.out) hb); have m_HB := Aside0.mk (below_step (HB.out) hb); have k_A := Aside0.mk hbox; clear hb hbox hg; clear HB; clear BK_S; clear BK_T; have HB := m_HB; have BK_S := m_S; have BK_T := m_T; clear m_HB; clear m_S; clear m_T; have BK_A := k_A; clear k_A; have hc1_S_0 : w1.cell? ⟨g_S, 0, none⟩ = some (.bool r) := (blk_cell BK_S.out 0).trans rfl; have hc1_T_0 : w1.cell? ⟨g_T, 0, none⟩ = some (.int .i64 t0) := (blk_cell BK_T.out 0).trans rfl; have hc1_A_0 : w1.cell? ⟨g_A, 0, none⟩ = some (.int .i64 x) := (blk_cell BK_A.out 0).trans rfl; have hc1_A_1 : w1.cell? ⟨g_A, 1, none⟩ = some (.int .i64 y) := (blk_cell BK_A.out 1).trans rfl; have hc1_A_2 : w1.cell? ⟨g_A, 2, none⟩ = some (.int .i64 gr) := (blk_cell BK_A.out 2).trans rfl; have hc1_A_3 : w1.cell? ⟨g_A, 3, none⟩ = some (.func (.func 38) #[] #[.pointer (some ⟨g_S, 0, none⟩)]) := (blk_cell BK_A.out 3).trans rfl; have hf1_A_0 := blk_frozen BK_A.out 0; have hf1_A_1 := blk_frozen BK_A.out 1; have hf1_A_2 := blk_frozen BK_A.out 2; have hf1_A_3 := blk_frozen BK_A.out 3))
  refine wp_loop_rounds 2 ?_
  rw [rounds_succ]
  go_wp2_with ((go_at_call 38; (with_reducible refine (lat_may t0 g_S r _ (BK_S.out) true hm0.out).mono ?_); rintro e w2 ⟨rfl, hd⟩; have hb := hd.below; clear hd; have m_S := Aside0.mk (blk_below (g := g_S) (o := .cells #[.bool r] 4 (0, 0)) (BK_S.out) hb); have m_T := Aside0.mk (blk_below (g := g_T) (o := .cells #[.int .i64 t0] 3 (0, 0)) (BK_T.out) hb); have m_A := Aside0.mk (blk_below (g := g_A) (o := .cells #[.int .i64 x, .int .i64 y, .int .i64 gr, .func (.func 38) #[] #[.pointer (some ⟨g_S, 0, none⟩)]] 44 (0, 0)) (BK_A.out) hb); have m_HB := Aside0.mk (below_step (HB.out) hb); clear hb; clear HB; clear BK_S; clear BK_T; clear BK_A; have HB := m_HB; have BK_S := m_S; have BK_T := m_T; have BK_A := m_A; clear m_HB; clear m_S; clear m_T; clear m_A; have hc2_S_0 : w2.cell? ⟨g_S, 0, none⟩ = some (.bool r) := (blk_cell BK_S.out 0).trans rfl; have hc2_T_0 : w2.cell? ⟨g_T, 0, none⟩ = some (.int .i64 t0) := (blk_cell BK_T.out 0).trans rfl; have hc2_A_0 : w2.cell? ⟨g_A, 0, none⟩ = some (.int .i64 x) := (blk_cell BK_A.out 0).trans rfl; have hc2_A_1 : w2.cell? ⟨g_A, 1, none⟩ = some (.int .i64 y) := (blk_cell BK_A.out 1).trans rfl; have hc2_A_2 : w2.cell? ⟨g_A, 2, none⟩ = some (.int .i64 gr) := (blk_cell BK_A.out 2).trans rfl; have hc2_A_3 : w2.cell? ⟨g_A, 3, none⟩ = some (.func (.func 38) #[] #[.pointer (some ⟨g_S, 0, none⟩)]) := (blk_cell BK_A.out 3).trans rfl))
  rw [rounds_succ]
  go_wp2_with (go_at_call 37; (with_reducible refine (HF.out _ (HB.out)).mono ?_); rintro e w9 ⟨v9, rfl, hP9, hb⟩; have HP9 := Aside0.mk hP9; clear hP9; have n_ := Aside0.mk (below_step (HB.out) hb); clear HB hb; have HB := n_; clear n_)
  go_ret2
  exact ⟨v9, rfl, HP9.out, HB.out⟩
def cmpZ (x y : Int) : Int := if x = y then 0 else if x < y then -1 else 1
theorem eq51 (d : Nat) (w : World) (x y : Int) : (Op.equalIn (d + 2) 51 (.agg #[.int .i64 x]) (.agg #[.int .i64 y])).run Try.prog w = .ok (x == y) w := by
  have hu51 := Try.underlying51
  have h3 : (Op.equalIn (d + 1) 3 (.int .i64 x) (.int .i64 y)).run Try.prog w = .ok (x == y) w := by go_simp
  unfold Op.equalIn
  go_simp
  by_cases h : x = y
  · rw [if_pos h, beq_iff_eq.mpr h]
  · rw [if_neg h, beq_eq_false_iff_ne.mpr h]
theorem eq51_at (w : World) (x y : Int) : (Op.equalIn 10000 51 (.agg #[.int .i64 x]) (.agg #[.int .i64 y])).run Try.prog w = .ok (x == y) w := eq51 9998 w x y
def lat_o36.T1 : Bool × List (List Nat × List Nat) := (true, [([], []), ([], []), ([0, 1], [0, 1]), ([2], [2]), ([], []), ([], []), ([4, 5, 2], [4, 5]), ([6], [6]), ([], []), ([], []), ([8, 3, 6, 0, 1, 2, 3, 8, 9], [3, 8]), ([9, 7, 10, 0, 1, 2, 3, 4, 5, 6, 7, 8, 9, 10], [7, 9])])
def lat_o36.B1 : List Nat := [0, 0, 3, 7, 0, 0, 55, 119, 0, 0, 895, 2047]
theorem lat_o36.tab1 : rtab .any (opsOf Try.f36 1) = lat_o36.T1 := by kernel_rfl
theorem lat_o36.bits1 : waitsOk lat_o36.T1.2 lat_o36.B1 = true := by kernel_rfl
set_option maxHeartbeats 1000000 in
set_option maxRecDepth 100000 in
theorem lat_order1 (la lg gr t u : Int) (gb g_G g_T g_U : Nat) (w : World) (h1 : 1 ≤ gr) (hG : w.heap[g_G]? = some (.cells #[.int .i64 la, .int .i64 lg, .int .i64 gr, .func (.func 38) #[] #[.pointer (some ⟨gb, 0, none⟩)]] 44 (0, 0))) (hT : w.heap[g_T]? = some (.cells #[.int .i64 t] 3 (0, 0))) (hU : w.heap[g_U]? = some (.cells #[.int .i64 u] 3 (0, 0))) :
    Calls Try.prog 36 #[.pointer (some ⟨g_G, 0, none⟩), .pointer (some ⟨g_T, 0, none⟩), .pointer (some ⟨g_U, 0, none⟩)] w fun e w' => ∃ v : Int, e = .returned (.int .i64 v) ∧ (gr ≤ 20000 → 1 ≤ lg → lg ≤ 10000 → -2199023255552 ≤ t → t ≤ 2199023255552 → -2199023255552 ≤ u → u ≤ 2199023255552 → v = cmpZ ((t + lg / 2) / gr) ((u + lg / 2) / gr)) ∧ Below w.heap.size w w' := by
  have hu44 := Try.underlying44
  have hu51 := Try.underlying51
  have HB := Aside0.mk (Below.refl w.heap.size w)
  have BK_G := Aside0.mk hG
  have BK_T := Aside0.mk hT
  have BK_U := Aside0.mk hU
  clear hG hT hU
  go_enter Try.func36, Try.ntmps36
  go_wp2
  refine start_ (n := 12) (S := fun w' => True) (ds := []) #[false, false, false, false, false, false, false, false, false, false, false, false] (by kernel_rfl) rfl rfl trivial (fun hHeld => ?_)
  refine with_tabW lat_o36.tab1 lat_o36.bits1 (fun HT_ HW_ => ?_)
  have m_HB := Aside0.mk (below_drew1 HB.out)
  have m_G := Aside0.mk (blk_drew BK_G.out)
  have m_T := Aside0.mk (blk_drew BK_T.out)
  have m_U := Aside0.mk (blk_drew BK_U.out)
  clear HB BK_G BK_T BK_U
  have HB := m_HB
  have BK_G := m_G
  have BK_T := m_T
  have BK_U := m_U
  clear m_HB m_G m_T m_U
  generalize w.drew = wd at HB BK_G BK_T BK_U hHeld ⊢
  have L4 := Aside0.mk (blk_lt BK_G.out)
  have L5 := Aside0.mk (blk_lt BK_G.out)
  refine inv_at [0, 1, 2, 3, 4, 5, 6, 7, 8, 9, 10, 11] (fun a0_ b a w' => ∃ (n1 : Int) (n2 : Int) (g4 : Nat) (g5 : Nat) (m2_ : Value) (m3_ : Value) (m6_ : Value) (m7_ : Value) (m8_ : Value) (m9_ : Value), a = putSel a0_ b [(0, 6, .agg #[.int .i64 la, .int .i64 lg, .int .i64 gr, .func (.func 38) #[] #[.pointer (some ⟨gb, 0, none⟩)]]), (1, 7, .int .i64 t), (2, 8, m2_), (3, 9, m3_), (4, 10, .agg #[.int .i64 la, .int .i64 lg, .int .i64 gr, .func (.func 38) #[] #[.pointer (some ⟨gb, 0, none⟩)]]), (5, 11, .int .i64 u), (6, 12, m6_), (7, 13, m7_), (8, 4, m8_), (9, 5, m9_)] ∧ (Below w.heap.size w w') ∧ (w'.heap[g_G]? = some (.cells #[.int .i64 la, .int .i64 lg, .int .i64 gr, .func (.func 38) #[] #[.pointer (some ⟨gb, 0, none⟩)]] 44 (0, 0))) ∧ (w'.heap[g_T]? = some (.cells #[.int .i64 t] 3 (0, 0))) ∧ (w'.heap[g_U]? = some (.cells #[.int .i64 u] 3 (0, 0))) ∧ (g4 < w'.heap.size) ∧ (g5 < w'.heap.size) ∧ (b 2 = true → (gr ≤ 20000 → 1 ≤ lg → lg ≤ 10000 → -2199023255552 ≤ t → t ≤ 2199023255552 → n1 = (t + lg / 2) / gr)) ∧ (b 6 = true → (gr ≤ 20000 → 1 ≤ lg → lg ≤ 10000 → -2199023255552 ≤ u → u ≤ 2199023255552 → n2 = (u + lg / 2) / gr)) ∧ (b 8 = true → w.heap.size ≤ g4) ∧ (b 8 = true → g_G ≠ g4) ∧ (b 8 = true → g_T ≠ g4) ∧ (b 8 = true → g_U ≠ g4) ∧ (b 9 = true → w.heap.size ≤ g5) ∧ (b 9 = true → g_G ≠ g5) ∧ (b 9 = true → g_T ≠ g5) ∧ (b 9 = true → g_U ≠ g5) ∧ (b 8 = true → b 9 = true → g4 ≠ g5) ∧ (b 8 = true → b 10 = false → w'.heap[g4]? = some (.cells #[.int .i64 0] 51 (0, 0))) ∧ (b 9 = true → b 11 = false → w'.heap[g5]? = some (.cells #[.int .i64 0] 51 (0, 0))) ∧ (b 10 = true → w'.heap[g4]? = some (.cells #[.int .i64 n1] 51 (0, 0))) ∧ (b 11 = true → w'.heap[g5]? = some (.cells #[.int .i64 n2] 51 (0, 0))) ∧ (b 2 = true → (m2_ : Value) = .int .i64 n1) ∧ (b 3 = true → (m3_ : Value) = .agg #[.int .i64 n1]) ∧ (b 6 = true → (m6_ : Value) = .int .i64 n2) ∧ (b 7 = true → (m7_ : Value) = .agg #[.int .i64 n2]) ∧ (b 8 = true → (m8_ : Value) = .pointer (some ⟨g4, 0, none⟩)) ∧ (b 9 = true → (m9_ : Value) = .pointer (some ⟨g5, 0, none⟩))) HT_.out HW_.out (by kernel_rfl) (by kernel_rfl) ?_ ?_ ?_
  · exact ⟨0, 0, g_G, g_G, .bool false, .bool false, .bool false, .bool false, .bool false, .bool false, by simp only [putSel, Bool.false_eq_true, if_false], HB.out, BK_G.out, BK_T.out, BK_U.out, L4.out, L5.out, fun h_ => absurd h_ (by decide), fun h_ => absurd h_ (by decide), fun h_ => absurd h_ (by decide), fun h_ => absurd h_ (by decide), fun h_ => absurd h_ (by decide), fun h_ => absurd h_ (by decide), fun h_ => absurd h_ (by decide), fun h_ => absurd h_ (by decide), fun h_ => absurd h_ (by decide), fun h_ => absurd h_ (by decide), fun h_ => absurd h_ (by decide), fun h_ => absurd h_ (by decide), fun h_ => absurd h_ (by decide), fun h_ => absurd h_ (by decide), fun h_ => absurd h_ (by decide), fun h_ => absurd h_ (by decide), fun h_ => absurd h_ (by decide), fun h_ => absurd h_ (by decide), fun h_ => absurd h_ (by decide), fun h_ => absurd h_ (by decide), fun h_ => absurd h_ (by decide)⟩
  · skip
    clear BK_G BK_T BK_U HB L4 L5
    refine steps_cons ?_ ?_
    · rintro b a w' ⟨n1, n2, g4, g5, m2_, m3_, m6_, m7_, m8_, m9_, ha, Q_HB, Q_BK_G, Q_BK_T, Q_BK_U, Q_L4, Q_L5, Q_E1, Q_E2, Q_GE4, Q_NG4, Q_NT4, Q_NU4, Q_GE5, Q_NG5, Q_NT5, Q_NU5, Q_N45, Q_A4, Q_A5, Q_S4, Q_S5, Q_X2_, Q_X3_, Q_X6_, Q_X7_, Q_X8_, Q_X9_⟩ hb_ hon hoff
      refine ⟨_, rfl, fun K hK => ?_⟩
      have e0 : a.tmps[0]? = some (.pointer (some ⟨g_G, 0, none⟩)) := by rw [ha]; exact (putSel_off rfl).trans rfl
      replace ha := Aside0.mk ha
      have HB := Aside0.mk Q_HB
      have BK_G := Aside0.mk Q_BK_G
      have BK_T := Aside0.mk Q_BK_T
      have BK_U := Aside0.mk Q_BK_U
      have L4 := Aside0.mk Q_L4
      have L5 := Aside0.mk Q_L5
      have hcG_0 : w'.cell? ⟨g_G, 0, none⟩ = some (.int .i64 la) := (blk_cell BK_G.out 0).trans rfl
      have hcG_1 : w'.cell? ⟨g_G, 1, none⟩ = some (.int .i64 lg) := (blk_cell BK_G.out 1).trans rfl
      have hcG_2 : w'.cell? ⟨g_G, 2, none⟩ = some (.int .i64 gr) := (blk_cell BK_G.out 2).trans rfl
      have hcG_3 : w'.cell? ⟨g_G, 3, none⟩ = some (.func (.func 38) #[] #[.pointer (some ⟨gb, 0, none⟩)]) := (blk_cell BK_G.out 3).trans rfl
      refine value_ (w1 := w') (v := .agg #[.int .i64 la, .int .i64 lg, .int .i64 gr, .func (.func 38) #[] #[.pointer (some ⟨gb, 0, none⟩)]]) (by rfl) rfl ?_ ?_
      · go_simp
        (try simp only [i64_w])
        try rfl
      refine hK.out _ _ ⟨n1, n2, g4, g5, m2_, m3_, m6_, m7_, m8_, m9_, (by rw [ha.out]; exact putSel_upk 0 hb_ rfl rfl rfl), Q_HB, Q_BK_G, Q_BK_T, Q_BK_U, Q_L4, Q_L5, fun h0_ => absurd ((hoff 2 (by kernel_rfl)).symm.trans h0_) (by decide), fun h0_ => absurd ((hoff 6 (by kernel_rfl)).symm.trans h0_) (by decide), Q_GE4, Q_NG4, Q_NT4, Q_NU4, Q_GE5, Q_NG5, Q_NT5, Q_NU5, Q_N45, Q_A4, Q_A5, fun h0_ => absurd ((hoff 10 (by kernel_rfl)).symm.trans h0_) (by decide), fun h0_ => absurd ((hoff 11 (by kernel_rfl)).symm.trans h0_) (by decide), fun h0_ => absurd ((hoff 2 (by kernel_rfl)).symm.trans h0_) (by decide), fun h0_ => absurd ((hoff 3 (by kernel_rfl)).symm.trans h0_) (by decide), fun h0_ => absurd ((hoff 6 (by kernel_rfl)).symm.trans h0_) (by decide), fun h0_ => absurd ((hoff 7 (by kernel_rfl)).symm.trans h0_) (by decide), Q_X8_, Q_X9_⟩
    refine steps_cons ?_ ?_
    · rintro b a w' ⟨n1, n2, g4, g5, m2_, m3_, m6_, m7_, m8_, m9_, ha, Q_HB, Q_BK_G, Q_BK_T, Q_BK_U, Q_L4, Q_L5, Q_E1, Q_E2, Q_GE4, Q_NG4, Q_NT4, Q_NU4, Q_GE5, Q_NG5, Q_NT5, Q_NU5, Q_N45, Q_A4, Q_A5, Q_S4, Q_S5, Q_X2_, Q_X3_, Q_X6_, Q_X7_, Q_X8_, Q_X9_⟩ hb_ hon hoff
      refine ⟨_, rfl, fun K hK => ?_⟩
      have e1 : a.tmps[1]? = some (.pointer (some ⟨g_T, 0, none⟩)) := by rw [ha]; exact (putSel_off rfl).trans rfl
      replace ha := Aside0.mk ha
      have HB := Aside0.mk Q_HB
      have BK_G := Aside0.mk Q_BK_G
      have BK_T := Aside0.mk Q_BK_T
      have BK_U := Aside0.mk Q_BK_U
      have L4 := Aside0.mk Q_L4
      have L5 := Aside0.mk Q_L5
      have hcT_0 : w'.cell? ⟨g_T, 0, none⟩ = some (.int .i64 t) := (blk_cell BK_T.out 0).trans rfl
      refine value_ (w1 := w') (v := .int .i64 t) (by rfl) rfl ?_ ?_
      · go_simp
        (try simp only [i64_w])
        try rfl
      refine hK.out _ _ ⟨n1, n2, g4, g5, m2_, m3_, m6_, m7_, m8_, m9_, (by rw [ha.out]; exact putSel_upk 1 hb_ rfl rfl rfl), Q_HB, Q_BK_G, Q_BK_T, Q_BK_U, Q_L4, Q_L5, fun h0_ => absurd ((hoff 2 (by kernel_rfl)).symm.trans h0_) (by decide), fun h0_ => absurd ((hoff 6 (by kernel_rfl)).symm.trans h0_) (by decide), Q_GE4, Q_NG4, Q_NT4, Q_NU4, Q_GE5, Q_NG5, Q_NT5, Q_NU5, Q_N45, Q_A4, Q_A5, fun h0_ => absurd ((hoff 10 (by kernel_rfl)).symm.trans h0_) (by decide), fun h0_ => absurd ((hoff 11 (by kernel_rfl)).symm.trans h0_) (by decide), fun h0_ => absurd ((hoff 2 (by kernel_rfl)).symm.trans h0_) (by decide), fun h0_ => absurd ((hoff 3 (by kernel_rfl)).symm.trans h0_) (by decide), fun h0_ => absurd ((hoff 6 (by kernel_rfl)).symm.trans h0_) (by decide), fun h0_ => absurd ((hoff 7 (by kernel_rfl)).symm.trans h0_) (by decide), Q_X8_, Q_X9_⟩
    refine steps_cons ?_ ?_
    · rintro b a w' ⟨n1, n2, g4, g5, m2_, m3_, m6_, m7_, m8_, m9_, ha, Q_HB, Q_BK_G, Q_BK_T, Q_BK_U, Q_L4, Q_L5, Q_E1, Q_E2, Q_GE4, Q_NG4, Q_NT4, Q_NU4, Q_GE5, Q_NG5, Q_NT5, Q_NU5, Q_N45, Q_A4, Q_A5, Q_S4, Q_S5, Q_X2_, Q_X3_, Q_X6_, Q_X7_, Q_X8_, Q_X9_⟩ hb_ hon hoff
      refine ⟨_, rfl, fun K hK => ?_⟩
      have e6 : a.tmps[6]? = some (.agg #[.int .i64 la, .int .i64 lg, .int .i64 gr, .func (.func 38) #[] #[.pointer (some ⟨gb, 0, none⟩)]]) := by rw [ha]; exact putSel_on (e := (0, 6, .agg #[.int .i64 la, .int .i64 lg, .int .i64 gr, .func (.func 38) #[] #[.pointer (some ⟨gb, 0, none⟩)]])) 0 rfl rfl (hon 0 (by kernel_rfl)) rfl
      have e7 : a.tmps[7]? = some (.int .i64 t) := by rw [ha]; exact putSel_on (e := (1, 7, .int .i64 t)) 1 rfl rfl (hon 1 (by kernel_rfl)) rfl
      replace ha := Aside0.mk ha
      have HB := Aside0.mk Q_HB
      have BK_G := Aside0.mk Q_BK_G
      have BK_T := Aside0.mk Q_BK_T
      have BK_U := Aside0.mk Q_BK_U
      have L4 := Aside0.mk Q_L4
      have L5 := Aside0.mk Q_L5
      refine goes_ Try.func34 (by kernel_rfl) rfl #[.agg #[.int .i64 la, .int .i64 lg, .int .i64 gr, .func (.func 38) #[] #[.pointer (some ⟨gb, 0, none⟩)]], .int .i64 t] (by rfl) rfl rfl (by first | (simp only [List.map_toArray, List.map_cons, List.map_nil, Act.eval, Array.getD_eq_getD_getElem?, Option.getD_some, e6, e7]; done) | (simp only [List.map_toArray, List.map_cons, List.map_nil, Act.eval, Array.getD_eq_getD_getElem?, Option.getD_some, e6, e7]; rfl)) ?_
      with_reducible refine (lat_epoch la lg gr t gb _ h1).mono ?_
      rintro e w2 ⟨nA, rfl, hn, hb⟩
      refine ⟨_, rfl, ?_⟩
      refine hK.out _ _ ⟨nA, n2, g4, g5, (.int .i64 nA), m3_, m6_, m7_, m8_, m9_, (by rw [ha.out]; exact putSel_upk 2 hb_ rfl rfl rfl), below_step HB.out hb, blk_below BK_G.out hb, blk_below BK_T.out hb, blk_below BK_U.out hb, Nat.lt_of_lt_of_le L4.out hb.size, Nat.lt_of_lt_of_le L5.out hb.size, fun _ => hn, fun h0_ => absurd ((hoff 6 (by kernel_rfl)).symm.trans h0_) (by decide), Q_GE4, Q_NG4, Q_NT4, Q_NU4, Q_GE5, Q_NG5, Q_NT5, Q_NU5, Q_N45, fun h0_ h1_ => blk_below (Q_A4 h0_ h1_) hb, fun h0_ h1_ => blk_below (Q_A5 h0_ h1_) hb, fun h0_ => absurd ((hoff 10 (by kernel_rfl)).symm.trans h0_) (by decide), fun h0_ => absurd ((hoff 11 (by kernel_rfl)).symm.trans h0_) (by decide), fun _ => rfl, fun h0_ => absurd ((hoff 3 (by kernel_rfl)).symm.trans h0_) (by decide), fun h0_ => absurd ((hoff 6 (by kernel_rfl)).symm.trans h0_) (by decide), fun h0_ => absurd ((hoff 7 (by kernel_rfl)).symm.trans h0_) (by decide), Q_X8_, Q_X9_⟩
    refine steps_cons ?_ ?_
    · rintro b a w' ⟨n1, n2, g4, g5, m2_, m3_, m6_, m7_, m8_, m9_, ha, Q_HB, Q_BK_G, Q_BK_T, Q_BK_U, Q_L4, Q_L5, Q_E1, Q_E2, Q_GE4, Q_NG4, Q_NT4, Q_NU4, Q_GE5, Q_NG5, Q_NT5, Q_NU5, Q_N45, Q_A4, Q_A5, Q_S4, Q_S5, Q_X2_, Q_X3_, Q_X6_, Q_X7_, Q_X8_, Q_X9_⟩ hb_ hon hoff
      refine ⟨_, rfl, fun K hK => ?_⟩
      have e8 : a.tmps[8]? = some (m2_) := by rw [ha]; exact putSel_on (e := (2, 8, m2_)) 2 rfl rfl (hon 2 (by kernel_rfl)) rfl
      rw [Q_X2_ (hon 2 (by kernel_rfl))] at e8
      replace ha := Aside0.mk ha
      have HB := Aside0.mk Q_HB
      have BK_G := Aside0.mk Q_BK_G
      have BK_T := Aside0.mk Q_BK_T
      have BK_U := Aside0.mk Q_BK_U
      have L4 := Aside0.mk Q_L4
      have L5 := Aside0.mk Q_L5
      have E1 := Aside0.mk (Q_E1 (hon 2 (by kernel_rfl)))
      refine value_ (w1 := w') (v := .agg #[.int .i64 n1]) (by rfl) rfl ?_ ?_
      · go_simp
        (try simp only [i64_w])
        try rfl
      refine hK.out _ _ ⟨n1, n2, g4, g5, m2_, (.agg #[.int .i64 n1]), m6_, m7_, m8_, m9_, (by rw [ha.out]; exact putSel_upk 3 hb_ rfl rfl rfl), Q_HB, Q_BK_G, Q_BK_T, Q_BK_U, Q_L4, Q_L5, Q_E1, Q_E2, Q_GE4, Q_NG4, Q_NT4, Q_NU4, Q_GE5, Q_NG5, Q_NT5, Q_NU5, Q_N45, Q_A4, Q_A5, fun h0_ => absurd ((hoff 10 (by kernel_rfl)).symm.trans h0_) (by decide), fun h0_ => absurd ((hoff 11 (by kernel_rfl)).symm.trans h0_) (by decide), Q_X2_, fun _ => rfl, Q_X6_, Q_X7_, Q_X8_, Q_X9_⟩
    refine steps_cons ?_ ?_
    · rintro b a w' ⟨n1, n2, g4, g5, m2_, m3_, m6_, m7_, m8_, m9_, ha, Q_HB, Q_BK_G, Q_BK_T, Q_BK_U, Q_L4, Q_L5, Q_E1, Q_E2, Q_GE4, Q_NG4, Q_NT4, Q_NU4, Q_GE5, Q_NG5, Q_NT5, Q_NU5, Q_N45, Q_A4, Q_A5, Q_S4, Q_S5, Q_X2_, Q_X3_, Q_X6_, Q_X7_, Q_X8_, Q_X9_⟩ hb_ hon hoff
      refine ⟨_, rfl, fun K hK => ?_⟩
      have e0 : a.tmps[0]? = some (.pointer (some ⟨g_G, 0, none⟩)) := by rw [ha]; exact (putSel_off rfl).trans rfl
      replace ha := Aside0.mk ha
      have HB := Aside0.mk Q_HB
      have BK_G := Aside0.mk Q_BK_G
      have BK_T := Aside0.mk Q_BK_T
      have BK_U := Aside0.mk Q_BK_U
      have L4 := Aside0.mk Q_L4
      have L5 := Aside0.mk Q_L5
      have hcG_0 : w'.cell? ⟨g_G, 0, none⟩ = some (.int .i64 la) := (blk_cell BK_G.out 0).trans rfl
      have hcG_1 : w'.cell? ⟨g_G, 1, none⟩ = some (.int .i64 lg) := (blk_cell BK_G.out 1).trans rfl
      have hcG_2 : w'.cell? ⟨g_G, 2, none⟩ = some (.int .i64 gr) := (blk_cell BK_G.out 2).trans rfl
      have hcG_3 : w'.cell? ⟨g_G, 3, none⟩ = some (.func (.func 38) #[] #[.pointer (some ⟨gb, 0, none⟩)]) := (blk_cell BK_G.out 3).trans rfl
      refine value_ (w1 := w') (v := .agg #[.int .i64 la, .int .i64 lg, .int .i64 gr, .func (.func 38) #[] #[.pointer (some ⟨gb, 0, none⟩)]]) (by rfl) rfl ?_ ?_
      · go_simp
        (try simp only [i64_w])
        try rfl
      refine hK.out _ _ ⟨n1, n2, g4, g5, m2_, m3_, m6_, m7_, m8_, m9_, (by rw [ha.out]; exact putSel_upk 4 hb_ rfl rfl rfl), Q_HB, Q_BK_G, Q_BK_T, Q_BK_U, Q_L4, Q_L5, Q_E1, fun h0_ => absurd ((hoff 6 (by kernel_rfl)).symm.trans h0_) (by decide), Q_GE4, Q_NG4, Q_NT4, Q_NU4, Q_GE5, Q_NG5, Q_NT5, Q_NU5, Q_N45, Q_A4, Q_A5, fun h0_ => absurd ((hoff 10 (by kernel_rfl)).symm.trans h0_) (by decide), fun h0_ => absurd ((hoff 11 (by kernel_rfl)).symm.trans h0_) (by decide), Q_X2_, Q_X3_, fun h0_ => absurd ((hoff 6 (by kernel_rfl)).symm.trans h0_) (by decide), fun h0_ => absurd ((hoff 7 (by kernel_rfl)).symm.trans h0_) (by decide), Q_X8_, Q_X9_⟩
    refine steps_cons ?_ ?_
    · rintro b a w' ⟨n1, n2, g4, g5, m2_, m3_, m6_, m7_, m8_, m9_, ha, Q_HB, Q_BK_G, Q_BK_T, Q_BK_U, Q_L4, Q_L5, Q_E1, Q_E2, Q_GE4, Q_NG4, Q_NT4, Q_NU4, Q_GE5, Q_NG5, Q_NT5, Q_NU5, Q_N45, Q_A4, Q_A5, Q_S4, Q_S5, Q_X2_, Q_X3_, Q_X6_, Q_X7_, Q_X8_, Q_X9_⟩ hb_ hon hoff
      refine ⟨_, rfl, fun K hK => ?_⟩
      have e2 : a.tmps[2]? = some (.pointer (some ⟨g_U, 0, none⟩)) := by rw [ha]; exact (putSel_off rfl).trans rfl
      replace ha := Aside0.mk ha
      have HB := Aside0.mk Q_HB
      have BK_G := Aside0.mk Q_BK_G
      have BK_T := Aside0.mk Q_BK_T
      have BK_U := Aside0.mk Q_BK_U
      have L4 := Aside0.mk Q_L4
      have L5 := Aside0.mk Q_L5
      have hcU_0 : w'.cell? ⟨g_U, 0, none⟩ = some (.int .i64 u) := (blk_cell BK_U.out 0).trans rfl
      refine value_ (w1 := w') (v := .int .i64 u) (by rfl) rfl ?_ ?_
      · go_simp
        (try simp only [i64_w])
        try rfl
      refine hK.out _ _ ⟨n1, n2, g4, g5, m2_, m3_, m6_, m7_, m8_, m9_, (by rw [ha.out]; exact putSel_upk 5 hb_ rfl rfl rfl), Q_HB, Q_BK_G, Q_BK_T, Q_BK_U, Q_L4, Q_L5, Q_E1, fun h0_ => absurd ((hoff 6 (by kernel_rfl)).symm.trans h0_) (by decide), Q_GE4, Q_NG4, Q_NT4, Q_NU4, Q_GE5, Q_NG5, Q_NT5, Q_NU5, Q_N45, Q_A4, Q_A5, fun h0_ => absurd ((hoff 10 (by kernel_rfl)).symm.trans h0_) (by decide), fun h0_ => absurd ((hoff 11 (by kernel_rfl)).symm.trans h0_) (by decide), Q_X2_, Q_X3_, fun h0_ => absurd ((hoff 6 (by kernel_rfl)).symm.trans h0_) (by decide), fun h0_ => absurd ((hoff 7 (by kernel_rfl)).symm.trans h0_) (by decide), Q_X8_, Q_X9_⟩
    refine steps_cons ?_ ?_
    · rintro b a w' ⟨n1, n2, g4, g5, m2_, m3_, m6_, m7_, m8_, m9_, ha, Q_HB, Q_BK_G, Q_BK_T, Q_BK_U, Q_L4, Q_L5, Q_E1, Q_E2, Q_GE4, Q_NG4, Q_NT4, Q_NU4, Q_GE5, Q_NG5, Q_NT5, Q_NU5, Q_N45, Q_A4, Q_A5, Q_S4, Q_S5, Q_X2_, Q_X3_, Q_X6_, Q_X7_, Q_X8_, Q_X9_⟩ hb_ hon hoff
      refine ⟨_, rfl, fun K hK => ?_⟩
      have e10 : a.tmps[10]? = some (.agg #[.int .i64 la, .int .i64 lg, .int .i64 gr, .func (.func 38) #[] #[.pointer (some ⟨gb, 0, none⟩)]]) := by rw [ha]; exact putSel_on (e := (4, 10, .agg #[.int .i64 la, .int .i64 lg, .int .i64 gr, .func (.func 38) #[] #[.pointer (some ⟨gb, 0, none⟩)]])) 4 rfl rfl (hon 4 (by kernel_rfl)) rfl
      have e11 : a.tmps[11]? = some (.int .i64 u) := by rw [ha]; exact putSel_on (e := (5, 11, .int .i64 u)) 5 rfl rfl (hon 5 (by kernel_rfl)) rfl
      replace ha := Aside0.mk ha
      have HB := Aside0.mk Q_HB
      have BK_G := Aside0.mk Q_BK_G
      have BK_T := Aside0.mk Q_BK_T
      have BK_U := Aside0.mk Q_BK_U
      have L4 := Aside0.mk Q_L4
      have L5 := Aside0.mk Q_L5
      have E1 := Aside0.mk (Q_E1 (hon 2 (by kernel_rfl)))
      refine goes_ Try.func34 (by kernel_rfl) rfl #[.agg #[.int .i64 la, .int .i64 lg, .int .i64 gr, .func (.func 38) #[] #[.pointer (some ⟨gb, 0, none⟩)]], .int .i64 u] (by rfl) rfl rfl (by first | (simp only [List.map_toArray, List.map_cons, List.map_nil, Act.eval, Array.getD_eq_getD_getElem?, Option.getD_some, e10, e11]; done) | (simp only [List.map_toArray, List.map_cons, List.map_nil, Act.eval, Array.getD_eq_getD_getElem?, Option.getD_some, e10, e11]; rfl)) ?_
      with_reducible refine (lat_epoch la lg gr u gb _ h1).mono ?_
      rintro e w2 ⟨nB, rfl, hn, hb⟩
      refine ⟨_, rfl, ?_⟩
      refine hK.out _ _ ⟨n1, nB, g4, g5, m2_, m3_, (.int .i64 nB), m7_, m8_, m9_, (by rw [ha.out]; exact putSel_upk 6 hb_ rfl rfl rfl), below_step HB.out hb, blk_below BK_G.out hb, blk_below BK_T.out hb, blk_below BK_U.out hb, Nat.lt_of_lt_of_le L4.out hb.size, Nat.lt_of_lt_of_le L5.out hb.size, Q_E1, fun _ => hn, Q_GE4, Q_NG4, Q_NT4, Q_NU4, Q_GE5, Q_NG5, Q_NT5, Q_NU5, Q_N45, fun h0_ h1_ => blk_below (Q_A4 h0_ h1_) hb, fun h0_ h1_ => blk_below (Q_A5 h0_ h1_) hb, fun h0_ => absurd ((hoff 10 (by kernel_rfl)).symm.trans h0_) (by decide), fun h0_ => absurd ((hoff 11 (by kernel_rfl)).symm.trans h0_) (by decide), Q_X2_, Q_X3_, fun _ => rfl, fun h0_ => absurd ((hoff 7 (by kernel_rfl)).symm.trans h0_) (by decide), Q_X8_, Q_X9_⟩
    refine steps_cons ?_ ?_
    · rintro b a w' ⟨n1, n2, g4, g5, m2_, m3_, m6_, m7_, m8_, m9_, ha, Q_HB, Q_BK_G, Q_BK_T, Q_BK_U, Q_L4, Q_L5, Q_E1, Q_E2, Q_GE4, Q_NG4, Q_NT4, Q_NU4, Q_GE5, Q_NG5, Q_NT5, Q_NU5, Q_N45, Q_A4, Q_A5, Q_S4, Q_S5, Q_X2_, Q_X3_, Q_X6_, Q_X7_, Q_X8_, Q_X9_⟩ hb_ hon hoff
      refine ⟨_, rfl, fun K hK => ?_⟩
      have e12 : a.tmps[12]? = some (m6_) := by rw [ha]; exact putSel_on (e := (6, 12, m6_)) 6 rfl rfl (hon 6 (by kernel_rfl)) rfl
      rw [Q_X6_ (hon 6 (by kernel_rfl))] at e12
      replace ha := Aside0.mk ha
      have HB := Aside0.mk Q_HB
      have BK_G := Aside0.mk Q_BK_G
      have BK_T := Aside0.mk Q_BK_T
      have BK_U := Aside0.mk Q_BK_U
      have L4 := Aside0.mk Q_L4
      have L5 := Aside0.mk Q_L5
      have E1 := Aside0.mk (Q_E1 (hon 2 (by kernel_rfl)))
      have E2 := Aside0.mk (Q_E2 (hon 6 (by kernel_rfl)))
      refine value_ (w1 := w') (v := .agg #[.int .i64 n2]) (by rfl) rfl ?_ ?_
      · go_simp
        (try simp only [i64_w])
        try rfl
      refine hK.out _ _ ⟨n1, n2, g4, g5, m2_, m3_, m6_, (.agg #[.int .i64 n2]), m8_, m9_, (by rw [ha.out]; exact putSel_upk 7 hb_ rfl rfl rfl), Q_HB, Q_BK_G, Q_BK_T, Q_BK_U, Q_L4, Q_L5, Q_E1, Q_E2, Q_GE4, Q_NG4, Q_NT4, Q_NU4, Q_GE5, Q_NG5, Q_NT5, Q_NU5, Q_N45, Q_A4, Q_A5, Q_S4, fun h0_ => absurd ((hoff 11 (by kernel_rfl)).symm.trans h0_) (by decide), Q_X2_, Q_X3_, Q_X6_, fun _ => rfl, Q_X8_, Q_X9_⟩
    refine steps_cons ?_ ?_
    · rintro b a w' ⟨n1, n2, g4, g5, m2_, m3_, m6_, m7_, m8_, m9_, ha, Q_HB, Q_BK_G, Q_BK_T, Q_BK_U, Q_L4, Q_L5, Q_E1, Q_E2, Q_GE4, Q_NG4, Q_NT4, Q_NU4, Q_GE5, Q_NG5, Q_NT5, Q_NU5, Q_N45, Q_A4, Q_A5, Q_S4, Q_S5, Q_X2_, Q_X3_, Q_X6_, Q_X7_, Q_X8_, Q_X9_⟩ hb_ hon hoff
      refine ⟨_, rfl, fun K hK => ?_⟩
      replace ha := Aside0.mk ha
      have HB := Aside0.mk Q_HB
      have BK_G := Aside0.mk Q_BK_G
      have BK_T := Aside0.mk Q_BK_T
      have BK_U := Aside0.mk Q_BK_U
      have L4 := Aside0.mk Q_L4
      have L5 := Aside0.mk Q_L5
      refine box_step ?hg (N := 4) ?hd (cs := #[.int .i64 0]) (t := 51) ?hr ?_
      (case hd => rfl)
      (case hg => rfl)
      (case hr => first | (go_simp; done) | (go_simp; rfl))
      intro gN hg w2 hbox hb
      refine hK.out _ _ ⟨n1, n2, gN, g5, m2_, m3_, m6_, m7_, (.pointer (some ⟨gN, 0, none⟩)), m9_, (by rw [ha.out]; exact putSel_upk 8 hb_ rfl rfl rfl), below_step HB.out hb, blk_below BK_G.out hb, blk_below BK_T.out hb, blk_below BK_U.out hb, blk_lt hbox, Nat.lt_of_lt_of_le L5.out hb.size, Q_E1, Q_E2, fun _ => (by rw [hg]; exact (below_size HB.out)), fun _ => (by rw [hg]; exact Nat.ne_of_lt (blk_lt BK_G.out)), fun _ => (by rw [hg]; exact Nat.ne_of_lt (blk_lt BK_T.out)), fun _ => (by rw [hg]; exact Nat.ne_of_lt (blk_lt BK_U.out)), Q_GE5, Q_NG5, Q_NT5, Q_NU5, fun _ _ => (by rw [hg]; exact (Nat.ne_of_lt L5.out).symm), fun _ _ => hbox, fun h0_ h1_ => blk_below (Q_A5 h0_ h1_) hb, fun h0_ => absurd ((hoff 10 (by kernel_rfl)).symm.trans h0_) (by decide), fun h0_ => absurd ((hoff 11 (by kernel_rfl)).symm.trans h0_) (by decide), Q_X2_, Q_X3_, Q_X6_, Q_X7_, fun _ => rfl, Q_X9_⟩
    refine steps_cons ?_ ?_
    · rintro b a w' ⟨n1, n2, g4, g5, m2_, m3_, m6_, m7_, m8_, m9_, ha, Q_HB, Q_BK_G, Q_BK_T, Q_BK_U, Q_L4, Q_L5, Q_E1, Q_E2, Q_GE4, Q_NG4, Q_NT4, Q_NU4, Q_GE5, Q_NG5, Q_NT5, Q_NU5, Q_N45, Q_A4, Q_A5, Q_S4, Q_S5, Q_X2_, Q_X3_, Q_X6_, Q_X7_, Q_X8_, Q_X9_⟩ hb_ hon hoff
      refine ⟨_, rfl, fun K hK => ?_⟩
      replace ha := Aside0.mk ha
      have HB := Aside0.mk Q_HB
      have BK_G := Aside0.mk Q_BK_G
      have BK_T := Aside0.mk Q_BK_T
      have BK_U := Aside0.mk Q_BK_U
      have L4 := Aside0.mk Q_L4
      have L5 := Aside0.mk Q_L5
      refine box_step ?hg (N := 5) ?hd (cs := #[.int .i64 0]) (t := 51) ?hr ?_
      (case hd => rfl)
      (case hg => rfl)
      (case hr => first | (go_simp; done) | (go_simp; rfl))
      intro gN hg w2 hbox hb
      refine hK.out _ _ ⟨n1, n2, g4, gN, m2_, m3_, m6_, m7_, m8_, (.pointer (some ⟨gN, 0, none⟩)), (by rw [ha.out]; exact putSel_upk 9 hb_ rfl rfl rfl), below_step HB.out hb, blk_below BK_G.out hb, blk_below BK_T.out hb, blk_below BK_U.out hb, Nat.lt_of_lt_of_le L4.out hb.size, blk_lt hbox, Q_E1, Q_E2, Q_GE4, Q_NG4, Q_NT4, Q_NU4, fun _ => (by rw [hg]; exact (below_size HB.out)), fun _ => (by rw [hg]; exact Nat.ne_of_lt (blk_lt BK_G.out)), fun _ => (by rw [hg]; exact Nat.ne_of_lt (blk_lt BK_T.out)), fun _ => (by rw [hg]; exact Nat.ne_of_lt (blk_lt BK_U.out)), fun _ _ => (by rw [hg]; exact Nat.ne_of_lt L4.out), fun h0_ h1_ => blk_below (Q_A4 h0_ h1_) hb, fun _ _ => hbox, fun h0_ => absurd ((hoff 10 (by kernel_rfl)).symm.trans h0_) (by decide), fun h0_ => absurd ((hoff 11 (by kernel_rfl)).symm.trans h0_) (by decide), Q_X2_, Q_X3_, Q_X6_, Q_X7_, Q_X8_, fun _ => rfl⟩
    refine steps_cons ?_ ?_
    · rintro b a w' ⟨n1, n2, g4, g5, m2_, m3_, m6_, m7_, m8_, m9_, ha, Q_HB, Q_BK_G, Q_BK_T, Q_BK_U, Q_L4, Q_L5, Q_E1, Q_E2, Q_GE4, Q_NG4, Q_NT4, Q_NU4, Q_GE5, Q_NG5, Q_NT5, Q_NU5, Q_N45, Q_A4, Q_A5, Q_S4, Q_S5, Q_X2_, Q_X3_, Q_X6_, Q_X7_, Q_X8_, Q_X9_⟩ hb_ hon hoff
      refine ⟨_, rfl, fun K hK => ?_⟩
      have e4 : a.tmps[4]? = some (m8_) := by rw [ha]; exact putSel_on (e := (8, 4, m8_)) 8 rfl rfl (hon 8 (by kernel_rfl)) rfl
      rw [Q_X8_ (hon 8 (by kernel_rfl))] at e4
      have e9 : a.tmps[9]? = some (m3_) := by rw [ha]; exact putSel_on (e := (3, 9, m3_)) 3 rfl rfl (hon 3 (by kernel_rfl)) rfl
      rw [Q_X3_ (hon 3 (by kernel_rfl))] at e9
      replace ha := Aside0.mk ha
      have HB := Aside0.mk Q_HB
      have BK_G := Aside0.mk Q_BK_G
      have BK_T := Aside0.mk Q_BK_T
      have BK_U := Aside0.mk Q_BK_U
      have L4 := Aside0.mk Q_L4
      have L5 := Aside0.mk Q_L5
      have E1 := Aside0.mk (Q_E1 (hon 2 (by kernel_rfl)))
      have E2 := Aside0.mk (Q_E2 (hon 6 (by kernel_rfl)))
      have GE4 := Aside0.mk (Q_GE4 (hon 8 (by kernel_rfl)))
      have NG4 := Aside0.mk (Q_NG4 (hon 8 (by kernel_rfl)))
      have NT4 := Aside0.mk (Q_NT4 (hon 8 (by kernel_rfl)))
      have NU4 := Aside0.mk (Q_NU4 (hon 8 (by kernel_rfl)))
      have GE5 := Aside0.mk (Q_GE5 (hon 9 (by kernel_rfl)))
      have NG5 := Aside0.mk (Q_NG5 (hon 9 (by kernel_rfl)))
      have NT5 := Aside0.mk (Q_NT5 (hon 9 (by kernel_rfl)))
      have NU5 := Aside0.mk (Q_NU5 (hon 9 (by kernel_rfl)))
      have N45 := Aside0.mk (Q_N45 (hon 8 (by kernel_rfl)) (hon 9 (by kernel_rfl)))
      have A4 := Aside0.mk (Q_A4 (hon 8 (by kernel_rfl)) hb_)
      have A5 := Aside0.mk (Q_A5 (hon 9 (by kernel_rfl)) (hoff 11 (by kernel_rfl)))
      have hk4 : w'.cell? ⟨g4, 0, none⟩ = some (.int .i64 0) := (blk_cell A4.out 0).trans rfl
      have hf4 := blk_frozen A4.out 0
      refine skip_ (w1 := w'.setCell ⟨g4, 0, none⟩ (.int .i64 n1)) (by rfl) rfl ?_ ?_
      · go_simp
        (try rfl)
      refine hK.out _ _ ⟨n1, n2, g4, g5, m2_, m3_, m6_, m7_, m8_, m9_, (by rw [ha.out]; exact putSel_none (v := undef) rfl), below_set HB.out GE4.out, blk_far BK_G.out NG4.out _, blk_far BK_T.out NT4.out _, blk_far BK_U.out NU4.out _, (by have h_ := L4.out; simpa [World.setCell] using h_), (by have h_ := L5.out; simpa [World.setCell] using h_), Q_E1, Q_E2, Q_GE4, Q_NG4, Q_NT4, Q_NU4, Q_GE5, Q_NG5, Q_NT5, Q_NU5, Q_N45, fun _ h1_ => absurd ((up_self b 10).symm.trans h1_) (by decide), fun _ _ => blk_far A5.out (Ne.symm N45.out) _, fun _ => blk_put A4.out 0 _ rfl, fun h0_ => absurd ((hoff 11 (by kernel_rfl)).symm.trans h0_) (by decide), Q_X2_, Q_X3_, Q_X6_, Q_X7_, Q_X8_, Q_X9_⟩
    refine steps_cons ?_ ?_
    · rintro b a w' ⟨n1, n2, g4, g5, m2_, m3_, m6_, m7_, m8_, m9_, ha, Q_HB, Q_BK_G, Q_BK_T, Q_BK_U, Q_L4, Q_L5, Q_E1, Q_E2, Q_GE4, Q_NG4, Q_NT4, Q_NU4, Q_GE5, Q_NG5, Q_NT5, Q_NU5, Q_N45, Q_A4, Q_A5, Q_S4, Q_S5, Q_X2_, Q_X3_, Q_X6_, Q_X7_, Q_X8_, Q_X9_⟩ hb_ hon hoff
      refine ⟨_, rfl, fun K hK => ?_⟩
      have e5 : a.tmps[5]? = some (m9_) := by rw [ha]; exact putSel_on (e := (9, 5, m9_)) 9 rfl rfl (hon 9 (by kernel_rfl)) rfl
      rw [Q_X9_ (hon 9 (by kernel_rfl))] at e5
      have e13 : a.tmps[13]? = some (m7_) := by rw [ha]; exact putSel_on (e := (7, 13, m7_)) 7 rfl rfl (hon 7 (by kernel_rfl)) rfl
      rw [Q_X7_ (hon 7 (by kernel_rfl))] at e13
      replace ha := Aside0.mk ha
      have HB := Aside0.mk Q_HB
      have BK_G := Aside0.mk Q_BK_G
      have BK_T := Aside0.mk Q_BK_T
      have BK_U := Aside0.mk Q_BK_U
      have L4 := Aside0.mk Q_L4
      have L5 := Aside0.mk Q_L5
      have E1 := Aside0.mk (Q_E1 (hon 2 (by kernel_rfl)))
      have E2 := Aside0.mk (Q_E2 (hon 6 (by kernel_rfl)))
      have GE4 := Aside0.mk (Q_GE4 (hon 8 (by kernel_rfl)))
      have NG4 := Aside0.mk (Q_NG4 (hon 8 (by kernel_rfl)))
      have NT4 := Aside0.mk (Q_NT4 (hon 8 (by kernel_rfl)))
      have NU4 := Aside0.mk (Q_NU4 (hon 8 (by kernel_rfl)))
      have GE5 := Aside0.mk (Q_GE5 (hon 9 (by kernel_rfl)))
      have NG5 := Aside0.mk (Q_NG5 (hon 9 (by kernel_rfl)))
      have NT5 := Aside0.mk (Q_NT5 (hon 9 (by kernel_rfl)))
      have NU5 := Aside0.mk (Q_NU5 (hon 9 (by kernel_rfl)))
      have N45 := Aside0.mk (Q_N45 (hon 8 (by kernel_rfl)) (hon 9 (by kernel_rfl)))
      have A5 := Aside0.mk (Q_A5 (hon 9 (by kernel_rfl)) hb_)
      have S4 := Aside0.mk (Q_S4 (hon 10 (by kernel_rfl)))
      have hk5 : w'.cell? ⟨g5, 0, none⟩ = some (.int .i64 0) := (blk_cell A5.out 0).trans rfl
      have hf5 := blk_frozen A5.out 0
      refine skip_ (w1 := w'.setCell ⟨g5, 0, none⟩ (.int .i64 n2)) (by rfl) rfl ?_ ?_
      · go_simp
        (try rfl)
      refine hK.out _ _ ⟨n1, n2, g4, g5, m2_, m3_, m6_, m7_, m8_, m9_, (by rw [ha.out]; exact putSel_none (v := undef) rfl), below_set HB.out GE5.out, blk_far BK_G.out NG5.out _, blk_far BK_T.out NT5.out _, blk_far BK_U.out NU5.out _, (by have h_ := L4.out; simpa [World.setCell] using h_), (by have h_ := L5.out; simpa [World.setCell] using h_), Q_E1, Q_E2, Q_GE4, Q_NG4, Q_NT4, Q_NU4, Q_GE5, Q_NG5, Q_NT5, Q_NU5, Q_N45, fun _ h1_ => absurd ((hon 10 (by kernel_rfl)).symm.trans h1_) (by decide), fun _ h1_ => absurd ((up_self b 11).symm.trans h1_) (by decide), fun _ => blk_far S4.out N45.out _, fun _ => blk_put A5.out 0 _ rfl, Q_X2_, Q_X3_, Q_X6_, Q_X7_, Q_X8_, Q_X9_⟩
    exact steps_nil
  · rintro b a w' hall ⟨n1, n2, g4, g5, m2_, m3_, m6_, m7_, m8_, m9_, ha, Q_HB, Q_BK_G, Q_BK_T, Q_BK_U, Q_L4, Q_L5, Q_E1, Q_E2, Q_GE4, Q_NG4, Q_NT4, Q_NU4, Q_GE5, Q_NG5, Q_NT5, Q_NU5, Q_N45, Q_A4, Q_A5, Q_S4, Q_S5, Q_X2_, Q_X3_, Q_X6_, Q_X7_, Q_X8_, Q_X9_⟩
    clear BK_G BK_T BK_U HB L4 L5
    have hb0_ := hall 0 (by kernel_rfl)
    have hb1_ := hall 1 (by kernel_rfl)
    have hb2_ := hall 2 (by kernel_rfl)
    have hb3_ := hall 3 (by kernel_rfl)
    have hb4_ := hall 4 (by kernel_rfl)
    have hb5_ := hall 5 (by kernel_rfl)
    have hb6_ := hall 6 (by kernel_rfl)
    have hb7_ := hall 7 (by kernel_rfl)
    have hb8_ := hall 8 (by kernel_rfl)
    have hb9_ := hall 9 (by kernel_rfl)
    have hb10_ := hall 10 (by kernel_rfl)
    have hb11_ := hall 11 (by kernel_rfl)
    subst ha
    obtain rfl := Q_X2_ hb2_
    obtain rfl := Q_X3_ hb3_
    obtain rfl := Q_X6_ hb6_
    obtain rfl := Q_X7_ hb7_
    obtain rfl := Q_X8_ hb8_
    obtain rfl := Q_X9_ hb9_
    simp only [putSel, hb0_, hb1_, hb2_, hb3_, hb4_, hb5_, hb6_, hb7_, hb8_, hb9_, hb10_, hb11_, if_true, Act.put, List.setIfInBounds_toArray, List.set_cons_zero, List.set_cons_succ]
    have HB := Aside0.mk Q_HB
    clear Q_HB
    have BK_G := Aside0.mk Q_BK_G
    clear Q_BK_G
    have BK_T := Aside0.mk Q_BK_T
    clear Q_BK_T
    have BK_U := Aside0.mk Q_BK_U
    clear Q_BK_U
    have L4 := Aside0.mk Q_L4
    clear Q_L4
    have L5 := Aside0.mk Q_L5
    clear Q_L5
    have E1 := Aside0.mk (Q_E1 hb2_)
    clear Q_E1
    have E2 := Aside0.mk (Q_E2 hb6_)
    clear Q_E2
    have GE4 := Aside0.mk (Q_GE4 hb8_)
    clear Q_GE4
    have NG4 := Aside0.mk (Q_NG4 hb8_)
    clear Q_NG4
    have NT4 := Aside0.mk (Q_NT4 hb8_)
    clear Q_NT4
    have NU4 := Aside0.mk (Q_NU4 hb8_)
    clear Q_NU4
    have GE5 := Aside0.mk (Q_GE5 hb9_)
    clear Q_GE5
    have NG5 := Aside0.mk (Q_NG5 hb9_)
    clear Q_NG5
    have NT5 := Aside0.mk (Q_NT5 hb9_)
    clear Q_NT5
    have NU5 := Aside0.mk (Q_NU5 hb9_)
    clear Q_NU5
    have N45 := Aside0.mk (Q_N45 hb8_ hb9_)
    clear Q_N45
    clear Q_A4
    clear Q_A5
    have S4 := Aside0.mk (Q_S4 hb10_)
    clear Q_S4
    have S5 := Aside0.mk (Q_S5 hb11_)
    clear Q_S5
    clear hall hb0_ hb1_ hb2_ hb3_ hb4_ hb5_ hb6_ hb7_ hb8_ hb9_ hb10_ hb11_
    have hs4 : w'.cell? ⟨g4, 0, none⟩ = some (.int .i64 n1) := (blk_cell S4.out 0).trans rfl
    have hs5 : w'.cell? ⟨g5, 0, none⟩ = some (.int .i64 n2) := (blk_cell S5.out 0).trans rfl
    have h51 := fun (W : World) => eq51_at W n1 n2
    go_wp2
    · go_ret
      refine ⟨_, rfl, ?_, by repeat (first | (with_reducible first | exact HB.out | apply below_alloc | apply pw_below_drewN | apply below_drew1) | exact HB.out)⟩
      intro q1 q2 q3 q4 q5 q6 q7
      rw [← E1.out q1 q2 q3 q4 q5, ← E2.out q1 q2 q3 q6 q7]
      unfold cmpZ
      have hq : n1 = n2 := beq_iff_eq.mp (by assumption)
      rw [if_pos hq]
    · go_ret
      refine ⟨_, rfl, ?_, by repeat (first | (with_reducible first | exact HB.out | apply below_alloc | apply pw_below_drewN | apply below_drew1) | exact HB.out)⟩
      intro q1 q2 q3 q4 q5 q6 q7
      rw [← E1.out q1 q2 q3 q4 q5, ← E2.out q1 q2 q3 q6 q7]
      unfold cmpZ
      have hq : ¬ n1 = n2 := beq_eq_false_iff_ne.mp (by assumption)
      rw [if_neg hq, if_pos (by assumption)]
    · go_ret
      refine ⟨_, rfl, ?_, by repeat (first | (with_reducible first | exact HB.out | apply below_alloc | apply pw_below_drewN | apply below_drew1) | exact HB.out)⟩
      intro q1 q2 q3 q4 q5 q6 q7
      rw [← E1.out q1 q2 q3 q4 q5, ← E2.out q1 q2 q3 q6 q7]
      unfold cmpZ
      have hq : ¬ n1 = n2 := beq_eq_false_iff_ne.mp (by assumption)
      rw [if_neg hq, if_neg (by omega)]
section
variable {P : Program} {ops : Array Oper} {rest : List Oper} {o : Oper} {a : Act} {Q : Exit → Act → World → Prop}
theorem lit_event {W : World} (hgd : o.guard = none) {N : Tmp} (_hd : o.dst = some N) {cs : Array Value} {t : TypeId} {n : Nat}
    (hrun : (execOp a.eval o).run P W = .ok (.value (.slice (some ⟨W.heap.size, 0, none⟩) n n)) (W.alloc (.cells cs t (0, 0))))
    (h : ∀ g, g = W.heap.size → ∀ w1, w1.heap[g]? = some (.cells cs t (0, 0)) → Below W.heap.size W w1 → wpList P ops Q rest (a.put o.dst (.slice (some ⟨g, 0, none⟩) n n)) w1) : wpList P ops Q (o :: rest) a W :=
  Kd.event_run hgd hrun (h _ rfl _ (blk_new W _) (below_alloc (Below.refl _ _) _))
end
theorem lat_of_m (a g : Int) (r : Bool) (m : Int) (w : World) (h : lattice_Right.f a g = some r) (hm : mx (wrap64 (a + g)) 1 = m) :
    Calls Try.prog 27 #[.agg #[.int .i64 a, .int .i64 g]] w fun e w' => ∃ b : Nat, e = .returned (.agg #[.int .i64 a, .int .i64 g, .int .i64 m, .func (.func 38) #[] #[.pointer (some ⟨b, 0, none⟩)]]) ∧ w.heap.size ≤ b ∧ w'.heap[b]? = some (.cells #[.bool r] 4 (0, 0)) ∧ Below w.heap.size w w' := by
  subst hm
  exact lat_of a g r w h
def rightB (a g : Int) : Bool := (decide (1 ≤ a) && decide (a ≤ 10000)) && (decide (1 ≤ g) && decide (g ≤ 10000))
theorem right_eq (a g : Int) : lattice_Right.f a g = some (rightB a g) := by
  unfold lattice_Right.f lattice_within.f rightB
  by_cases h1 : a ≥ 1 <;> by_cases h2 : a ≤ 10000 <;> by_cases h3 : g ≥ 1 <;> by_cases h4 : g ≤ 10000 <;> simp [h1, h2, h3, h4] <;> omega
theorem right_of {a g : Int} (h : rightB a g = true) : 1 ≤ a ∧ a ≤ 10000 ∧ 1 ≤ g ∧ g ≤ 10000 := by
  simpa [rightB, and_assoc] using h
theorem mx_one (x : Int) : 1 ≤ mx x 1 := by
  unfold mx
  split <;> omega
theorem mx_right {a g : Int} (h : rightB a g = true) : mx (wrap64 (a + g)) 1 = a + g := by
  have h1 := right_of h
  rw [w64' (by omega) (by omega)]
  unfold mx
  rw [if_neg (by omega)]
theorem inT_of {t : Int} (h : inT t = true) : -1099511627776 ≤ t ∧ t ≤ 1099511627776 := by
  simpa [inT] using h
def okL (a g t : Int) : Bool := rightB a g && inT t
theorem okL_right {a g t : Int} (h : okL a g t = true) : rightB a g = true := (Bool.and_eq_true_iff.mp h).1
set_option maxHeartbeats 1000000 in
set_option maxRecDepth 100000 in
theorem lat_next (a g t : Int) (r : Bool) (w : World) (hr_ : lattice_Right.f a g = some r) (hok0_ : (r && inT t) = true) (hR : rightB a g = true) :
    Calls Try.prog 16 #[.agg #[.int .i64 a, .int .i64 g], .int .i64 t] w fun e w' => e = .returned (.tuple #[.int .i64 (nextZ a (a + g) t), .int .i64 0]) ∧ Below w.heap.size w w' := by
  have hu23 := Try.underlying23
  have hu44 := Try.underlying44
  have hu52 := Try.underlying52
  obtain ⟨m, hm_⟩ : ∃ m, mx (wrap64 (a + g)) 1 = m := ⟨_, rfl⟩
  have h1 : 1 ≤ m := by rw [← hm_]; exact mx_one _
  have hq := right_of hR
  have hmr : m = a + g := by rw [← hm_]; exact mx_right hR
  have hi0 := inT_of (t := t) (by simpa using (Bool.and_eq_true_iff.mp hok0_).2)
  rw [← hmr]
  have hmg : m ≤ 20000 := by omega
  clear hmr hR
  have hm := Aside0.mk hm_
  have hr := Aside0.mk hr_
  clear hm_ hr_
  have hok0 := Aside0.mk hok0_
  clear hok0_
  have HB := Aside0.mk (Below.refl w.heap.size w)
  go_enter Try.func16, Try.ntmps16
  go_wp2_with (first | ((with_reducible refine gate_dst (N := 2) rfl ?_); refine box_event ?hg (N := 2) ?hd (cs := #[.int .i64 a, .int .i64 g]) (t := 23) ?hr ?_; (case hd => rfl); (case hg => rfl); (case hr => first | (go_simp; done) | (go_simp; rfl)); intro g_L hg w1 hbox hb; have GE_L := Aside0.mk (by rw [hg]; exact (below_size (HB.out)) : w.heap.size ≤ g_L); have m_HB := Aside0.mk (below_step (HB.out) hb); have k_L := Aside0.mk hbox; clear hb hbox hg; clear HB; have HB := m_HB; clear m_HB; have BK_L := k_L; clear k_L; have hc1_L_0 : w1.cell? ⟨g_L, 0, none⟩ = some (.int .i64 a) := (blk_cell BK_L.out 0).trans rfl; have hc1_L_1 : w1.cell? ⟨g_L, 1, none⟩ = some (.int .i64 g) := (blk_cell BK_L.out 1).trans rfl; have hf1_L_0 := blk_frozen BK_L.out 0; have hf1_L_1 := blk_frozen BK_L.out 1) | ((with_reducible refine gate_dst (N := 3) rfl ?_); refine box_event ?hg (N := 3) ?hd (cs := #[.int .i64 t]) (t := 3) ?hr ?_; (case hd => rfl); (case hg => rfl); (case hr => first | (go_simp; done) | (go_simp; rfl)); intro g_T hg w2 hbox hb; have GE_T := Aside0.mk (by rw [hg]; exact (below_size (HB.out)) : w.heap.size ≤ g_T); have m_L := Aside0.mk (blk_below (g := g_L) (o := .cells #[.int .i64 a, .int .i64 g] 23 (0, 0)) (BK_L.out) hb); have m_HB := Aside0.mk (below_step (HB.out) hb); have k_T := Aside0.mk hbox; clear hb hbox hg; clear HB; clear BK_L; have HB := m_HB; have BK_L := m_L; clear m_HB; clear m_L; have BK_T := k_T; clear k_T; have hc2_L_0 : w2.cell? ⟨g_L, 0, none⟩ = some (.int .i64 a) := (blk_cell BK_L.out 0).trans rfl; have hc2_L_1 : w2.cell? ⟨g_L, 1, none⟩ = some (.int .i64 g) := (blk_cell BK_L.out 1).trans rfl; have hc2_T_0 : w2.cell? ⟨g_T, 0, none⟩ = some (.int .i64 t) := (blk_cell BK_T.out 0).trans rfl; have hf2_T_0 := blk_frozen BK_T.out 0) | (go_at_call 27; (with_reducible refine (lat_of_m a g r m _ hr.out hm.out).mono ?_); rintro e w5 ⟨g_S, rfl, hge, hS, hb⟩; have GE_S := Aside0.mk (Nat.le_trans (below_size (HB.out)) hge : w.heap.size ≤ g_S); have k_S := Aside0.mk hS; clear hS; have m_L := Aside0.mk (blk_below (g := g_L) (o := .cells #[.int .i64 a, .int .i64 g] 23 (0, 0)) (BK_L.out) hb); have m_T := Aside0.mk (blk_below (g := g_T) (o := .cells #[.int .i64 t] 3 (0, 0)) (BK_T.out) hb); have m_HB := Aside0.mk (below_step (HB.out) hb); clear hb; clear HB; clear BK_L; clear BK_T; have HB := m_HB; have BK_L := m_L; have BK_T := m_T; clear m_HB; clear m_L; clear m_T; have BK_S := k_S; clear k_S; have hc3_L_0 : w5.cell? ⟨g_L, 0, none⟩ = some (.int .i64 a) := (blk_cell BK_L.out 0).trans rfl; have hc3_L_1 : w5.cell? ⟨g_L, 1, none⟩ = some (.int .i64 g) := (blk_cell BK_L.out 1).trans rfl; have hc3_T_0 : w5.cell? ⟨g_T, 0, none⟩ = some (.int .i64 t) := (blk_cell BK_T.out 0).trans rfl; have hc3_S_0 : w5.cell? ⟨g_S, 0, none⟩ = some (.bool r) := (blk_cell BK_S.out 0).trans rfl) | ((with_reducible refine gate_dst (N := 6) rfl ?_); refine box_event ?hg (N := 6) ?hd (cs := #[.int .i64 0, .int .i64 0, .int .i64 0, .nilFunc]) (t := 44) ?hr ?_; (case hd => rfl); (case hg => rfl); (case hr => first | (go_simp; done) | (go_simp; rfl)); intro g_G hg w6 hbox hb; have GE_G := Aside0.mk (by rw [hg]; exact (below_size (HB.out)) : w.heap.size ≤ g_G); have NE_L_G := Aside0.mk (by rw [hg]; exact Nat.ne_of_lt (blk_lt (o := .cells #[.int .i64 a, .int .i64 g] 23 (0, 0)) (BK_L.out)) : g_L ≠ g_G); have NE_G_L := Aside0.mk (Ne.symm NE_L_G.out); have ne_L_G := NE_L_G.out; have ne_G_L := NE_G_L.out; have NE_T_G := Aside0.mk (by rw [hg]; exact Nat.ne_of_lt (blk_lt (o := .cells #[.int .i64 t] 3 (0, 0)) (BK_T.out)) : g_T ≠ g_G); have NE_G_T := Aside0.mk (Ne.symm NE_T_G.out); have ne_T_G := NE_T_G.out; have ne_G_T := NE_G_T.out; have NE_S_G := Aside0.mk (by rw [hg]; exact Nat.ne_of_lt (blk_lt (o := .cells #[.bool r] 4 (0, 0)) (BK_S.out)) : g_S ≠ g_G); have NE_G_S := Aside0.mk (Ne.symm NE_S_G.out); have ne_S_G := NE_S_G.out; have ne_G_S := NE_G_S.out; have m_L := Aside0.mk (blk_below (g := g_L) (o := .cells #[.int .i64 a, .int .i64 g] 23 (0, 0)) (BK_L.out) hb); have m_T := Aside0.mk (blk_below (g := g_T) (o := .cells #[.int .i64 t] 3 (0, 0)) (BK_T.out) hb); have m_S := Aside0.mk (blk_below (g := g_S) (o := .cells #[.bool r] 4 (0, 0)) (BK_S.out) hb); have m_HB := Aside0.mk (below_step (HB.out) hb); have k_G := Aside0.mk hbox; clear hb hbox hg; clear HB; clear BK_L; clear BK_T; clear BK_S; have HB := m_HB; have BK_L := m_L; have BK_T := m_T; have BK_S := m_S; clear m_HB; clear m_L; clear m_T; clear m_S; have BK_G := k_G; clear k_G; have hc4_L_0 : w6.cell? ⟨g_L, 0, none⟩ = some (.int .i64 a) := (blk_cell BK_L.out 0).trans rfl; have hc4_L_1 : w6.cell? ⟨g_L, 1, none⟩ = some (.int .i64 g) := (blk_cell BK_L.out 1).trans rfl; have hc4_T_0 : w6.cell? ⟨g_T, 0, none⟩ = some (.int .i64 t) := (blk_cell BK_T.out 0).trans rfl; have hc4_S_0 : w6.cell? ⟨g_S, 0, none⟩ = some (.bool r) := (blk_cell BK_S.out 0).trans rfl; have hc4_G_0 : w6.cell? ⟨g_G, 0, none⟩ = some (.int .i64 0) := (blk_cell BK_G.out 0).trans rfl; have hc4_G_1 : w6.cell? ⟨g_G, 1, none⟩ = some (.int .i64 0) := (blk_cell BK_G.out 1).trans rfl; have hc4_G_2 : w6.cell? ⟨g_G, 2, none⟩ = some (.int .i64 0) := (blk_cell BK_G.out 2).trans rfl; have hc4_G_3 : w6.cell? ⟨g_G, 3, none⟩ = some (.nilFunc) := (blk_cell BK_G.out 3).trans rfl; have hf4_G_0 := blk_frozen BK_G.out 0; have hf4_G_1 := blk_frozen BK_G.out 1; have hf4_G_2 := blk_frozen BK_G.out 2; have hf4_G_3 := blk_frozen BK_G.out 3) | ((with_reducible refine gate_dst (N := 12) rfl ?_); refine lit_event (n := 1) ?hg (N := 12) ?hd (cs := #[.int .i64 t]) (t := 3) ?hr ?_; (case hd => rfl); (case hg => rfl); (case hr => first | (go_simp; done) | (go_simp; rfl)); intro g_N hg w7 hbox hb; have GE_N := Aside0.mk (by rw [hg]; exact (below_size (by repeat (first | (with_reducible first | exact HB.out | apply below_alloc | apply pw_below_drewN | apply below_drew1 | refine below_set ?_ GE_L.out | refine below_set ?_ GE_T.out | refine below_set ?_ GE_S.out | refine below_set ?_ GE_G.out) | exact HB.out))) : w.heap.size ≤ g_N); have NE_G_N := Aside0.mk (by rw [hg]; exact Nat.ne_of_lt (blk_lt (o := .cells #[.int .i64 a, .int .i64 g, .int .i64 m, .func (.func 38) #[] #[.pointer (some ⟨g_S, 0, none⟩)]] 44 (0, 0)) (by refine blk_put (cs := #[.int .i64 a, .int .i64 g, .int .i64 m, .nilFunc]) ?_ 3 _ rfl; refine blk_put (cs := #[.int .i64 a, .int .i64 g, .int .i64 0, .nilFunc]) ?_ 2 _ rfl; refine blk_put (cs := #[.int .i64 a, .int .i64 0, .int .i64 0, .nilFunc]) ?_ 1 _ rfl; refine blk_put (cs := #[.int .i64 0, .int .i64 0, .int .i64 0, .nilFunc]) ?_ 0 _ rfl; exact BK_G.out)) : g_G ≠ g_N); have NE_N_G := Aside0.mk (Ne.symm NE_G_N.out); have ne_G_N := NE_G_N.out; have ne_N_G := NE_N_G.out; have m_L := Aside0.mk (blk_below (g := g_L) (o := .cells #[.int .i64 a, .int .i64 g] 23 (0, 0)) (by refine blk_far ?_ NE_L_G.out _; refine blk_far ?_ NE_L_G.out _; refine blk_far ?_ NE_L_G.out _; refine blk_far ?_ NE_L_G.out _; exact BK_L.out) hb); have m_T := Aside0.mk (blk_below (g := g_T) (o := .cells #[.int .i64 t] 3 (0, 0)) (by refine blk_far ?_ NE_T_G.out _; refine blk_far ?_ NE_T_G.out _; refine blk_far ?_ NE_T_G.out _; refine blk_far ?_ NE_T_G.out _; exact BK_T.out) hb); have m_S := Aside0.mk (blk_below (g := g_S) (o := .cells #[.bool r] 4 (0, 0)) (by refine blk_far ?_ NE_S_G.out _; refine blk_far ?_ NE_S_G.out _; refine blk_far ?_ NE_S_G.out _; refine blk_far ?_ NE_S_G.out _; exact BK_S.out) hb); have m_G := Aside0.mk (blk_below (g := g_G) (o := .cells #[.int .i64 a, .int .i64 g, .int .i64 m, .func (.func 38) #[] #[.pointer (some ⟨g_S, 0, none⟩)]] 44 (0, 0)) (by refine blk_put (cs := #[.int .i64 a, .int .i64 g, .int .i64 m, .nilFunc]) ?_ 3 _ rfl; refine blk_put (cs := #[.int .i64 a, .int .i64 g, .int .i64 0, .nilFunc]) ?_ 2 _ rfl; refine blk_put (cs := #[.int .i64 a, .int .i64 0, .int .i64 0, .nilFunc]) ?_ 1 _ rfl; refine blk_put (cs := #[.int .i64 0, .int .i64 0, .int .i64 0, .nilFunc]) ?_ 0 _ rfl; exact BK_G.out) hb); have m_HB := Aside0.mk (below_step (by repeat (first | (with_reducible first | exact HB.out | apply below_alloc | apply pw_below_drewN | apply below_drew1 | refine below_set ?_ GE_L.out | refine below_set ?_ GE_T.out | refine below_set ?_ GE_S.out | refine below_set ?_ GE_G.out) | exact HB.out)) hb); have k_N := Aside0.mk hbox; clear hb hbox hg; clear HB; clear BK_L; clear BK_T; clear BK_S; clear BK_G; have HB := m_HB; have BK_L := m_L; have BK_T := m_T; have BK_S := m_S; have BK_G := m_G; clear m_HB; clear m_L; clear m_T; clear m_S; clear m_G; have BK_N := k_N; clear k_N; have hc5_L_0 : w7.cell? ⟨g_L, 0, none⟩ = some (.int .i64 a) := (blk_cell BK_L.out 0).trans rfl; have hc5_L_1 : w7.cell? ⟨g_L, 1, none⟩ = some (.int .i64 g) := (blk_cell BK_L.out 1).trans rfl; have hc5_T_0 : w7.cell? ⟨g_T, 0, none⟩ = some (.int .i64 t) := (blk_cell BK_T.out 0).trans rfl; have hc5_S_0 : w7.cell? ⟨g_S, 0, none⟩ = some (.bool r) := (blk_cell BK_S.out 0).trans rfl; have hc5_G_0 : w7.cell? ⟨g_G, 0, none⟩ = some (.int .i64 a) := (blk_cell BK_G.out 0).trans rfl; have hc5_G_1 : w7.cell? ⟨g_G, 1, none⟩ = some (.int .i64 g) := (blk_cell BK_G.out 1).trans rfl; have hc5_G_2 : w7.cell? ⟨g_G, 2, none⟩ = some (.int .i64 m) := (blk_cell BK_G.out 2).trans rfl; have hc5_G_3 : w7.cell? ⟨g_G, 3, none⟩ = some (.func (.func 38) #[] #[.pointer (some ⟨g_S, 0, none⟩)]) := (blk_cell BK_G.out 3).trans rfl; have hc5_N_0 : w7.cell? ⟨g_N, 0, none⟩ = some (.int .i64 t) := (blk_cell BK_N.out 0).trans rfl; have hf5_N_0 := blk_frozen BK_N.out 0) | (go_at_call 28; (with_reducible refine (lat_guard_ok_29 a g m t g_S g_N r (fun v => v = nextZ a m t) #[.pointer (some ⟨g_G, 0, none⟩), .pointer (some ⟨g_T, 0, none⟩), .pointer (some ⟨g_L, 0, none⟩)] _ (BK_S.out) (BK_N.out) hok0.out (fun W hbW => (lat_next1 a g m t g_S g_G g_T g_L W h1 (blk_below (g := g_G) (o := .cells #[.int .i64 a, .int .i64 g, .int .i64 m, .func (.func 38) #[] #[.pointer (some ⟨g_S, 0, none⟩)]] 44 (0, 0)) (BK_G.out) hbW) (blk_below (g := g_T) (o := .cells #[.int .i64 t] 3 (0, 0)) (BK_T.out) hbW) (blk_below (g := g_L) (o := .cells #[.int .i64 a, .int .i64 g] 23 (0, 0)) (BK_L.out) hbW)).mono (fun e w' ⟨v, he, hv, hb⟩ => ⟨v, he, hv hmg (by omega) (by omega), hb⟩))).mono ?_); rintro e w8 ⟨v, rfl, rfl, hb⟩; have m_L := Aside0.mk (blk_below (g := g_L) (o := .cells #[.int .i64 a, .int .i64 g] 23 (0, 0)) (BK_L.out) hb); have m_T := Aside0.mk (blk_below (g := g_T) (o := .cells #[.int .i64 t] 3 (0, 0)) (BK_T.out) hb); have m_S := Aside0.mk (blk_below (g := g_S) (o := .cells #[.bool r] 4 (0, 0)) (BK_S.out) hb); have m_G := Aside0.mk (blk_below (g := g_G) (o := .cells #[.int .i64 a, .int .i64 g, .int .i64 m, .func (.func 38) #[] #[.pointer (some ⟨g_S, 0, none⟩)]] 44 (0, 0)) (BK_G.out) hb); have m_N := Aside0.mk (blk_below (g := g_N) (o := .cells #[.int .i64 t] 3 (0, 0)) (BK_N.out) hb); have m_HB := Aside0.mk (below_step (HB.out) hb); clear hb; clear HB; clear BK_L; clear BK_T; clear BK_S; clear BK_G; clear BK_N; have HB := m_HB; have BK_L := m_L; have BK_T := m_T; have BK_S := m_S; have BK_G := m_G; have BK_N := m_N; clear m_HB; clear m_L; clear m_T; clear m_S; clear m_G; clear m_N; have hc6_L_0 : w8.cell? ⟨g_L, 0, none⟩ = some (.int .i64 a) := (blk_cell BK_L.out 0).trans rfl; have hc6_L_1 : w8.cell? ⟨g_L, 1, none⟩ = some (.int .i64 g) := (blk_cell BK_L.out 1).trans rfl; have hc6_T_0 : w8.cell? ⟨g_T, 0, none⟩ = some (.int .i64 t) := (blk_cell BK_T.out 0).trans rfl; have hc6_S_0 : w8.cell? ⟨g_S, 0, none⟩ = some (.bool r) := (blk_cell BK_S.out 0).trans rfl; have hc6_G_0 : w8.cell? ⟨g_G, 0, none⟩ = some (.int .i64 a) := (blk_cell BK_G.out 0).trans rfl; have hc6_G_1 : w8.cell? ⟨g_G, 1, none⟩ = some (.int .i64 g) := (blk_cell BK_G.out 1).trans rfl; have hc6_G_2 : w8.cell? ⟨g_G, 2, none⟩ = some (.int .i64 m) := (blk_cell BK_G.out 2).trans rfl; have hc6_G_3 : w8.cell? ⟨g_G, 3, none⟩ = some (.func (.func 38) #[] #[.pointer (some ⟨g_S, 0, none⟩)]) := (blk_cell BK_G.out 3).trans rfl; have hc6_N_0 : w8.cell? ⟨g_N, 0, none⟩ = some (.int .i64 t) := (blk_cell BK_N.out 0).trans rfl))
  go_ret2
  exact ⟨rfl, HB.out⟩
set_option maxHeartbeats 1000000 in
set_option maxRecDepth 100000 in
theorem lat_next_no0 (a g t : Int) (r : Bool) (w : World) (hr_ : lattice_Right.f a g = some r) (hok0_ : (r && inT t) = false) :
    Calls Try.prog 16 #[.agg #[.int .i64 a, .int .i64 g], .int .i64 t] w fun e w' => e = .returned (.tuple #[.int .i64 0, .int .i64 1]) ∧ Below w.heap.size w w' := by
  have hu23 := Try.underlying23
  have hu44 := Try.underlying44
  have hu52 := Try.underlying52
  obtain ⟨m, hm_⟩ : ∃ m, mx (wrap64 (a + g)) 1 = m := ⟨_, rfl⟩
  have h1 : 1 ≤ m := by rw [← hm_]; exact mx_one _
  have hm := Aside0.mk hm_
  have hr := Aside0.mk hr_
  clear hm_ hr_
  have hok0 := Aside0.mk hok0_
  clear hok0_
  have HB := Aside0.mk (Below.refl w.heap.size w)
  go_enter Try.func16, Try.ntmps16
  go_wp2_with (first | ((with_reducible refine gate_dst (N := 2) rfl ?_); refine box_event ?hg (N := 2) ?hd (cs := #[.int .i64 a, .int .i64 g]) (t := 23) ?hr ?_; (case hd => rfl); (case hg => rfl); (case hr => first | (go_simp; done) | (go_simp; rfl)); intro g_L hg w1 hbox hb; have GE_L := Aside0.mk (by rw [hg]; exact (below_size (HB.out)) : w.heap.size ≤ g_L); have m_HB := Aside0.mk (below_step (HB.out) hb); have k_L := Aside0.mk hbox; clear hb hbox hg; clear HB; have HB := m_HB; clear m_HB; have BK_L := k_L; clear k_L; have hc1_L_0 : w1.cell? ⟨g_L, 0, none⟩ = some (.int .i64 a) := (blk_cell BK_L.out 0).trans rfl; have hc1_L_1 : w1.cell? ⟨g_L, 1, none⟩ = some (.int .i64 g) := (blk_cell BK_L.out 1).trans rfl; have hf1_L_0 := blk_frozen BK_L.out 0; have hf1_L_1 := blk_frozen BK_L.out 1) | ((with_reducible refine gate_dst (N := 3) rfl ?_); refine box_event ?hg (N := 3) ?hd (cs := #[.int .i64 t]) (t := 3) ?hr ?_; (case hd => rfl); (case hg => rfl); (case hr => first | (go_simp; done) | (go_simp; rfl)); intro g_T hg w2 hbox hb; have GE_T := Aside0.mk (by rw [hg]; exact (below_size (HB.out)) : w.heap.size ≤ g_T); have m_L := Aside0.mk (blk_below (g := g_L) (o := .cells #[.int .i64 a, .int .i64 g] 23 (0, 0)) (BK_L.out) hb); have m_HB := Aside0.mk (below_step (HB.out) hb); have k_T := Aside0.mk hbox; clear hb hbox hg; clear HB; clear BK_L; have HB := m_HB; have BK_L := m_L; clear m_HB; clear m_L; have BK_T := k_T; clear k_T; have hc2_L_0 : w2.cell? ⟨g_L, 0, none⟩ = some (.int .i64 a) := (blk_cell BK_L.out 0).trans rfl; have hc2_L_1 : w2.cell? ⟨g_L, 1, none⟩ = some (.int .i64 g) := (blk_cell BK_L.out 1).trans rfl; have hc2_T_0 : w2.cell? ⟨g_T, 0, none⟩ = some (.int .i64 t) := (blk_cell BK_T.out 0).trans rfl; have hf2_T_0 := blk_frozen BK_T.out 0) | (go_at_call 27; (with_reducible refine (lat_of_m a g r m _ hr.out hm.out).mono ?_); rintro e w5 ⟨g_S, rfl, hge, hS, hb⟩; have GE_S := Aside0.mk (Nat.le_trans (below_size (HB.out)) hge : w.heap.size ≤ g_S); have k_S := Aside0.mk hS; clear hS; have m_L := Aside0.mk (blk_below (g := g_L) (o := .cells #[.int .i64 a, .int .i64 g] 23 (0, 0)) (BK_L.out) hb); have m_T := Aside0.mk (blk_below (g := g_T) (o := .cells #[.int .i64 t] 3 (0, 0)) (BK_T.out) hb); have m_HB := Aside0.mk (below_step (HB.out) hb); clear hb; clear HB; clear BK_L; clear BK_T; have HB := m_HB; have BK_L := m_L; have BK_T := m_T; clear m_HB; clear m_L; clear m_T; have BK_S := k_S; clear k_S; have hc3_L_0 : w5.cell? ⟨g_L, 0, none⟩ = some (.int .i64 a) := (blk_cell BK_L.out 0).trans rfl; have hc3_L_1 : w5.cell? ⟨g_L, 1, none⟩ = some (.int .i64 g) := (blk_cell BK_L.out 1).trans rfl; have hc3_T_0 : w5.cell? ⟨g_T, 0, none⟩ = some (.int .i64 t) := (blk_cell BK_T.out 0).trans rfl; have hc3_S_0 : w5.cell? ⟨g_S, 0, none⟩ = some (.bool r) := (blk_cell BK_S.out 0).trans rfl) | ((with_reducible refine gate_dst (N := 6) rfl ?_); refine box_event ?hg (N := 6) ?hd (cs := #[.int .i64 0, .int .i64 0, .int .i64 0, .nilFunc]) (t := 44) ?hr ?_; (case hd => rfl); (case hg => rfl); (case hr => first | (go_simp; done) | (go_simp; rfl)); intro g_G hg w6 hbox hb; have GE_G := Aside0.mk (by rw [hg]; exact (below_size (HB.out)) : w.heap.size ≤ g_G); have NE_L_G := Aside0.mk (by rw [hg]; exact Nat.ne_of_lt (blk_lt (o := .cells #[.int .i64 a, .int .i64 g] 23 (0, 0)) (BK_L.out)) : g_L ≠ g_G); have NE_G_L := Aside0.mk (Ne.symm NE_L_G.out); have ne_L_G := NE_L_G.out; have ne_G_L := NE_G_L.out; have NE_T_G := Aside0.mk (by rw [hg]; exact Nat.ne_of_lt (blk_lt (o := .cells #[.int .i64 t] 3 (0, 0)) (BK_T.out)) : g_T ≠ g_G); have NE_G_T := Aside0.mk (Ne.symm NE_T_G.out); have ne_T_G := NE_T_G.out; have ne_G_T := NE_G_T.out; have NE_S_G := Aside0.mk (by rw [hg]; exact Nat.ne_of_lt (blk_lt (o := .cells #[.bool r] 4 (0, 0)) (BK_S.out)) : g_S ≠ g_G); have NE_G_S := Aside0.mk (Ne.symm NE_S_G.out); have ne_S_G := NE_S_G.out; have ne_G_S := NE_G_S.out; have m_L := Aside0.mk (blk_below (g := g_L) (o := .cells #[.int .i64 a, .int .i64 g] 23 (0, 0)) (BK_L.out) hb); have m_T := Aside0.mk (blk_below (g := g_T) (o := .cells #[.int .i64 t] 3 (0, 0)) (BK_T.out) hb); have m_S := Aside0.mk (blk_below (g := g_S) (o := .cells #[.bool r] 4 (0, 0)) (BK_S.out) hb); have m_HB := Aside0.mk (below_step (HB.out) hb); have k_G := Aside0.mk hbox; clear hb hbox hg; clear HB; clear BK_L; clear BK_T; clear BK_S; have HB := m_HB; have BK_L := m_L; have BK_T := m_T; have BK_S := m_S; clear m_HB; clear m_L; clear m_T; clear m_S; have BK_G := k_G; clear k_G; have hc4_L_0 : w6.cell? ⟨g_L, 0, none⟩ = some (.int .i64 a) := (blk_cell BK_L.out 0).trans rfl; have hc4_L_1 : w6.cell? ⟨g_L, 1, none⟩ = some (.int .i64 g) := (blk_cell BK_L.out 1).trans rfl; have hc4_T_0 : w6.cell? ⟨g_T, 0, none⟩ = some (.int .i64 t) := (blk_cell BK_T.out 0).trans rfl; have hc4_S_0 : w6.cell? ⟨g_S, 0, none⟩ = some (.bool r) := (blk_cell BK_S.out 0).trans rfl; have hc4_G_0 : w6.cell? ⟨g_G, 0, none⟩ = some (.int .i64 0) := (blk_cell BK_G.out 0).trans rfl; have hc4_G_1 : w6.cell? ⟨g_G, 1, none⟩ = some (.int .i64 0) := (blk_cell BK_G.out 1).trans rfl; have hc4_G_2 : w6.cell? ⟨g_G, 2, none⟩ = some (.int .i64 0) := (blk_cell BK_G.out 2).trans rfl; have hc4_G_3 : w6.cell? ⟨g_G, 3, none⟩ = some (.nilFunc) := (blk_cell BK_G.out 3).trans rfl; have hf4_G_0 := blk_frozen BK_G.out 0; have hf4_G_1 := blk_frozen BK_G.out 1; have hf4_G_2 := blk_frozen BK_G.out 2; have hf4_G_3 := blk_frozen BK_G.out 3) | ((with_reducible refine gate_dst (N := 12) rfl ?_); refine lit_event (n := 1) ?hg (N := 12) ?hd (cs := #[.int .i64 t]) (t := 3) ?hr ?_; (case hd => rfl); (case hg => rfl); (case hr => first | (go_simp; done) | (go_simp; rfl)); intro g_N hg w7 hbox hb; have GE_N := Aside0.mk (by rw [hg]; exact (below_size (by repeat (first | (with_reducible first | exact HB.out | apply below_alloc | apply pw_below_drewN | apply below_drew1 | refine below_set ?_ GE_L.out | refine below_set ?_ GE_T.out | refine below_set ?_ GE_S.out | refine below_set ?_ GE_G.out) | exact HB.out))) : w.heap.size ≤ g_N); have NE_G_N := Aside0.mk (by rw [hg]; exact Nat.ne_of_lt (blk_lt (o := .cells #[.int .i64 a, .int .i64 g, .int .i64 m, .func (.func 38) #[] #[.pointer (some ⟨g_S, 0, none⟩)]] 44 (0, 0)) (by refine blk_put (cs := #[.int .i64 a, .int .i64 g, .int .i64 m, .nilFunc]) ?_ 3 _ rfl; refine blk_put (cs := #[.int .i64 a, .int .i64 g, .int .i64 0, .nilFunc]) ?_ 2 _ rfl; refine blk_put (cs := #[.int .i64 a, .int .i64 0, .int .i64 0, .nilFunc]) ?_ 1 _ rfl; refine blk_put (cs := #[.int .i64 0, .int .i64 0, .int .i64 0, .nilFunc]) ?_ 0 _ rfl; exact BK_G.out)) : g_G ≠ g_N); have NE_N_G := Aside0.mk (Ne.symm NE_G_N.out); have ne_G_N := NE_G_N.out; have ne_N_G := NE_N_G.out; have m_L := Aside0.mk (blk_below (g := g_L) (o := .cells #[.int .i64 a, .int .i64 g] 23 (0, 0)) (by refine blk_far ?_ NE_L_G.out _; refine blk_far ?_ NE_L_G.out _; refine blk_far ?_ NE_L_G.out _; refine blk_far ?_ NE_L_G.out _; exact BK_L.out) hb); have m_T := Aside0.mk (blk_below (g := g_T) (o := .cells #[.int .i64 t] 3 (0, 0)) (by refine blk_far ?_ NE_T_G.out _; refine blk_far ?_ NE_T_G.out _; refine blk_far ?_ NE_T_G.out _; refine blk_far ?_ NE_T_G.out _; exact BK_T.out) hb); have m_S := Aside0.mk (blk_below (g := g_S) (o := .cells #[.bool r] 4 (0, 0)) (by refine blk_far ?_ NE_S_G.out _; refine blk_far ?_ NE_S_G.out _; refine blk_far ?_ NE_S_G.out _; refine blk_far ?_ NE_S_G.out _; exact BK_S.out) hb); have m_G := Aside0.mk (blk_below (g := g_G) (o := .cells #[.int .i64 a, .int .i64 g, .int .i64 m, .func (.func 38) #[] #[.pointer (some ⟨g_S, 0, none⟩)]] 44 (0, 0)) (by refine blk_put (cs := #[.int .i64 a, .int .i64 g, .int .i64 m, .nilFunc]) ?_ 3 _ rfl; refine blk_put (cs := #[.int .i64 a, .int .i64 g, .int .i64 0, .nilFunc]) ?_ 2 _ rfl; refine blk_put (cs := #[.int .i64 a, .int .i64 0, .int .i64 0, .nilFunc]) ?_ 1 _ rfl; refine blk_put (cs := #[.int .i64 0, .int .i64 0, .int .i64 0, .nilFunc]) ?_ 0 _ rfl; exact BK_G.out) hb); have m_HB := Aside0.mk (below_step (by repeat (first | (with_reducible first | exact HB.out | apply below_alloc | apply pw_below_drewN | apply below_drew1 | refine below_set ?_ GE_L.out | refine below_set ?_ GE_T.out | refine below_set ?_ GE_S.out | refine below_set ?_ GE_G.out) | exact HB.out)) hb); have k_N := Aside0.mk hbox; clear hb hbox hg; clear HB; clear BK_L; clear BK_T; clear BK_S; clear BK_G; have HB := m_HB; have BK_L := m_L; have BK_T := m_T; have BK_S := m_S; have BK_G := m_G; clear m_HB; clear m_L; clear m_T; clear m_S; clear m_G; have BK_N := k_N; clear k_N; have hc5_L_0 : w7.cell? ⟨g_L, 0, none⟩ = some (.int .i64 a) := (blk_cell BK_L.out 0).trans rfl; have hc5_L_1 : w7.cell? ⟨g_L, 1, none⟩ = some (.int .i64 g) := (blk_cell BK_L.out 1).trans rfl; have hc5_T_0 : w7.cell? ⟨g_T, 0, none⟩ = some (.int .i64 t) := (blk_cell BK_T.out 0).trans rfl; have hc5_S_0 : w7.cell? ⟨g_S, 0, none⟩ = some (.bool r) := (blk_cell BK_S.out 0).trans rfl; have hc5_G_0 : w7.cell? ⟨g_G, 0, none⟩ = some (.int .i64 a) := (blk_cell BK_G.out 0).trans rfl; have hc5_G_1 : w7.cell? ⟨g_G, 1, none⟩ = some (.int .i64 g) := (blk_cell BK_G.out 1).trans rfl; have hc5_G_2 : w7.cell? ⟨g_G, 2, none⟩ = some (.int .i64 m) := (blk_cell BK_G.out 2).trans rfl; have hc5_G_3 : w7.cell? ⟨g_G, 3, none⟩ = some (.func (.func 38) #[] #[.pointer (some ⟨g_S, 0, none⟩)]) := (blk_cell BK_G.out 3).trans rfl; have hc5_N_0 : w7.cell? ⟨g_N, 0, none⟩ = some (.int .i64 t) := (blk_cell BK_N.out 0).trans rfl; have hf5_N_0 := blk_frozen BK_N.out 0) | (go_at_call 28; (with_reducible refine (lat_guard_no a g m t g_S g_N r 29 #[.pointer (some ⟨g_G, 0, none⟩), .pointer (some ⟨g_T, 0, none⟩), .pointer (some ⟨g_L, 0, none⟩)] _ (BK_S.out) (BK_N.out) hok0.out).mono ?_); rintro e w8 ⟨rfl, hb⟩; have m_L := Aside0.mk (blk_below (g := g_L) (o := .cells #[.int .i64 a, .int .i64 g] 23 (0, 0)) (BK_L.out) hb); have m_T := Aside0.mk (blk_below (g := g_T) (o := .cells #[.int .i64 t] 3 (0, 0)) (BK_T.out) hb); have m_S := Aside0.mk (blk_below (g := g_S) (o := .cells #[.bool r] 4 (0, 0)) (BK_S.out) hb); have m_G := Aside0.mk (blk_below (g := g_G) (o := .cells #[.int .i64 a, .int .i64 g, .int .i64 m, .func (.func 38) #[] #[.pointer (some ⟨g_S, 0, none⟩)]] 44 (0, 0)) (BK_G.out) hb); have m_N := Aside0.mk (blk_below (g := g_N) (o := .cells #[.int .i64 t] 3 (0, 0)) (BK_N.out) hb); have m_HB := Aside0.mk (below_step (HB.out) hb); clear hb; clear HB; clear BK_L; clear BK_T; clear BK_S; clear BK_G; clear BK_N; have HB := m_HB; have BK_L := m_L; have BK_T := m_T; have BK_S := m_S; have BK_G := m_G; have BK_N := m_N; clear m_HB; clear m_L; clear m_T; clear m_S; clear m_G; clear m_N; have hc6_L_0 : w8.cell? ⟨g_L, 0, none⟩ = some (.int .i64 a) := (blk_cell BK_L.out 0).trans rfl; have hc6_L_1 : w8.cell? ⟨g_L, 1, none⟩ = some (.int .i64 g) := (blk_cell BK_L.out 1).trans rfl; have hc6_T_0 : w8.cell? ⟨g_T, 0, none⟩ = some (.int .i64 t) := (blk_cell BK_T.out 0).trans rfl; have hc6_S_0 : w8.cell? ⟨g_S, 0, none⟩ = some (.bool r) := (blk_cell BK_S.out 0).trans rfl; have hc6_G_0 : w8.cell? ⟨g_G, 0, none⟩ = some (.int .i64 a) := (blk_cell BK_G.out 0).trans rfl; have hc6_G_1 : w8.cell? ⟨g_G, 1, none⟩ = some (.int .i64 g) := (blk_cell BK_G.out 1).trans rfl; have hc6_G_2 : w8.cell? ⟨g_G, 2, none⟩ = some (.int .i64 m) := (blk_cell BK_G.out 2).trans rfl; have hc6_G_3 : w8.cell? ⟨g_G, 3, none⟩ = some (.func (.func 38) #[] #[.pointer (some ⟨g_S, 0, none⟩)]) := (blk_cell BK_G.out 3).trans rfl; have hc6_N_0 : w8.cell? ⟨g_N, 0, none⟩ = some (.int .i64 t) := (blk_cell BK_N.out 0).trans rfl))
  go_ret2
  exact ⟨rfl, HB.out⟩

/-! ### lattice_Next: function 16 (given) -/
def lattice_Next.f (a0_0 : Int) (a0_1 : Int) (a1 : Int) : Option (Int × Int) := some (if okL a0_0 a0_1 a1 = true then (nextZ a0_0 (a0_0 + a0_1) a1, 0) else (0, 1))
theorem lattice_Next.calls (a0_0 : Int) (a0_1 : Int) (a1 : Int) (r1 : Int) (r2 : Int) (w : World) (h : lattice_Next.f a0_0 a0_1 a1 = some (r1, r2)) :
    Calls Try.prog 16 #[.agg #[.int .i64 a0_0, .int .i64 a0_1], .int .i64 a1] w fun e w' => e = .returned (.tuple #[.int .i64 r1, .int .i64 r2]) ∧ Below w.heap.size w w' := by
  unfold lattice_Next.f at h
  replace h := Option.some.inj h
  by_cases hk : okL a0_0 a0_1 a1 = true
  · rw [if_pos hk] at h
    injection h with e1 e2
    subst e1
    subst e2
    exact lat_next a0_0 a0_1 a1 _ w (right_eq a0_0 a0_1) hk (okL_right hk)
  · rw [if_neg hk] at h
    injection h with e1 e2
    subst e1
    subst e2
    exact lat_next_no0 a0_0 a0_1 a1 _ w (right_eq a0_0 a0_1) (Bool.eq_false_iff.mpr hk)

end Go.Proofs.Ytbjmoebajdhdoaa.PD
