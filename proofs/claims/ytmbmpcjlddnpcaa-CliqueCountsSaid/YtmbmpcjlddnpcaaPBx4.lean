-- Laid by a program of this session (wip/myprint.py, over the kit's print.py), not by print.sh.
import Derived.Test.YtmbmpcjlddnpcaaPBx0
import Derived.Test.YtmbmpcjlddnpcaaPBx1
import Derived.Test.YtmbmpcjlddnpcaaPBx2
import Derived.Test.YtmbmpcjlddnpcaaPBx3
namespace Go.Proofs.Ytmbmpcjlddnpcaa.PB
open Go.RowKit Go.Proofs.YtmbmpcjlddnpcaaW.PrintWords Go.Proofs.YtmbmpcjlddnpcaaW.PrintLast Go.Proofs.YtmbmpcjlddnpcaaW.PrintMore
attribute [local go_sem] max2_int min2_int max_two min_two max_three min_three max_four min_four   -- for this text's walks alone
set_option linter.unusedVariables false
set_option linter.unusedSimpArgs false

attribute [local go_sem high] eqA26
/-! ### omnibuslaw12_CliqueCounts: function 6 -/
mutual
def omnibuslaw12_CliqueCounts.l0 : Nat → List (S38) → Bool → Int → Int → Int → Int → Int → Int → Int → Option (Bool)
  | 0, _, _, _, _, _, _, _, _, _ => none
  | k + 1, x0, x3, x5, x6, x7, x8, x168000, x168001, x168002 => if x8 < (x0.length : Int) then (omnibuslaw12_CliqueCounts.j1 k x0 x3 x5 x6 x7 x8 (decide (x8 < 30)) x168000 x168001 x168002) else (omnibuslaw12_CliqueCounts.j1 k x0 x3 x5 x6 x7 x8 false x168000 x168001 x168002)
def omnibuslaw12_CliqueCounts.j1 : Nat → List (S38) → Bool → Int → Int → Int → Int → Bool → Int → Int → Int → Option (Bool)
  | 0, _, _, _, _, _, _, _, _, _, _ => none
  | k + 1, x0, x3, x5, x6, x7, x8, x20, x168000, x168001, x168002 => if x20 = true then (if 0 ≤ x8 then (if x8 < (x0.length : Int) then ((omnibuslaw12_pick.f ((rd_T38 x0 x8).f0) 16).bind fun t170 => ((omnibuslaw12_pick.f ((rd_T38 x0 x8).f1) 3).bind fun t172 => ((clique_Hear.f x168000 x168001 x168002 t170 t172).bind fun bt173 => (if t172 = 1 then ((omnibusref03_With.f k x7 t170).bind fun t177 => (omnibuslaw12_CliqueCounts.j2 k x0 x3 (wrap64 (x5 + 1)) x6 t177 x8 t172 x168000 x168001 x168002 bt173.1 bt173.2.1 bt173.2.2)) else (omnibuslaw12_CliqueCounts.j2 k x0 x3 x5 x6 x7 x8 t172 x168000 x168001 x168002 bt173.1 bt173.2.1 bt173.2.2))))) else (none)) else (none)) else (if x3 = true then (if (x168000 == x7 && (x168001 == x5 && (x168002 == x6))) = true then ((clique_Stays.f x168000 x168001 x168002).bind fun t168 => (some (t168 == (decide (x5 ≥ x6))))) else (some false)) else (some false))
def omnibuslaw12_CliqueCounts.j2 : Nat → List (S38) → Bool → Int → Int → Int → Int → Int → Int → Int → Int → Int → Int → Int → Option (Bool)
  | 0, _, _, _, _, _, _, _, _, _, _, _, _, _ => none
  | k + 1, x0, x3, x5, x6, x7, x8, x10, x168000, x168001, x168002, x177000, x177001, x177002 => if x10 = 2 then (omnibuslaw12_CliqueCounts.j3 k x0 x3 x5 (wrap64 (x6 + 1)) x7 x8 x10 x168000 x168001 x168002 x177000 x177001 x177002) else (omnibuslaw12_CliqueCounts.j3 k x0 x3 x5 x6 x7 x8 x10 x168000 x168001 x168002 x177000 x177001 x177002)
def omnibuslaw12_CliqueCounts.j3 : Nat → List (S38) → Bool → Int → Int → Int → Int → Int → Int → Int → Int → Int → Int → Int → Option (Bool)
  | 0, _, _, _, _, _, _, _, _, _, _, _, _, _ => none
  | k + 1, x0, x3, x5, x6, x7, x8, x10, x168000, x168001, x168002, x177000, x177001, x177002 => if x10 = 1 then ((clique_Stays.f x168000 x168001 x168002).bind fun t178 => (if t178 = true then ((clique_Stays.f x177000 x177001 x177002).bind fun t179 => (if t179 = true then (if x10 = 0 then (if (!(x177000 == x168000) || (!(x177001 == x168001) || (!(x177002 == x168002)))) = true then (some false) else (omnibuslaw12_CliqueCounts.l0 k x0 x3 x5 x6 x7 (wrap64 (x8 + 1)) x177000 x177001 x177002)) else (omnibuslaw12_CliqueCounts.l0 k x0 x3 x5 x6 x7 (wrap64 (x8 + 1)) x177000 x177001 x177002)) else (some false))) else (if x10 = 0 then (if (!(x177000 == x168000) || (!(x177001 == x168001) || (!(x177002 == x168002)))) = true then (some false) else (omnibuslaw12_CliqueCounts.l0 k x0 x3 x5 x6 x7 (wrap64 (x8 + 1)) x177000 x177001 x177002)) else (omnibuslaw12_CliqueCounts.l0 k x0 x3 x5 x6 x7 (wrap64 (x8 + 1)) x177000 x177001 x177002)))) else (if x10 = 0 then (if (!(x177000 == x168000) || (!(x177001 == x168001) || (!(x177002 == x168002)))) = true then (some false) else (omnibuslaw12_CliqueCounts.l0 k x0 x3 x5 x6 x7 (wrap64 (x8 + 1)) x177000 x177001 x177002)) else (omnibuslaw12_CliqueCounts.l0 k x0 x3 x5 x6 x7 (wrap64 (x8 + 1)) x177000 x177001 x177002))
end
def omnibuslaw12_CliqueCounts.f (k : Nat) (l0 : List (S38)) : Option (Bool) := (omnibuslaw12_awake.f k).bind fun t166 => (omnibuslaw12_CliqueCounts.l0 k l0 t166 0 0 0 0 0 0 0)
theorem omnibuslaw12_CliqueCounts.mono_l : ∀ k, (∀ y0 y1 y2 y3 y4 y5 y6 y7 y8, LeO (omnibuslaw12_CliqueCounts.l0 k y0 y1 y2 y3 y4 y5 y6 y7 y8) (omnibuslaw12_CliqueCounts.l0 (k + 1) y0 y1 y2 y3 y4 y5 y6 y7 y8)) ∧ (∀ y0 y1 y2 y3 y4 y5 y6 y7 y8 y9, LeO (omnibuslaw12_CliqueCounts.j1 k y0 y1 y2 y3 y4 y5 y6 y7 y8 y9) (omnibuslaw12_CliqueCounts.j1 (k + 1) y0 y1 y2 y3 y4 y5 y6 y7 y8 y9)) ∧ (∀ y0 y1 y2 y3 y4 y5 y6 y7 y8 y9 y10 y11 y12, LeO (omnibuslaw12_CliqueCounts.j2 k y0 y1 y2 y3 y4 y5 y6 y7 y8 y9 y10 y11 y12) (omnibuslaw12_CliqueCounts.j2 (k + 1) y0 y1 y2 y3 y4 y5 y6 y7 y8 y9 y10 y11 y12)) ∧ (∀ y0 y1 y2 y3 y4 y5 y6 y7 y8 y9 y10 y11 y12, LeO (omnibuslaw12_CliqueCounts.j3 k y0 y1 y2 y3 y4 y5 y6 y7 y8 y9 y10 y11 y12) (omnibuslaw12_CliqueCounts.j3 (k + 1) y0 y1 y2 y3 y4 y5 y6 y7 y8 y9 y10 y11 y12))
  | 0 => ⟨fun _ _ _ _ _ _ _ _ _ r h => by simp [omnibuslaw12_CliqueCounts.l0] at h, fun _ _ _ _ _ _ _ _ _ _ r h => by simp [omnibuslaw12_CliqueCounts.j1] at h, fun _ _ _ _ _ _ _ _ _ _ _ _ _ r h => by simp [omnibuslaw12_CliqueCounts.j2] at h, fun _ _ _ _ _ _ _ _ _ _ _ _ _ r h => by simp [omnibuslaw12_CliqueCounts.j3] at h⟩
  | k + 1 => by
    obtain ⟨ih0, ih1, ih2, ih3⟩ := omnibuslaw12_CliqueCounts.mono_l k
    refine ⟨?_, ?_, ?_, ?_⟩
    · intro y0 y1 y2 y3 y4 y5 y6 y7 y8
      unfold omnibuslaw12_CliqueCounts.l0
      repeat' first
      | (with_reducible exact ih0 _ _ _ _ _ _ _ _ _)
      | (with_reducible exact ih1 _ _ _ _ _ _ _ _ _ _)
      | (with_reducible exact ih2 _ _ _ _ _ _ _ _ _ _ _ _ _)
      | (with_reducible exact ih3 _ _ _ _ _ _ _ _ _ _ _ _ _)
      | (with_reducible exact omnibuslaw12_awake.mono _)
      | (with_reducible exact omnibusref03_With.mono _ _ _)
      | (with_reducible exact LeO.refl _)
      | (with_reducible exact LeO.none _)
      | (with_reducible refine LeO.ite ?_ ?_)
      | (with_reducible refine LeO.bind ?_ (fun _ => ?_))
      | exact ih0 _ _ _ _ _ _ _ _ _
      | exact ih1 _ _ _ _ _ _ _ _ _ _
      | exact ih2 _ _ _ _ _ _ _ _ _ _ _ _ _
      | exact ih3 _ _ _ _ _ _ _ _ _ _ _ _ _
      | exact omnibuslaw12_awake.mono _
      | exact omnibusref03_With.mono _ _ _
      | exact LeO.none _
      | refine LeO.ite ?_ ?_
      | refine LeO.bind ?_ (fun _ => ?_)
    · intro y0 y1 y2 y3 y4 y5 y6 y7 y8 y9
      unfold omnibuslaw12_CliqueCounts.j1
      repeat' first
      | (with_reducible exact ih0 _ _ _ _ _ _ _ _ _)
      | (with_reducible exact ih1 _ _ _ _ _ _ _ _ _ _)
      | (with_reducible exact ih2 _ _ _ _ _ _ _ _ _ _ _ _ _)
      | (with_reducible exact ih3 _ _ _ _ _ _ _ _ _ _ _ _ _)
      | (with_reducible exact omnibuslaw12_awake.mono _)
      | (with_reducible exact omnibusref03_With.mono _ _ _)
      | (with_reducible exact LeO.refl _)
      | (with_reducible exact LeO.none _)
      | (with_reducible refine LeO.ite ?_ ?_)
      | (with_reducible refine LeO.bind ?_ (fun _ => ?_))
      | exact ih0 _ _ _ _ _ _ _ _ _
      | exact ih1 _ _ _ _ _ _ _ _ _ _
      | exact ih2 _ _ _ _ _ _ _ _ _ _ _ _ _
      | exact ih3 _ _ _ _ _ _ _ _ _ _ _ _ _
      | exact omnibuslaw12_awake.mono _
      | exact omnibusref03_With.mono _ _ _
      | exact LeO.none _
      | refine LeO.ite ?_ ?_
      | refine LeO.bind ?_ (fun _ => ?_)
    · intro y0 y1 y2 y3 y4 y5 y6 y7 y8 y9 y10 y11 y12
      unfold omnibuslaw12_CliqueCounts.j2
      repeat' first
      | (with_reducible exact ih0 _ _ _ _ _ _ _ _ _)
      | (with_reducible exact ih1 _ _ _ _ _ _ _ _ _ _)
      | (with_reducible exact ih2 _ _ _ _ _ _ _ _ _ _ _ _ _)
      | (with_reducible exact ih3 _ _ _ _ _ _ _ _ _ _ _ _ _)
      | (with_reducible exact omnibuslaw12_awake.mono _)
      | (with_reducible exact omnibusref03_With.mono _ _ _)
      | (with_reducible exact LeO.refl _)
      | (with_reducible exact LeO.none _)
      | (with_reducible refine LeO.ite ?_ ?_)
      | (with_reducible refine LeO.bind ?_ (fun _ => ?_))
      | exact ih0 _ _ _ _ _ _ _ _ _
      | exact ih1 _ _ _ _ _ _ _ _ _ _
      | exact ih2 _ _ _ _ _ _ _ _ _ _ _ _ _
      | exact ih3 _ _ _ _ _ _ _ _ _ _ _ _ _
      | exact omnibuslaw12_awake.mono _
      | exact omnibusref03_With.mono _ _ _
      | exact LeO.none _
      | refine LeO.ite ?_ ?_
      | refine LeO.bind ?_ (fun _ => ?_)
    · intro y0 y1 y2 y3 y4 y5 y6 y7 y8 y9 y10 y11 y12
      unfold omnibuslaw12_CliqueCounts.j3
      repeat' first
      | (with_reducible exact ih0 _ _ _ _ _ _ _ _ _)
      | (with_reducible exact ih1 _ _ _ _ _ _ _ _ _ _)
      | (with_reducible exact ih2 _ _ _ _ _ _ _ _ _ _ _ _ _)
      | (with_reducible exact ih3 _ _ _ _ _ _ _ _ _ _ _ _ _)
      | (with_reducible exact omnibuslaw12_awake.mono _)
      | (with_reducible exact omnibusref03_With.mono _ _ _)
      | (with_reducible exact LeO.refl _)
      | (with_reducible exact LeO.none _)
      | (with_reducible refine LeO.ite ?_ ?_)
      | (with_reducible refine LeO.bind ?_ (fun _ => ?_))
      | exact ih0 _ _ _ _ _ _ _ _ _
      | exact ih1 _ _ _ _ _ _ _ _ _ _
      | exact ih2 _ _ _ _ _ _ _ _ _ _ _ _ _
      | exact ih3 _ _ _ _ _ _ _ _ _ _ _ _ _
      | exact omnibuslaw12_awake.mono _
      | exact omnibusref03_With.mono _ _ _
      | exact LeO.none _
      | refine LeO.ite ?_ ?_
      | refine LeO.bind ?_ (fun _ => ?_)
theorem omnibuslaw12_CliqueCounts.mono : ∀ a0 k, LeO (omnibuslaw12_CliqueCounts.f k a0) (omnibuslaw12_CliqueCounts.f (k + 1) a0) := by
  intro a0 k
  obtain ⟨ih0, ih1, ih2, ih3⟩ := omnibuslaw12_CliqueCounts.mono_l k
  unfold omnibuslaw12_CliqueCounts.f
  repeat' first
      | (with_reducible exact ih0 _ _ _ _ _ _ _ _ _)
      | (with_reducible exact ih1 _ _ _ _ _ _ _ _ _ _)
      | (with_reducible exact ih2 _ _ _ _ _ _ _ _ _ _ _ _ _)
      | (with_reducible exact ih3 _ _ _ _ _ _ _ _ _ _ _ _ _)
      | (with_reducible exact omnibuslaw12_awake.mono _)
      | (with_reducible exact omnibusref03_With.mono _ _ _)
      | (with_reducible exact LeO.refl _)
      | (with_reducible exact LeO.none _)
      | (with_reducible refine LeO.ite ?_ ?_)
      | (with_reducible refine LeO.bind ?_ (fun _ => ?_))
      | exact ih0 _ _ _ _ _ _ _ _ _
      | exact ih1 _ _ _ _ _ _ _ _ _ _
      | exact ih2 _ _ _ _ _ _ _ _ _ _ _ _ _
      | exact ih3 _ _ _ _ _ _ _ _ _ _ _ _ _
      | exact omnibuslaw12_awake.mono _
      | exact omnibusref03_With.mono _ _ _
      | exact LeO.none _
      | refine LeO.ite ?_ ?_
      | refine LeO.bind ?_ (fun _ => ?_)
set_option maxHeartbeats 8000000 in
set_option maxRecDepth 100000 in
theorem omnibuslaw12_CliqueCounts.calls (k : Nat) (A0 : Option Addr) (c0 : Nat) (l0 : List (S38)) (r : Bool) (w : World) (hr0 : Kd.C k38 w A0 l0.length l0) (hc0 : l0.length ≤ c0) (h : omnibuslaw12_CliqueCounts.f k l0 = some r) :
    Calls Try.prog 6 #[.slice A0 l0.length c0] w fun e w' => e = .returned (.bool r) ∧ Below w.heap.size w w' := by
  have hu26 := Try.underlying26
  have HR0 := Aside0.mk hr0
  have HC0 := Aside0.mk hc0
  clear hr0 hc0
  have HB := Aside0.mk (Below.refl w.heap.size w)
  have H : ((omnibuslaw12_awake.f k).bind fun t166 => (omnibuslaw12_CliqueCounts.l0 k l0 t166 0 0 0 0 0 0 0)) = some r := h
  clear h
  replace H := Option.bind_eq_some_iff.mp H
  obtain ⟨t166, A20, H⟩ := H
  replace H : (omnibuslaw12_CliqueCounts.l0 k l0 t166 0 0 0 0 0 0 0) = some r := H
  have A2 := Aside0.mk A20
  clear A20
  have H' := Aside0.mk H
  clear H
  go_enter Try.func6, Try.ntmps6
  go_wp2_with (first | ((with_reducible refine gate_callee (f := 8) rfl ?_); refine goesL_ (some 12) rfl rfl Try.func8 (by kernel_rfl) rfl #[] rfl (by (try simp only [List.map_toArray, List.map_cons, List.map_nil]); first | done | rfl | (simp only [List.length_drop, List.length_take]; rfl)) ?_; (with_reducible refine (omnibuslaw12_awake.calls k  t166 _ A2.out).mono ?_); rintro e w3 ⟨rfl, hb⟩; refine ⟨_, rfl, ?_⟩; have n0_ := Aside0.mk (below_step (by repeat (first | (with_reducible first | exact HB.out | apply below_alloc | apply pw_below_drewN | apply below_drew1) | exact HB.out)) hb); clear HB; have HB := n0_; clear n0_; (try clear hb); (try clear hb2); (try clear hk); (try clear hi)) | ((with_reducible refine gate_dst (N := 4) rfl ?_); refine box_event ?hg (N := 4) ?hd (cs := #[.int .i64 0, .int .i64 0, .int .i64 0]) (t := 26) ?hr ?_; (case hd => rfl); (case hg => rfl); (case hr => first | (go_simp; done) | (go_simp; rfl)); intro gb167 hg w4 hbox hb; have n0_ := Aside0.mk (below_step (by repeat (first | (with_reducible first | exact HB.out | apply below_alloc | apply pw_below_drewN | apply below_drew1) | exact HB.out)) hb); have n1_ := Aside0.mk (hbox); have n2_ := Aside0.mk ((by rw [hg]; exact (below_size (by repeat (first | (with_reducible first | exact HB.out | apply below_alloc | apply pw_below_drewN | apply below_drew1) | exact HB.out))) : w.heap.size ≤ gb167)); have n3_ := Aside0.mk ((by rw [hg]; exact (below_size (by repeat (first | (with_reducible first | exact HB.out | apply below_alloc | apply pw_below_drewN | apply below_drew1) | exact HB.out))) : w.heap.size ≤ gb167)); clear HB; have HB := n0_; have BK167 := n1_; have GW167 := n2_; have GE167 := n3_; clear n0_ n1_ n2_ n3_; clear hb hbox hg))
  go_loopg [5, 6, 7, 8] k (fun kq v5 v6 v7 v8 w' => ∃ (x5_1 : Int) (x6_1 : Int) (x7_1 : Int) (x8_1 : Int) (x168000_1 : Int) (x168001_1 : Int) (x168002_1 : Int), v5 = .int .i64 x5_1 ∧ v6 = .int .i64 x6_1 ∧ v7 = .int .i64 x7_1 ∧ v8 = .int .i64 x8_1 ∧ Aside0 (omnibuslaw12_CliqueCounts.l0 kq l0 t166 x5_1 x6_1 x7_1 x8_1 x168000_1 x168001_1 x168002_1 = some r) ∧ Aside0 (kq ≤ k) ∧ Aside0 (w'.heap[gb167]? = some (.cells #[.int .i64 x168000_1, .int .i64 x168001_1, .int .i64 x168002_1] 26 (0, 0))) ∧ Aside0 (Below w.heap.size w w'))
  case atStart => exact ⟨(0), (0), (0), (0), (0), (0), (0), (by first | rfl | (simp; done) | (simp [*]; done)), (by first | rfl | (simp; done) | (simp [*]; done)), (by first | rfl | (simp; done) | (simp [*]; done)), (by first | rfl | (simp; done) | (simp [*]; done)), H', ⟨Nat.le_refl _⟩, ⟨by (with_reducible repeat (first | refine blk_drewN ?_ _ | refine blk_drew ?_ | refine blk_alloc ?_ _)); exact BK167.out⟩, ⟨by repeat (first | (with_reducible first | exact HB.out | apply below_alloc | apply pw_below_drewN | apply below_drew1 | refine below_set ?_ GE167.out) | exact HB.out)⟩⟩
  case round =>
    clear H'
    try clear p2
    obtain ⟨x5_1, x6_1, x7_1, x8_1, x168000_1, x168001_1, x168002_1, rfl, rfl, rfl, rfl, HA, HK1, BK167, HB⟩ := hrel
    cases gk with
    | zero => exact absurd HA.out (by simp [omnibuslaw12_CliqueCounts.l0])
    | succ k1 =>
      have H := HA.out
      clear HA
      simp only [omnibuslaw12_CliqueCounts.l0] at H
      have HC5 := Aside0.mk H
      clear H
      go_upto_region 7 with (fail)
      go_cut [20] (fun v20 wc => ∃ (kq : Nat) (x20_4 : Bool), v20 = .bool x20_4 ∧ Aside0 (omnibuslaw12_CliqueCounts.j1 kq l0 t166 x5_1 x6_1 x7_1 x8_1 x20_4 x168000_1 x168001_1 x168002_1 = some r) ∧ Aside0 (kq ≤ k1) ∧ Aside0 (wc.heap[gb167]? = some (.cells #[.int .i64 x168000_1, .int .i64 x168001_1, .int .i64 x168002_1] 26 (0, 0))) ∧ Aside0 (Below w.heap.size w wc))
      case first =>
        have H := HC5.out
        clear HC5
        by_cases c6 : x8_1 < (l0.length : Int)
        · rw [if_pos c6] at H
          have c6b0 : decide (x8_1 < (l0.length : Int)) = true := decide_eq_true c6
          clear c6
          (first | rw [c6b0] | (simp only [i64_w, i32_w]; rw [c6b0]) | skip)
          have H' := Aside0.mk H
          clear H
          go_wp2
          go_meet
          case rel => exact ⟨_, (decide (x8_1 < 30)), (by first | rfl | (simp; done) | (simp [*]; done)), H', ⟨by have := HK1.out; first | omega | exact Nat.le_refl _⟩, ⟨by (with_reducible repeat (first | refine blk_drewN ?_ _ | refine blk_drew ?_ | refine blk_alloc ?_ _)); exact BK167.out⟩, ⟨by repeat (first | (with_reducible first | exact HB.out | apply below_alloc | apply pw_below_drewN | apply below_drew1 | refine below_set ?_ GE167.out) | exact HB.out)⟩⟩
        · rw [if_neg c6] at H
          have c6b0 : decide (x8_1 < (l0.length : Int)) = false := decide_eq_false c6
          clear c6
          (first | rw [c6b0] | (simp only [i64_w, i32_w]; rw [c6b0]) | skip)
          have H' := Aside0.mk H
          clear H
          go_wp2
          go_meet
          case rel => exact ⟨_, (false), (by first | rfl | (simp; done) | (simp [*]; done)), H', ⟨by have := HK1.out; first | omega | exact Nat.le_refl _⟩, ⟨by (with_reducible repeat (first | refine blk_drewN ?_ _ | refine blk_drew ?_ | refine blk_alloc ?_ _)); exact BK167.out⟩, ⟨by repeat (first | (with_reducible first | exact HB.out | apply below_alloc | apply pw_below_drewN | apply below_drew1 | refine below_set ?_ GE167.out) | exact HB.out)⟩⟩
      case rest =>
        clear HC5
        try clear p2
        try clear c6
        try clear c6b0
        try clear p2
        obtain ⟨kq, x20_4, rfl, HA, HJ4, BK167, HB⟩ := hcut
        cases kq with
        | zero => exact absurd HA.out (by simp [omnibuslaw12_CliqueCounts.j1])
        | succ kj4 =>
          have H := HA.out
          clear HA
          simp only [omnibuslaw12_CliqueCounts.j1] at H
          by_cases c7 : x20_4 = true
          · subst c7
            have H1 : (if 0 ≤ x8_1 then (if x8_1 < (l0.length : Int) then ((omnibuslaw12_pick.f ((rd_T38 l0 x8_1).f0) 16).bind fun t170 => ((omnibuslaw12_pick.f ((rd_T38 l0 x8_1).f1) 3).bind fun t172 => ((clique_Hear.f x168000_1 x168001_1 x168002_1 t170 t172).bind fun bt173 => (if t172 = 1 then ((omnibusref03_With.f kj4 x7_1 t170).bind fun t177 => (omnibuslaw12_CliqueCounts.j2 kj4 l0 t166 (wrap64 (x5_1 + 1)) x6_1 t177 x8_1 t172 x168000_1 x168001_1 x168002_1 bt173.1 bt173.2.1 bt173.2.2)) else (omnibuslaw12_CliqueCounts.j2 kj4 l0 t166 x5_1 x6_1 x7_1 x8_1 t172 x168000_1 x168001_1 x168002_1 bt173.1 bt173.2.1 bt173.2.2))))) else (none)) else (none)) = some r := by rw [if_pos rfl] at H; exact H
            clear H
            have H := H1
            clear H1
            by_cases c8 : 0 ≤ x8_1
            · rw [if_pos c8] at H
              have c8b0 : decide (0 ≤ x8_1) = true := decide_eq_true c8
              clear c8
              by_cases c9 : x8_1 < (l0.length : Int)
              · rw [if_pos c9] at H
                have c9b0 : decide (x8_1 < (l0.length : Int)) = true := decide_eq_true c9
                clear c9
                replace H := Option.bind_eq_some_iff.mp H
                obtain ⟨t170, A100, H⟩ := H
                replace H : ((omnibuslaw12_pick.f ((rd_T38 l0 x8_1).f1) 3).bind fun t172 => ((clique_Hear.f x168000_1 x168001_1 x168002_1 t170 t172).bind fun bt173 => (if t172 = 1 then ((omnibusref03_With.f kj4 x7_1 t170).bind fun t177 => (omnibuslaw12_CliqueCounts.j2 kj4 l0 t166 (wrap64 (x5_1 + 1)) x6_1 t177 x8_1 t172 x168000_1 x168001_1 x168002_1 bt173.1 bt173.2.1 bt173.2.2)) else (omnibuslaw12_CliqueCounts.j2 kj4 l0 t166 x5_1 x6_1 x7_1 x8_1 t172 x168000_1 x168001_1 x168002_1 bt173.1 bt173.2.1 bt173.2.2)))) = some r := H
                have A10 := Aside0.mk A100
                clear A100
                replace H := Option.bind_eq_some_iff.mp H
                obtain ⟨t172, A110, H⟩ := H
                replace H : ((clique_Hear.f x168000_1 x168001_1 x168002_1 t170 t172).bind fun bt173 => (if t172 = 1 then ((omnibusref03_With.f kj4 x7_1 t170).bind fun t177 => (omnibuslaw12_CliqueCounts.j2 kj4 l0 t166 (wrap64 (x5_1 + 1)) x6_1 t177 x8_1 t172 x168000_1 x168001_1 x168002_1 bt173.1 bt173.2.1 bt173.2.2)) else (omnibuslaw12_CliqueCounts.j2 kj4 l0 t166 x5_1 x6_1 x7_1 x8_1 t172 x168000_1 x168001_1 x168002_1 bt173.1 bt173.2.1 bt173.2.2))) = some r := H
                have A11 := Aside0.mk A110
                clear A110
                replace H := Option.bind_eq_some_iff.mp H
                obtain ⟨⟨t173, t174, t175⟩, A120, H⟩ := H
                replace H : (if t172 = 1 then ((omnibusref03_With.f kj4 x7_1 t170).bind fun t177 => (omnibuslaw12_CliqueCounts.j2 kj4 l0 t166 (wrap64 (x5_1 + 1)) x6_1 t177 x8_1 t172 x168000_1 x168001_1 x168002_1 t173 t174 t175)) else (omnibuslaw12_CliqueCounts.j2 kj4 l0 t166 x5_1 x6_1 x7_1 x8_1 t172 x168000_1 x168001_1 x168002_1 t173 t174 t175)) = some r := H
                have A12 := Aside0.mk A120
                clear A120
                have HC13 := Aside0.mk H
                clear H
                have p169 : 0 ≤ (x8_1 : Int) := of_decide_eq_true (by first | (with_reducible assumption) | assumption)
                have q169 : x8_1 < (l0.length : Int) := of_decide_eq_true (by first | (with_reducible assumption) | assumption)
                obtain ⟨ad169, e169, hx169_0, hx169_1⟩ := at_T38 HR0.out x8_1 p169 q169
                cases e169
                replace hx169_0 := (HB.out.cell (World.block_lt_of_cell? w _ hx169_0)).trans hx169_0
                replace hx169_1 := (HB.out.cell (World.block_lt_of_cell? w _ hx169_1)).trans hx169_1
                replace p169 := eq_true p169
                replace q169 := eq_true q169
                go_upto_if 40 with (first | ((with_reducible refine gate_callee (f := 9) rfl ?_); refine goesL_ (some 28) rfl rfl Try.func9 (by kernel_rfl) rfl #[.int .i64 ((rd_T38 l0 x8_1).f0), .int .i64 16] rfl (by (try simp only [List.map_toArray, List.map_cons, List.map_nil]); first | done | rfl | (simp only [List.length_drop, List.length_take]; rfl)) ?_; (with_reducible refine (omnibuslaw12_pick.calls ((rd_T38 l0 x8_1).f0) 16 t170 _ A10.out).mono ?_); rintro e w' ⟨rfl, ⟨nd, rfl⟩⟩; refine ⟨_, rfl, ?_⟩; (try (rw [drewN_self wc]; generalize hq_ : World.drewN wc _ = wc; have n0_ : Aside0 (wc.heap[gb167]? = some (.cells #[.int .i64 x168000_1, .int .i64 x168001_1, .int .i64 x168002_1] 26 (0, 0))) := ⟨by rw [← hq_]; exact (by (with_reducible repeat (first | refine blk_drewN ?_ _ | refine blk_drew ?_ | refine blk_alloc ?_ _)); exact BK167.out)⟩; have n1_ : Aside0 (Below w.heap.size w wc) := ⟨by rw [← hq_]; exact (by repeat (first | (with_reducible first | exact HB.out | apply below_alloc | apply pw_below_drewN | apply below_drew1 | refine below_set ?_ GE167.out) | exact HB.out))⟩; clear BK167 HB hq_; have BK167 := n0_; have HB := n1_; clear n0_ n1_)); have p171 : 0 ≤ (x8_1 : Int) := of_decide_eq_true (by first | (with_reducible assumption) | assumption); have q171 : x8_1 < (l0.length : Int) := of_decide_eq_true (by first | (with_reducible assumption) | assumption); obtain ⟨ad171, e171, hx171_0, hx171_1⟩ := at_T38 HR0.out x8_1 p171 q171; obtain rfl : ad169 = ad171 := (by injection e171); replace hx171_0 := (HB.out.cell (World.block_lt_of_cell? w _ hx171_0)).trans hx171_0; replace hx171_1 := (HB.out.cell (World.block_lt_of_cell? w _ hx171_1)).trans hx171_1; replace p171 := eq_true p171; replace q171 := eq_true q171) | ((with_reducible refine gate_callee (f := 9) rfl ?_); refine goesL_ (some 34) rfl rfl Try.func9 (by kernel_rfl) rfl #[.int .i64 ((rd_T38 l0 x8_1).f1), .int .i64 3] rfl (by (try simp only [List.map_toArray, List.map_cons, List.map_nil]); first | done | rfl | (simp only [List.length_drop, List.length_take]; rfl)) ?_; (with_reducible refine (omnibuslaw12_pick.calls ((rd_T38 l0 x8_1).f1) 3 t172 _ A11.out).mono ?_); rintro e w' ⟨rfl, ⟨nd, rfl⟩⟩; refine ⟨_, rfl, ?_⟩; (try (rw [drewN_self wc]; generalize hq_ : World.drewN wc _ = wc; have n0_ : Aside0 (wc.heap[gb167]? = some (.cells #[.int .i64 x168000_1, .int .i64 x168001_1, .int .i64 x168002_1] 26 (0, 0))) := ⟨by rw [← hq_]; exact (by (with_reducible repeat (first | refine blk_drewN ?_ _ | refine blk_drew ?_ | refine blk_alloc ?_ _)); exact BK167.out)⟩; have n1_ : Aside0 (Below w.heap.size w wc) := ⟨by rw [← hq_]; exact (by repeat (first | (with_reducible first | exact HB.out | apply below_alloc | apply pw_below_drewN | apply below_drew1 | refine below_set ?_ GE167.out) | exact HB.out))⟩; clear BK167 HB hq_; have BK167 := n0_; have HB := n1_; clear n0_ n1_)); have hcz14_0 : wc.cell? ⟨gb167, 0, none⟩ = some (.int .i64 x168000_1) := (blk_cell BK167.out 0).trans rfl; have hcz14_1 : wc.cell? ⟨gb167, 1, none⟩ = some (.int .i64 x168001_1) := (blk_cell BK167.out 1).trans rfl; have hcz14_2 : wc.cell? ⟨gb167, 2, none⟩ = some (.int .i64 x168002_1) := (blk_cell BK167.out 2).trans rfl; have hfz14_0 := blk_frozen BK167.out 0; have hfz14_1 := blk_frozen BK167.out 1; have hfz14_2 := blk_frozen BK167.out 2) | ((with_reducible refine gate_callee (f := 13) rfl ?_); refine goesL_ (some 38) rfl rfl Try.func13 (by kernel_rfl) rfl #[.agg #[.int .i64 x168000_1, .int .i64 x168001_1, .int .i64 x168002_1], .int .i64 t170, .int .i64 t172] rfl (by (try simp only [List.map_toArray, List.map_cons, List.map_nil]); first | done | rfl | (simp only [List.length_drop, List.length_take]; rfl)) ?_; (with_reducible refine (clique_Hear.calls x168000_1 x168001_1 x168002_1 t170 t172 t173 t174 t175 _ A12.out).mono ?_); rintro e w15 ⟨rfl, hb⟩; refine ⟨_, rfl, ?_⟩; have n0_ := Aside0.mk (blk_below (g := gb167) (o := .cells #[.int .i64 x168000_1, .int .i64 x168001_1, .int .i64 x168002_1] 26 (0, 0)) (by (with_reducible repeat (first | refine blk_drewN ?_ _ | refine blk_drew ?_ | refine blk_alloc ?_ _)); exact BK167.out) hb); have n1_ := Aside0.mk (below_step (by repeat (first | (with_reducible first | exact HB.out | apply below_alloc | apply pw_below_drewN | apply below_drew1 | refine below_set ?_ GE167.out) | exact HB.out)) hb); clear BK167; clear HB; have BK167 := n0_; have HB := n1_; clear n0_ n1_; (try clear hb); (try clear hb2); (try clear hk); (try clear hi)) | ((with_reducible refine gate_dst (N := 11) rfl ?_); refine box_event ?hg (N := 11) ?hd (cs := #[.int .i64 0, .int .i64 0, .int .i64 0]) (t := 26) ?hr ?_; (case hd => rfl); (case hg => rfl); (case hr => first | (go_simp; done) | (go_simp; rfl)); intro gb176 hg w16 hbox hb; have n0_ := Aside0.mk (blk_below (g := gb167) (o := .cells #[.int .i64 x168000_1, .int .i64 x168001_1, .int .i64 x168002_1] 26 (0, 0)) (by (with_reducible repeat (first | refine blk_drewN ?_ _ | refine blk_drew ?_ | refine blk_alloc ?_ _)); exact BK167.out) hb); have n1_ := Aside0.mk (below_step (by repeat (first | (with_reducible first | exact HB.out | apply below_alloc | apply pw_below_drewN | apply below_drew1 | refine below_set ?_ GE167.out) | exact HB.out)) hb); have n2_ := Aside0.mk (hbox); have n3_ := Aside0.mk ((by rw [hg]; exact (below_size (by repeat (first | (with_reducible first | exact HB.out | apply below_alloc | apply pw_below_drewN | apply below_drew1 | refine below_set ?_ GE167.out) | exact HB.out))) : w.heap.size ≤ gb176)); have n4_ := Aside0.mk ((by rw [hg]; exact (below_size (by repeat (first | (with_reducible first | exact HB.out | apply below_alloc | apply pw_below_drewN | apply below_drew1 | refine below_set ?_ GE167.out) | exact HB.out))) : w.heap.size ≤ gb176)); have n5_ := Aside0.mk ((by rw [hg]; exact Nat.ne_of_lt (blk_lt (g := gb167) (o := .cells #[.int .i64 x168000_1, .int .i64 x168001_1, .int .i64 x168002_1] 26 (0, 0)) (by (with_reducible repeat (first | refine blk_drewN ?_ _ | refine blk_drew ?_ | refine blk_alloc ?_ _)); exact BK167.out)) : gb167 ≠ gb176)); have n6_ := Aside0.mk ((by rw [hg]; exact Nat.ne_of_gt (blk_lt (g := gb167) (o := .cells #[.int .i64 x168000_1, .int .i64 x168001_1, .int .i64 x168002_1] 26 (0, 0)) (by (with_reducible repeat (first | refine blk_drewN ?_ _ | refine blk_drew ?_ | refine blk_alloc ?_ _)); exact BK167.out)) : gb176 ≠ gb167)); clear BK167; clear HB; have BK167 := n0_; have HB := n1_; have BK176 := n2_; have GW176 := n3_; have GE176 := n4_; have NB167_176 := n5_; have NB176_167 := n6_; clear n0_ n1_ n2_ n3_ n4_ n5_ n6_; clear hb hbox hg; have hnb17 := NB176_167.out; have hnc17 := NB167_176.out; have hcz18_0 : w16.cell? ⟨gb176, 0, none⟩ = some (.int .i64 0) := (blk_cell BK176.out 0).trans rfl; have hcz18_1 : w16.cell? ⟨gb176, 1, none⟩ = some (.int .i64 0) := (blk_cell BK176.out 1).trans rfl; have hcz18_2 : w16.cell? ⟨gb176, 2, none⟩ = some (.int .i64 0) := (blk_cell BK176.out 2).trans rfl; have hfz18_0 := blk_frozen BK176.out 0; have hfz18_1 := blk_frozen BK176.out 1; have hfz18_2 := blk_frozen BK176.out 2))
                (try simp only [Act.put, List.setIfInBounds_toArray, List.set_cons_zero, List.set_cons_succ])
                go_cut [5, 7] (fun v5 v7 wc => ∃ (kq : Nat) (x5_12 : Int) (x7_12 : Int), v5 = .int .i64 x5_12 ∧ v7 = .int .i64 x7_12 ∧ Aside0 (omnibuslaw12_CliqueCounts.j2 kq l0 t166 x5_12 x6_1 x7_12 x8_1 t172 x168000_1 x168001_1 x168002_1 t173 t174 t175 = some r) ∧ Aside0 (kq ≤ kj4) ∧ Aside0 (wc.heap[gb167]? = some (.cells #[.int .i64 x168000_1, .int .i64 x168001_1, .int .i64 x168002_1] 26 (0, 0))) ∧ Aside0 (wc.heap[gb176]? = some (.cells #[.int .i64 t173, .int .i64 t174, .int .i64 t175] 26 (0, 0))) ∧ Aside0 (Below w.heap.size w wc))
                case first =>
                  have H := HC13.out
                  clear HC13
                  by_cases c19 : t172 = 1
                  · rw [if_pos c19] at H
                    have c19b0 : (t172 == 1) = true := beq_iff_eq.mpr c19
                    have c19b1 : (t172 != 1) = false := bne_eq_false_iff_eq.mpr c19
                    clear c19
                    (first | rw [c19b0] | (simp only [i64_w, i32_w]; rw [c19b0]) | skip)
                    replace H := Option.bind_eq_some_iff.mp H
                    obtain ⟨t177, A200, H⟩ := H
                    replace H : (omnibuslaw12_CliqueCounts.j2 kj4 l0 t166 (wrap64 (x5_1 + 1)) x6_1 t177 x8_1 t172 x168000_1 x168001_1 x168002_1 t173 t174 t175) = some r := H
                    have A20 := Aside0.mk A200
                    clear A200
                    have H' := Aside0.mk H
                    clear H
                    go_wp2_with (first | ((with_reducible refine gate_callee (f := 20) rfl ?_); refine goesL_ (some 45) rfl rfl Try.func20 (by kernel_rfl) rfl #[.int .i64 x7_1, .int .i64 t170] rfl (by (try simp only [List.map_toArray, List.map_cons, List.map_nil]); first | done | rfl | (simp only [List.length_drop, List.length_take]; rfl)) ?_; (with_reducible refine (omnibusref03_With.calls kj4 x7_1 t170 t177 _ A20.out).mono ?_); rintro e w' ⟨rfl, ⟨nd, rfl⟩⟩; refine ⟨_, rfl, ?_⟩))
                    go_meet
                    case rel => exact ⟨_, (wrap64 (x5_1 + 1)), (t177), (by first | rfl | (simp; done) | (simp [*]; done)), (by first | rfl | (simp; done) | (simp [*]; done)), H', ⟨by have := HK1.out; have := HJ4.out; first | omega | exact Nat.le_refl _⟩, ⟨by (with_reducible repeat (first | refine blk_drewN ?_ _ | refine blk_drew ?_ | refine blk_alloc ?_ _)); refine blk_far ?_ NB167_176.out _; (with_reducible repeat (first | refine blk_drewN ?_ _ | refine blk_drew ?_ | refine blk_alloc ?_ _)); refine blk_far ?_ NB167_176.out _; (with_reducible repeat (first | refine blk_drewN ?_ _ | refine blk_drew ?_ | refine blk_alloc ?_ _)); refine blk_far ?_ NB167_176.out _; (with_reducible repeat (first | refine blk_drewN ?_ _ | refine blk_drew ?_ | refine blk_alloc ?_ _)); exact BK167.out⟩, ⟨by (with_reducible repeat (first | refine blk_drewN ?_ _ | refine blk_drew ?_ | refine blk_alloc ?_ _)); refine blk_put (cs := #[.int .i64 t173, .int .i64 t174, .int .i64 0]) ?_ 2 _ rfl; (with_reducible repeat (first | refine blk_drewN ?_ _ | refine blk_drew ?_ | refine blk_alloc ?_ _)); refine blk_put (cs := #[.int .i64 t173, .int .i64 0, .int .i64 0]) ?_ 1 _ rfl; (with_reducible repeat (first | refine blk_drewN ?_ _ | refine blk_drew ?_ | refine blk_alloc ?_ _)); refine blk_put (cs := #[.int .i64 0, .int .i64 0, .int .i64 0]) ?_ 0 _ rfl; (with_reducible repeat (first | refine blk_drewN ?_ _ | refine blk_drew ?_ | refine blk_alloc ?_ _)); exact BK176.out⟩, ⟨by repeat (first | (with_reducible first | exact HB.out | apply below_alloc | apply pw_below_drewN | apply below_drew1 | refine below_set ?_ GE167.out | refine below_set ?_ GE176.out) | exact HB.out)⟩⟩
                  · rw [if_neg c19] at H
                    have c19b0 : (t172 == 1) = false := beq_eq_false_iff_ne.mpr c19
                    have c19b1 : (t172 != 1) = true := bne_iff_ne.mpr c19
                    (first | rw [c19b0] | (simp only [i64_w, i32_w]; rw [c19b0]) | skip)
                    have H' := Aside0.mk H
                    clear H
                    go_wp2
                    go_meet
                    case rel => exact ⟨_, (x5_1), (x7_1), (by first | rfl | (simp; done) | (simp [*]; done)), (by first | rfl | (simp; done) | (simp [*]; done)), H', ⟨by have := HK1.out; have := HJ4.out; first | omega | exact Nat.le_refl _⟩, ⟨by (with_reducible repeat (first | refine blk_drewN ?_ _ | refine blk_drew ?_ | refine blk_alloc ?_ _)); refine blk_far ?_ NB167_176.out _; (with_reducible repeat (first | refine blk_drewN ?_ _ | refine blk_drew ?_ | refine blk_alloc ?_ _)); refine blk_far ?_ NB167_176.out _; (with_reducible repeat (first | refine blk_drewN ?_ _ | refine blk_drew ?_ | refine blk_alloc ?_ _)); refine blk_far ?_ NB167_176.out _; (with_reducible repeat (first | refine blk_drewN ?_ _ | refine blk_drew ?_ | refine blk_alloc ?_ _)); exact BK167.out⟩, ⟨by (with_reducible repeat (first | refine blk_drewN ?_ _ | refine blk_drew ?_ | refine blk_alloc ?_ _)); refine blk_put (cs := #[.int .i64 t173, .int .i64 t174, .int .i64 0]) ?_ 2 _ rfl; (with_reducible repeat (first | refine blk_drewN ?_ _ | refine blk_drew ?_ | refine blk_alloc ?_ _)); refine blk_put (cs := #[.int .i64 t173, .int .i64 0, .int .i64 0]) ?_ 1 _ rfl; (with_reducible repeat (first | refine blk_drewN ?_ _ | refine blk_drew ?_ | refine blk_alloc ?_ _)); refine blk_put (cs := #[.int .i64 0, .int .i64 0, .int .i64 0]) ?_ 0 _ rfl; (with_reducible repeat (first | refine blk_drewN ?_ _ | refine blk_drew ?_ | refine blk_alloc ?_ _)); exact BK176.out⟩, ⟨by repeat (first | (with_reducible first | exact HB.out | apply below_alloc | apply pw_below_drewN | apply below_drew1 | refine below_set ?_ GE167.out | refine below_set ?_ GE176.out) | exact HB.out)⟩⟩
                case rest =>
                  clear HC13
                  try clear c1
                  try clear p1
                  try clear q1
                  try clear hx1
                  try clear c2
                  try clear p2
                  try clear c6
                  try clear c6b0
                  try clear p6
                  try clear c7
                  try clear c8
                  try clear c8b0
                  try clear c9
                  try clear c9b0
                  try clear c13
                  try clear p16
                  try clear q16
                  try clear hx16
                  try clear c17
                  try clear p17
                  try clear q17
                  try clear hx17
                  try clear c19
                  try clear c19b0
                  try clear c19b1
                  try clear c20
                  try clear hcz14_0
                  try clear hcz14_1
                  try clear hcz14_2
                  try clear hcz18_0
                  try clear hcz18_1
                  try clear hcz18_2
                  try clear hfz14_0
                  try clear hfz14_1
                  try clear hfz14_2
                  try clear hfz18_0
                  try clear hfz18_1
                  try clear hfz18_2
                  try clear hx169_0
                  try clear hx169_1
                  try clear hx171_0
                  try clear hx171_1
                  try clear p169
                  try clear p171
                  try clear p2
                  try clear q169
                  try clear q171
                  obtain ⟨kq, x5_12, x7_12, rfl, rfl, HA, HJ12, BK167, BK176, HB⟩ := hcut
                  cases kq with
                  | zero => exact absurd HA.out (by simp [omnibuslaw12_CliqueCounts.j2])
                  | succ kj12 =>
                    have H := HA.out
                    clear HA
                    simp only [omnibuslaw12_CliqueCounts.j2] at H
                    have HC21 := Aside0.mk H
                    clear H
                    go_upto_if 47 with (fail)
                    go_cut [6] (fun v6 wc => ∃ (kq : Nat) (x6_20 : Int), v6 = .int .i64 x6_20 ∧ Aside0 (omnibuslaw12_CliqueCounts.j3 kq l0 t166 x5_12 x6_20 x7_12 x8_1 t172 x168000_1 x168001_1 x168002_1 t173 t174 t175 = some r) ∧ Aside0 (kq ≤ kj12) ∧ Aside0 (wc.heap[gb167]? = some (.cells #[.int .i64 x168000_1, .int .i64 x168001_1, .int .i64 x168002_1] 26 (0, 0))) ∧ Aside0 (wc.heap[gb176]? = some (.cells #[.int .i64 t173, .int .i64 t174, .int .i64 t175] 26 (0, 0))) ∧ Aside0 (Below w.heap.size w wc))
                    case first =>
                      have H := HC21.out
                      clear HC21
                      by_cases c22 : t172 = 2
                      · rw [if_pos c22] at H
                        have c22b0 : (t172 == 2) = true := beq_iff_eq.mpr c22
                        have c22b1 : (t172 != 2) = false := bne_eq_false_iff_eq.mpr c22
                        clear c22
                        (first | rw [c22b0] | (simp only [i64_w, i32_w]; rw [c22b0]) | skip)
                        have H' := Aside0.mk H
                        clear H
                        go_wp2
                        go_meet
                        case rel => exact ⟨_, (wrap64 (x6_1 + 1)), (by first | rfl | (simp; done) | (simp [*]; done)), H', ⟨by have := HK1.out; have := HJ4.out; have := HJ12.out; first | omega | exact Nat.le_refl _⟩, ⟨by (with_reducible repeat (first | refine blk_drewN ?_ _ | refine blk_drew ?_ | refine blk_alloc ?_ _)); exact BK167.out⟩, ⟨by (with_reducible repeat (first | refine blk_drewN ?_ _ | refine blk_drew ?_ | refine blk_alloc ?_ _)); exact BK176.out⟩, ⟨by repeat (first | (with_reducible first | exact HB.out | apply below_alloc | apply pw_below_drewN | apply below_drew1 | refine below_set ?_ GE167.out | refine below_set ?_ GE176.out) | exact HB.out)⟩⟩
                      · rw [if_neg c22] at H
                        have c22b0 : (t172 == 2) = false := beq_eq_false_iff_ne.mpr c22
                        have c22b1 : (t172 != 2) = true := bne_iff_ne.mpr c22
                        (first | rw [c22b0] | (simp only [i64_w, i32_w]; rw [c22b0]) | skip)
                        have H' := Aside0.mk H
                        clear H
                        go_wp2
                        go_meet
                        case rel => exact ⟨_, (x6_1), (by first | rfl | (simp; done) | (simp [*]; done)), H', ⟨by have := HK1.out; have := HJ4.out; have := HJ12.out; first | omega | exact Nat.le_refl _⟩, ⟨by (with_reducible repeat (first | refine blk_drewN ?_ _ | refine blk_drew ?_ | refine blk_alloc ?_ _)); exact BK167.out⟩, ⟨by (with_reducible repeat (first | refine blk_drewN ?_ _ | refine blk_drew ?_ | refine blk_alloc ?_ _)); exact BK176.out⟩, ⟨by repeat (first | (with_reducible first | exact HB.out | apply below_alloc | apply pw_below_drewN | apply below_drew1 | refine below_set ?_ GE167.out | refine below_set ?_ GE176.out) | exact HB.out)⟩⟩
                    case rest =>
                      clear HC21
                      try clear c1
                      try clear p1
                      try clear q1
                      try clear hx1
                      try clear c2
                      try clear p2
                      try clear c6
                      try clear c6b0
                      try clear p6
                      try clear c7
                      try clear c8
                      try clear c8b0
                      try clear c9
                      try clear c9b0
                      try clear c13
                      try clear p16
                      try clear q16
                      try clear hx16
                      try clear c17
                      try clear p17
                      try clear q17
                      try clear hx17
                      try clear c19
                      try clear c19b0
                      try clear c19b1
                      try clear c20
                      try clear c22
                      try clear c22b0
                      try clear c22b1
                      try clear hcz14_0
                      try clear hcz14_1
                      try clear hcz14_2
                      try clear hcz18_0
                      try clear hcz18_1
                      try clear hcz18_2
                      try clear hfz14_0
                      try clear hfz14_1
                      try clear hfz14_2
                      try clear hfz18_0
                      try clear hfz18_1
                      try clear hfz18_2
                      try clear hx169_0
                      try clear hx169_1
                      try clear hx171_0
                      try clear hx171_1
                      try clear p1
                      try clear p16
                      try clear p169
                      try clear p17
                      try clear p171
                      try clear p2
                      try clear p6
                      try clear q1
                      try clear q16
                      try clear q169
                      try clear q17
                      try clear q171
                      obtain ⟨kq, x6_20, rfl, HA, HJ20, BK167, BK176, HB⟩ := hcut
                      cases kq with
                      | zero => exact absurd HA.out (by simp [omnibuslaw12_CliqueCounts.j3])
                      | succ kj20 =>
                        have H := HA.out
                        clear HA
                        simp only [omnibuslaw12_CliqueCounts.j3] at H
                        by_cases c23 : t172 = 1
                        · rw [if_pos c23] at H
                          have c23b0 : (t172 == 1) = true := beq_iff_eq.mpr c23
                          have c23b1 : (t172 != 1) = false := bne_eq_false_iff_eq.mpr c23
                          clear c23
                          replace H := Option.bind_eq_some_iff.mp H
                          obtain ⟨t178, A240, H⟩ := H
                          replace H : (if t178 = true then ((clique_Stays.f t173 t174 t175).bind fun t179 => (if t179 = true then (if t172 = 0 then (if (!(t173 == x168000_1) || (!(t174 == x168001_1) || (!(t175 == x168002_1)))) = true then (some false) else (omnibuslaw12_CliqueCounts.l0 kj20 l0 t166 x5_12 x6_20 x7_12 (wrap64 (x8_1 + 1)) t173 t174 t175)) else (omnibuslaw12_CliqueCounts.l0 kj20 l0 t166 x5_12 x6_20 x7_12 (wrap64 (x8_1 + 1)) t173 t174 t175)) else (some false))) else (if t172 = 0 then (if (!(t173 == x168000_1) || (!(t174 == x168001_1) || (!(t175 == x168002_1)))) = true then (some false) else (omnibuslaw12_CliqueCounts.l0 kj20 l0 t166 x5_12 x6_20 x7_12 (wrap64 (x8_1 + 1)) t173 t174 t175)) else (omnibuslaw12_CliqueCounts.l0 kj20 l0 t166 x5_12 x6_20 x7_12 (wrap64 (x8_1 + 1)) t173 t174 t175))) = some r := H
                          have A24 := Aside0.mk A240
                          clear A240
                          by_cases c25 : t178 = true
                          · subst c25
                            have H1 : ((clique_Stays.f t173 t174 t175).bind fun t179 => (if t179 = true then (if t172 = 0 then (if (!(t173 == x168000_1) || (!(t174 == x168001_1) || (!(t175 == x168002_1)))) = true then (some false) else (omnibuslaw12_CliqueCounts.l0 kj20 l0 t166 x5_12 x6_20 x7_12 (wrap64 (x8_1 + 1)) t173 t174 t175)) else (omnibuslaw12_CliqueCounts.l0 kj20 l0 t166 x5_12 x6_20 x7_12 (wrap64 (x8_1 + 1)) t173 t174 t175)) else (some false))) = some r := by rw [if_pos rfl] at H; exact H
                            clear H
                            have H := H1
                            clear H1
                            replace H := Option.bind_eq_some_iff.mp H
                            obtain ⟨t179, A260, H⟩ := H
                            replace H : (if t179 = true then (if t172 = 0 then (if (!(t173 == x168000_1) || (!(t174 == x168001_1) || (!(t175 == x168002_1)))) = true then (some false) else (omnibuslaw12_CliqueCounts.l0 kj20 l0 t166 x5_12 x6_20 x7_12 (wrap64 (x8_1 + 1)) t173 t174 t175)) else (omnibuslaw12_CliqueCounts.l0 kj20 l0 t166 x5_12 x6_20 x7_12 (wrap64 (x8_1 + 1)) t173 t174 t175)) else (some false)) = some r := H
                            have A26 := Aside0.mk A260
                            clear A260
                            by_cases c27 : t179 = true
                            · subst c27
                              have H1 : (if t172 = 0 then (if (!(t173 == x168000_1) || (!(t174 == x168001_1) || (!(t175 == x168002_1)))) = true then (some false) else (omnibuslaw12_CliqueCounts.l0 kj20 l0 t166 x5_12 x6_20 x7_12 (wrap64 (x8_1 + 1)) t173 t174 t175)) else (omnibuslaw12_CliqueCounts.l0 kj20 l0 t166 x5_12 x6_20 x7_12 (wrap64 (x8_1 + 1)) t173 t174 t175)) = some r := by rw [if_pos rfl] at H; exact H
                              clear H
                              have H := H1
                              clear H1
                              by_cases c28 : t172 = 0
                              · rw [if_pos c28] at H
                                have c28b0 : (t172 == 0) = true := beq_iff_eq.mpr c28
                                have c28b1 : (t172 != 0) = false := bne_eq_false_iff_eq.mpr c28
                                clear c28
                                by_cases c29 : (!(t173 == x168000_1) || (!(t174 == x168001_1) || (!(t175 == x168002_1)))) = true
                                · rw [if_pos c29] at H
                                  have c29b0 : (!(t173 == x168000_1) || (!(t174 == x168001_1) || (!(t175 == x168002_1)))) = true := c29
                                  clear c29
                                  obtain rfl := Option.some.inj H
                                  have hnb30 := NB167_176.out
                                  have hnc30 := NB176_167.out
                                  have hcz31_0 : wc.cell? ⟨gb167, 0, none⟩ = some (.int .i64 x168000_1) := (blk_cell BK167.out 0).trans rfl
                                  have hcz31_1 : wc.cell? ⟨gb167, 1, none⟩ = some (.int .i64 x168001_1) := (blk_cell BK167.out 1).trans rfl
                                  have hcz31_2 : wc.cell? ⟨gb167, 2, none⟩ = some (.int .i64 x168002_1) := (blk_cell BK167.out 2).trans rfl
                                  have hfz31_0 := blk_frozen BK167.out 0
                                  have hfz31_1 := blk_frozen BK167.out 1
                                  have hfz31_2 := blk_frozen BK167.out 2
                                  go_wp2_with (first | (go_at_call 14; (with_reducible refine (clique_Stays.calls x168000_1 x168001_1 x168002_1 true _ A24.out).mono ?_); rintro e w32 ⟨rfl, hb⟩; have n0_ := Aside0.mk (blk_below (g := gb167) (o := .cells #[.int .i64 x168000_1, .int .i64 x168001_1, .int .i64 x168002_1] 26 (0, 0)) (by (with_reducible repeat (first | refine blk_drewN ?_ _ | refine blk_drew ?_ | refine blk_alloc ?_ _)); exact BK167.out) hb); have n1_ := Aside0.mk (blk_below (g := gb176) (o := .cells #[.int .i64 t173, .int .i64 t174, .int .i64 t175] 26 (0, 0)) (by (with_reducible repeat (first | refine blk_drewN ?_ _ | refine blk_drew ?_ | refine blk_alloc ?_ _)); exact BK176.out) hb); have n2_ := Aside0.mk (below_step (by repeat (first | (with_reducible first | exact HB.out | apply below_alloc | apply pw_below_drewN | apply below_drew1 | refine below_set ?_ GE167.out | refine below_set ?_ GE176.out) | exact HB.out)) hb); clear BK167; clear BK176; clear HB; have BK167 := n0_; have BK176 := n1_; have HB := n2_; clear n0_ n1_ n2_; (try clear hb); (try clear hb2); (try clear hk); (try clear hi); have hcz33_0 : w32.cell? ⟨gb176, 0, none⟩ = some (.int .i64 t173) := (blk_cell BK176.out 0).trans rfl; have hcz33_1 : w32.cell? ⟨gb176, 1, none⟩ = some (.int .i64 t174) := (blk_cell BK176.out 1).trans rfl; have hcz33_2 : w32.cell? ⟨gb176, 2, none⟩ = some (.int .i64 t175) := (blk_cell BK176.out 2).trans rfl; have hfz33_0 := blk_frozen BK176.out 0; have hfz33_1 := blk_frozen BK176.out 1; have hfz33_2 := blk_frozen BK176.out 2) | (go_at_call 14; (with_reducible refine (clique_Stays.calls t173 t174 t175 true _ A26.out).mono ?_); rintro e w34 ⟨rfl, hb⟩; have n0_ := Aside0.mk (blk_below (g := gb167) (o := .cells #[.int .i64 x168000_1, .int .i64 x168001_1, .int .i64 x168002_1] 26 (0, 0)) (by (with_reducible repeat (first | refine blk_drewN ?_ _ | refine blk_drew ?_ | refine blk_alloc ?_ _)); exact BK167.out) hb); have n1_ := Aside0.mk (blk_below (g := gb176) (o := .cells #[.int .i64 t173, .int .i64 t174, .int .i64 t175] 26 (0, 0)) (by (with_reducible repeat (first | refine blk_drewN ?_ _ | refine blk_drew ?_ | refine blk_alloc ?_ _)); exact BK176.out) hb); have n2_ := Aside0.mk (below_step (by repeat (first | (with_reducible first | exact HB.out | apply below_alloc | apply pw_below_drewN | apply below_drew1 | refine below_set ?_ GE167.out | refine below_set ?_ GE176.out) | exact HB.out)) hb); clear BK167; clear BK176; clear HB; have BK167 := n0_; have BK176 := n1_; have HB := n2_; clear n0_ n1_ n2_; (try clear hb); (try clear hb2); (try clear hk); (try clear hi); have hcz35_0 : w34.cell? ⟨gb176, 0, none⟩ = some (.int .i64 t173) := (blk_cell BK176.out 0).trans rfl; have hcz35_1 : w34.cell? ⟨gb176, 1, none⟩ = some (.int .i64 t174) := (blk_cell BK176.out 1).trans rfl; have hcz35_2 : w34.cell? ⟨gb176, 2, none⟩ = some (.int .i64 t175) := (blk_cell BK176.out 2).trans rfl; have hfz35_0 := blk_frozen BK176.out 0; have hfz35_1 := blk_frozen BK176.out 1; have hfz35_2 := blk_frozen BK176.out 2; have hcz36_0 : w34.cell? ⟨gb167, 0, none⟩ = some (.int .i64 x168000_1) := (blk_cell BK167.out 0).trans rfl; have hcz36_1 : w34.cell? ⟨gb167, 1, none⟩ = some (.int .i64 x168001_1) := (blk_cell BK167.out 1).trans rfl; have hcz36_2 : w34.cell? ⟨gb167, 2, none⟩ = some (.int .i64 x168002_1) := (blk_cell BK167.out 2).trans rfl; have hfz36_0 := blk_frozen BK167.out 0; have hfz36_1 := blk_frozen BK167.out 1; have hfz36_2 := blk_frozen BK167.out 2))
                                  go_ret
                                  exact ⟨by first | rfl | (simp [errW_none, errW_some] <;> rfl) | (simp [*, errW_none, errW_some] <;> rfl), by repeat (first | (with_reducible first | exact HB.out | apply below_alloc | apply pw_below_drewN | apply below_drew1 | refine below_set ?_ GE167.out | refine below_set ?_ GE176.out) | exact HB.out)⟩
                                · rw [if_neg c29] at H
                                  have c29b0 : (!(t173 == x168000_1) || (!(t174 == x168001_1) || (!(t175 == x168002_1)))) = false := by simpa using c29
                                  clear c29
                                  have H' := Aside0.mk H
                                  clear H
                                  have hnb37 := NB167_176.out
                                  have hnc37 := NB176_167.out
                                  have hcz38_0 : wc.cell? ⟨gb167, 0, none⟩ = some (.int .i64 x168000_1) := (blk_cell BK167.out 0).trans rfl
                                  have hcz38_1 : wc.cell? ⟨gb167, 1, none⟩ = some (.int .i64 x168001_1) := (blk_cell BK167.out 1).trans rfl
                                  have hcz38_2 : wc.cell? ⟨gb167, 2, none⟩ = some (.int .i64 x168002_1) := (blk_cell BK167.out 2).trans rfl
                                  have hfz38_0 := blk_frozen BK167.out 0
                                  have hfz38_1 := blk_frozen BK167.out 1
                                  have hfz38_2 := blk_frozen BK167.out 2
                                  go_wp2_with (first | (go_at_call 14; (with_reducible refine (clique_Stays.calls x168000_1 x168001_1 x168002_1 true _ A24.out).mono ?_); rintro e w39 ⟨rfl, hb⟩; have n0_ := Aside0.mk (blk_below (g := gb167) (o := .cells #[.int .i64 x168000_1, .int .i64 x168001_1, .int .i64 x168002_1] 26 (0, 0)) (by (with_reducible repeat (first | refine blk_drewN ?_ _ | refine blk_drew ?_ | refine blk_alloc ?_ _)); exact BK167.out) hb); have n1_ := Aside0.mk (blk_below (g := gb176) (o := .cells #[.int .i64 t173, .int .i64 t174, .int .i64 t175] 26 (0, 0)) (by (with_reducible repeat (first | refine blk_drewN ?_ _ | refine blk_drew ?_ | refine blk_alloc ?_ _)); exact BK176.out) hb); have n2_ := Aside0.mk (below_step (by repeat (first | (with_reducible first | exact HB.out | apply below_alloc | apply pw_below_drewN | apply below_drew1 | refine below_set ?_ GE167.out | refine below_set ?_ GE176.out) | exact HB.out)) hb); clear BK167; clear BK176; clear HB; have BK167 := n0_; have BK176 := n1_; have HB := n2_; clear n0_ n1_ n2_; (try clear hb); (try clear hb2); (try clear hk); (try clear hi); have hcz40_0 : w39.cell? ⟨gb176, 0, none⟩ = some (.int .i64 t173) := (blk_cell BK176.out 0).trans rfl; have hcz40_1 : w39.cell? ⟨gb176, 1, none⟩ = some (.int .i64 t174) := (blk_cell BK176.out 1).trans rfl; have hcz40_2 : w39.cell? ⟨gb176, 2, none⟩ = some (.int .i64 t175) := (blk_cell BK176.out 2).trans rfl; have hfz40_0 := blk_frozen BK176.out 0; have hfz40_1 := blk_frozen BK176.out 1; have hfz40_2 := blk_frozen BK176.out 2) | (go_at_call 14; (with_reducible refine (clique_Stays.calls t173 t174 t175 true _ A26.out).mono ?_); rintro e w41 ⟨rfl, hb⟩; have n0_ := Aside0.mk (blk_below (g := gb167) (o := .cells #[.int .i64 x168000_1, .int .i64 x168001_1, .int .i64 x168002_1] 26 (0, 0)) (by (with_reducible repeat (first | refine blk_drewN ?_ _ | refine blk_drew ?_ | refine blk_alloc ?_ _)); exact BK167.out) hb); have n1_ := Aside0.mk (blk_below (g := gb176) (o := .cells #[.int .i64 t173, .int .i64 t174, .int .i64 t175] 26 (0, 0)) (by (with_reducible repeat (first | refine blk_drewN ?_ _ | refine blk_drew ?_ | refine blk_alloc ?_ _)); exact BK176.out) hb); have n2_ := Aside0.mk (below_step (by repeat (first | (with_reducible first | exact HB.out | apply below_alloc | apply pw_below_drewN | apply below_drew1 | refine below_set ?_ GE167.out | refine below_set ?_ GE176.out) | exact HB.out)) hb); clear BK167; clear BK176; clear HB; have BK167 := n0_; have BK176 := n1_; have HB := n2_; clear n0_ n1_ n2_; (try clear hb); (try clear hb2); (try clear hk); (try clear hi); have hcz42_0 : w41.cell? ⟨gb176, 0, none⟩ = some (.int .i64 t173) := (blk_cell BK176.out 0).trans rfl; have hcz42_1 : w41.cell? ⟨gb176, 1, none⟩ = some (.int .i64 t174) := (blk_cell BK176.out 1).trans rfl; have hcz42_2 : w41.cell? ⟨gb176, 2, none⟩ = some (.int .i64 t175) := (blk_cell BK176.out 2).trans rfl; have hfz42_0 := blk_frozen BK176.out 0; have hfz42_1 := blk_frozen BK176.out 1; have hfz42_2 := blk_frozen BK176.out 2; have hcz43_0 : w41.cell? ⟨gb167, 0, none⟩ = some (.int .i64 x168000_1) := (blk_cell BK167.out 0).trans rfl; have hcz43_1 : w41.cell? ⟨gb167, 1, none⟩ = some (.int .i64 x168001_1) := (blk_cell BK167.out 1).trans rfl; have hcz43_2 : w41.cell? ⟨gb167, 2, none⟩ = some (.int .i64 x168002_1) := (blk_cell BK167.out 2).trans rfl; have hfz43_0 := blk_frozen BK167.out 0; have hfz43_1 := blk_frozen BK167.out 1; have hfz43_2 := blk_frozen BK167.out 2))
                                  go_roundg kj20
                                  case measure => have := HK1.out; have := HJ4.out; have := HJ12.out; have := HJ20.out; omega
                                  case rel => exact ⟨(x5_12), (x6_20), (x7_12), (wrap64 (x8_1 + 1)), (t173), (t174), (t175), (by first | rfl | (simp; done) | (simp [*]; done)), (by first | rfl | (simp; done) | (simp [*]; done)), (by first | rfl | (simp; done) | (simp [*]; done)), (by first | rfl | (simp; done) | (simp [*]; done)), H', ⟨by have := HK1.out; have := HJ4.out; have := HJ12.out; have := HJ20.out; omega⟩, ⟨by (with_reducible repeat (first | refine blk_drewN ?_ _ | refine blk_drew ?_ | refine blk_alloc ?_ _)); refine blk_put (cs := #[.int .i64 t173, .int .i64 t174, .int .i64 x168002_1]) ?_ 2 _ rfl; (with_reducible repeat (first | refine blk_drewN ?_ _ | refine blk_drew ?_ | refine blk_alloc ?_ _)); refine blk_put (cs := #[.int .i64 t173, .int .i64 x168001_1, .int .i64 x168002_1]) ?_ 1 _ rfl; (with_reducible repeat (first | refine blk_drewN ?_ _ | refine blk_drew ?_ | refine blk_alloc ?_ _)); refine blk_put (cs := #[.int .i64 x168000_1, .int .i64 x168001_1, .int .i64 x168002_1]) ?_ 0 _ rfl; (with_reducible repeat (first | refine blk_drewN ?_ _ | refine blk_drew ?_ | refine blk_alloc ?_ _)); exact BK167.out⟩, ⟨by repeat (first | (with_reducible first | exact HB.out | apply below_alloc | apply pw_below_drewN | apply below_drew1 | refine below_set ?_ GE167.out | refine below_set ?_ GE176.out) | exact HB.out)⟩⟩
                              · rw [if_neg c28] at H
                                have c28b0 : (t172 == 0) = false := beq_eq_false_iff_ne.mpr c28
                                have c28b1 : (t172 != 0) = true := bne_iff_ne.mpr c28
                                have H' := Aside0.mk H
                                clear H
                                have hnb44 := NB167_176.out
                                have hnc44 := NB176_167.out
                                have hcz45_0 : wc.cell? ⟨gb167, 0, none⟩ = some (.int .i64 x168000_1) := (blk_cell BK167.out 0).trans rfl
                                have hcz45_1 : wc.cell? ⟨gb167, 1, none⟩ = some (.int .i64 x168001_1) := (blk_cell BK167.out 1).trans rfl
                                have hcz45_2 : wc.cell? ⟨gb167, 2, none⟩ = some (.int .i64 x168002_1) := (blk_cell BK167.out 2).trans rfl
                                have hfz45_0 := blk_frozen BK167.out 0
                                have hfz45_1 := blk_frozen BK167.out 1
                                have hfz45_2 := blk_frozen BK167.out 2
                                go_wp2_with (first | (go_at_call 14; (with_reducible refine (clique_Stays.calls x168000_1 x168001_1 x168002_1 true _ A24.out).mono ?_); rintro e w46 ⟨rfl, hb⟩; have n0_ := Aside0.mk (blk_below (g := gb167) (o := .cells #[.int .i64 x168000_1, .int .i64 x168001_1, .int .i64 x168002_1] 26 (0, 0)) (by (with_reducible repeat (first | refine blk_drewN ?_ _ | refine blk_drew ?_ | refine blk_alloc ?_ _)); exact BK167.out) hb); have n1_ := Aside0.mk (blk_below (g := gb176) (o := .cells #[.int .i64 t173, .int .i64 t174, .int .i64 t175] 26 (0, 0)) (by (with_reducible repeat (first | refine blk_drewN ?_ _ | refine blk_drew ?_ | refine blk_alloc ?_ _)); exact BK176.out) hb); have n2_ := Aside0.mk (below_step (by repeat (first | (with_reducible first | exact HB.out | apply below_alloc | apply pw_below_drewN | apply below_drew1 | refine below_set ?_ GE167.out | refine below_set ?_ GE176.out) | exact HB.out)) hb); clear BK167; clear BK176; clear HB; have BK167 := n0_; have BK176 := n1_; have HB := n2_; clear n0_ n1_ n2_; (try clear hb); (try clear hb2); (try clear hk); (try clear hi); have hcz47_0 : w46.cell? ⟨gb176, 0, none⟩ = some (.int .i64 t173) := (blk_cell BK176.out 0).trans rfl; have hcz47_1 : w46.cell? ⟨gb176, 1, none⟩ = some (.int .i64 t174) := (blk_cell BK176.out 1).trans rfl; have hcz47_2 : w46.cell? ⟨gb176, 2, none⟩ = some (.int .i64 t175) := (blk_cell BK176.out 2).trans rfl; have hfz47_0 := blk_frozen BK176.out 0; have hfz47_1 := blk_frozen BK176.out 1; have hfz47_2 := blk_frozen BK176.out 2) | (go_at_call 14; (with_reducible refine (clique_Stays.calls t173 t174 t175 true _ A26.out).mono ?_); rintro e w48 ⟨rfl, hb⟩; have n0_ := Aside0.mk (blk_below (g := gb167) (o := .cells #[.int .i64 x168000_1, .int .i64 x168001_1, .int .i64 x168002_1] 26 (0, 0)) (by (with_reducible repeat (first | refine blk_drewN ?_ _ | refine blk_drew ?_ | refine blk_alloc ?_ _)); exact BK167.out) hb); have n1_ := Aside0.mk (blk_below (g := gb176) (o := .cells #[.int .i64 t173, .int .i64 t174, .int .i64 t175] 26 (0, 0)) (by (with_reducible repeat (first | refine blk_drewN ?_ _ | refine blk_drew ?_ | refine blk_alloc ?_ _)); exact BK176.out) hb); have n2_ := Aside0.mk (below_step (by repeat (first | (with_reducible first | exact HB.out | apply below_alloc | apply pw_below_drewN | apply below_drew1 | refine below_set ?_ GE167.out | refine below_set ?_ GE176.out) | exact HB.out)) hb); clear BK167; clear BK176; clear HB; have BK167 := n0_; have BK176 := n1_; have HB := n2_; clear n0_ n1_ n2_; (try clear hb); (try clear hb2); (try clear hk); (try clear hi); have hcz49_0 : w48.cell? ⟨gb176, 0, none⟩ = some (.int .i64 t173) := (blk_cell BK176.out 0).trans rfl; have hcz49_1 : w48.cell? ⟨gb176, 1, none⟩ = some (.int .i64 t174) := (blk_cell BK176.out 1).trans rfl; have hcz49_2 : w48.cell? ⟨gb176, 2, none⟩ = some (.int .i64 t175) := (blk_cell BK176.out 2).trans rfl; have hfz49_0 := blk_frozen BK176.out 0; have hfz49_1 := blk_frozen BK176.out 1; have hfz49_2 := blk_frozen BK176.out 2; have hcz50_0 : w48.cell? ⟨gb167, 0, none⟩ = some (.int .i64 x168000_1) := (blk_cell BK167.out 0).trans rfl; have hcz50_1 : w48.cell? ⟨gb167, 1, none⟩ = some (.int .i64 x168001_1) := (blk_cell BK167.out 1).trans rfl; have hcz50_2 : w48.cell? ⟨gb167, 2, none⟩ = some (.int .i64 x168002_1) := (blk_cell BK167.out 2).trans rfl; have hfz50_0 := blk_frozen BK167.out 0; have hfz50_1 := blk_frozen BK167.out 1; have hfz50_2 := blk_frozen BK167.out 2))
                                go_roundg kj20
                                case measure => have := HK1.out; have := HJ4.out; have := HJ12.out; have := HJ20.out; omega
                                case rel => exact ⟨(x5_12), (x6_20), (x7_12), (wrap64 (x8_1 + 1)), (t173), (t174), (t175), (by first | rfl | (simp; done) | (simp [*]; done)), (by first | rfl | (simp; done) | (simp [*]; done)), (by first | rfl | (simp; done) | (simp [*]; done)), (by first | rfl | (simp; done) | (simp [*]; done)), H', ⟨by have := HK1.out; have := HJ4.out; have := HJ12.out; have := HJ20.out; omega⟩, ⟨by (with_reducible repeat (first | refine blk_drewN ?_ _ | refine blk_drew ?_ | refine blk_alloc ?_ _)); refine blk_put (cs := #[.int .i64 t173, .int .i64 t174, .int .i64 x168002_1]) ?_ 2 _ rfl; (with_reducible repeat (first | refine blk_drewN ?_ _ | refine blk_drew ?_ | refine blk_alloc ?_ _)); refine blk_put (cs := #[.int .i64 t173, .int .i64 x168001_1, .int .i64 x168002_1]) ?_ 1 _ rfl; (with_reducible repeat (first | refine blk_drewN ?_ _ | refine blk_drew ?_ | refine blk_alloc ?_ _)); refine blk_put (cs := #[.int .i64 x168000_1, .int .i64 x168001_1, .int .i64 x168002_1]) ?_ 0 _ rfl; (with_reducible repeat (first | refine blk_drewN ?_ _ | refine blk_drew ?_ | refine blk_alloc ?_ _)); exact BK167.out⟩, ⟨by repeat (first | (with_reducible first | exact HB.out | apply below_alloc | apply pw_below_drewN | apply below_drew1 | refine below_set ?_ GE167.out | refine below_set ?_ GE176.out) | exact HB.out)⟩⟩
                            · replace c27 := Bool.eq_false_iff.mpr c27
                              subst c27
                              have H1 : (some false) = some r := by rw [if_neg (show ¬ (false = true) by decide)] at H; exact H
                              clear H
                              have H := H1
                              clear H1
                              obtain rfl := Option.some.inj H
                              have hnb51 := NB167_176.out
                              have hnc51 := NB176_167.out
                              have hcz52_0 : wc.cell? ⟨gb167, 0, none⟩ = some (.int .i64 x168000_1) := (blk_cell BK167.out 0).trans rfl
                              have hcz52_1 : wc.cell? ⟨gb167, 1, none⟩ = some (.int .i64 x168001_1) := (blk_cell BK167.out 1).trans rfl
                              have hcz52_2 : wc.cell? ⟨gb167, 2, none⟩ = some (.int .i64 x168002_1) := (blk_cell BK167.out 2).trans rfl
                              have hfz52_0 := blk_frozen BK167.out 0
                              have hfz52_1 := blk_frozen BK167.out 1
                              have hfz52_2 := blk_frozen BK167.out 2
                              go_wp2_with (first | (go_at_call 14; (with_reducible refine (clique_Stays.calls x168000_1 x168001_1 x168002_1 true _ A24.out).mono ?_); rintro e w53 ⟨rfl, hb⟩; have n0_ := Aside0.mk (blk_below (g := gb167) (o := .cells #[.int .i64 x168000_1, .int .i64 x168001_1, .int .i64 x168002_1] 26 (0, 0)) (by (with_reducible repeat (first | refine blk_drewN ?_ _ | refine blk_drew ?_ | refine blk_alloc ?_ _)); exact BK167.out) hb); have n1_ := Aside0.mk (blk_below (g := gb176) (o := .cells #[.int .i64 t173, .int .i64 t174, .int .i64 t175] 26 (0, 0)) (by (with_reducible repeat (first | refine blk_drewN ?_ _ | refine blk_drew ?_ | refine blk_alloc ?_ _)); exact BK176.out) hb); have n2_ := Aside0.mk (below_step (by repeat (first | (with_reducible first | exact HB.out | apply below_alloc | apply pw_below_drewN | apply below_drew1 | refine below_set ?_ GE167.out | refine below_set ?_ GE176.out) | exact HB.out)) hb); clear BK167; clear BK176; clear HB; have BK167 := n0_; have BK176 := n1_; have HB := n2_; clear n0_ n1_ n2_; (try clear hb); (try clear hb2); (try clear hk); (try clear hi); have hcz54_0 : w53.cell? ⟨gb176, 0, none⟩ = some (.int .i64 t173) := (blk_cell BK176.out 0).trans rfl; have hcz54_1 : w53.cell? ⟨gb176, 1, none⟩ = some (.int .i64 t174) := (blk_cell BK176.out 1).trans rfl; have hcz54_2 : w53.cell? ⟨gb176, 2, none⟩ = some (.int .i64 t175) := (blk_cell BK176.out 2).trans rfl; have hfz54_0 := blk_frozen BK176.out 0; have hfz54_1 := blk_frozen BK176.out 1; have hfz54_2 := blk_frozen BK176.out 2) | (go_at_call 14; (with_reducible refine (clique_Stays.calls t173 t174 t175 false _ A26.out).mono ?_); rintro e w55 ⟨rfl, hb⟩; have n0_ := Aside0.mk (blk_below (g := gb167) (o := .cells #[.int .i64 x168000_1, .int .i64 x168001_1, .int .i64 x168002_1] 26 (0, 0)) (by (with_reducible repeat (first | refine blk_drewN ?_ _ | refine blk_drew ?_ | refine blk_alloc ?_ _)); exact BK167.out) hb); have n1_ := Aside0.mk (blk_below (g := gb176) (o := .cells #[.int .i64 t173, .int .i64 t174, .int .i64 t175] 26 (0, 0)) (by (with_reducible repeat (first | refine blk_drewN ?_ _ | refine blk_drew ?_ | refine blk_alloc ?_ _)); exact BK176.out) hb); have n2_ := Aside0.mk (below_step (by repeat (first | (with_reducible first | exact HB.out | apply below_alloc | apply pw_below_drewN | apply below_drew1 | refine below_set ?_ GE167.out | refine below_set ?_ GE176.out) | exact HB.out)) hb); clear BK167; clear BK176; clear HB; have BK167 := n0_; have BK176 := n1_; have HB := n2_; clear n0_ n1_ n2_; (try clear hb); (try clear hb2); (try clear hk); (try clear hi)))
                              go_ret
                              exact ⟨by first | rfl | (simp [errW_none, errW_some] <;> rfl) | (simp [*, errW_none, errW_some] <;> rfl), by repeat (first | (with_reducible first | exact HB.out | apply below_alloc | apply pw_below_drewN | apply below_drew1 | refine below_set ?_ GE167.out | refine below_set ?_ GE176.out) | exact HB.out)⟩
                          · replace c25 := Bool.eq_false_iff.mpr c25
                            subst c25
                            have H1 : (if t172 = 0 then (if (!(t173 == x168000_1) || (!(t174 == x168001_1) || (!(t175 == x168002_1)))) = true then (some false) else (omnibuslaw12_CliqueCounts.l0 kj20 l0 t166 x5_12 x6_20 x7_12 (wrap64 (x8_1 + 1)) t173 t174 t175)) else (omnibuslaw12_CliqueCounts.l0 kj20 l0 t166 x5_12 x6_20 x7_12 (wrap64 (x8_1 + 1)) t173 t174 t175)) = some r := by rw [if_neg (show ¬ (false = true) by decide)] at H; exact H
                            clear H
                            have H := H1
                            clear H1
                            by_cases c56 : t172 = 0
                            · rw [if_pos c56] at H
                              have c56b0 : (t172 == 0) = true := beq_iff_eq.mpr c56
                              have c56b1 : (t172 != 0) = false := bne_eq_false_iff_eq.mpr c56
                              clear c56
                              by_cases c57 : (!(t173 == x168000_1) || (!(t174 == x168001_1) || (!(t175 == x168002_1)))) = true
                              · rw [if_pos c57] at H
                                have c57b0 : (!(t173 == x168000_1) || (!(t174 == x168001_1) || (!(t175 == x168002_1)))) = true := c57
                                clear c57
                                obtain rfl := Option.some.inj H
                                have hnb58 := NB167_176.out
                                have hnc58 := NB176_167.out
                                have hcz59_0 : wc.cell? ⟨gb167, 0, none⟩ = some (.int .i64 x168000_1) := (blk_cell BK167.out 0).trans rfl
                                have hcz59_1 : wc.cell? ⟨gb167, 1, none⟩ = some (.int .i64 x168001_1) := (blk_cell BK167.out 1).trans rfl
                                have hcz59_2 : wc.cell? ⟨gb167, 2, none⟩ = some (.int .i64 x168002_1) := (blk_cell BK167.out 2).trans rfl
                                have hfz59_0 := blk_frozen BK167.out 0
                                have hfz59_1 := blk_frozen BK167.out 1
                                have hfz59_2 := blk_frozen BK167.out 2
                                go_wp2_with (first | (go_at_call 14; (with_reducible refine (clique_Stays.calls x168000_1 x168001_1 x168002_1 false _ A24.out).mono ?_); rintro e w60 ⟨rfl, hb⟩; have n0_ := Aside0.mk (blk_below (g := gb167) (o := .cells #[.int .i64 x168000_1, .int .i64 x168001_1, .int .i64 x168002_1] 26 (0, 0)) (by (with_reducible repeat (first | refine blk_drewN ?_ _ | refine blk_drew ?_ | refine blk_alloc ?_ _)); exact BK167.out) hb); have n1_ := Aside0.mk (blk_below (g := gb176) (o := .cells #[.int .i64 t173, .int .i64 t174, .int .i64 t175] 26 (0, 0)) (by (with_reducible repeat (first | refine blk_drewN ?_ _ | refine blk_drew ?_ | refine blk_alloc ?_ _)); exact BK176.out) hb); have n2_ := Aside0.mk (below_step (by repeat (first | (with_reducible first | exact HB.out | apply below_alloc | apply pw_below_drewN | apply below_drew1 | refine below_set ?_ GE167.out | refine below_set ?_ GE176.out) | exact HB.out)) hb); clear BK167; clear BK176; clear HB; have BK167 := n0_; have BK176 := n1_; have HB := n2_; clear n0_ n1_ n2_; (try clear hb); (try clear hb2); (try clear hk); (try clear hi); have hcz61_0 : w60.cell? ⟨gb176, 0, none⟩ = some (.int .i64 t173) := (blk_cell BK176.out 0).trans rfl; have hcz61_1 : w60.cell? ⟨gb176, 1, none⟩ = some (.int .i64 t174) := (blk_cell BK176.out 1).trans rfl; have hcz61_2 : w60.cell? ⟨gb176, 2, none⟩ = some (.int .i64 t175) := (blk_cell BK176.out 2).trans rfl; have hfz61_0 := blk_frozen BK176.out 0; have hfz61_1 := blk_frozen BK176.out 1; have hfz61_2 := blk_frozen BK176.out 2; have hcz62_0 : w60.cell? ⟨gb167, 0, none⟩ = some (.int .i64 x168000_1) := (blk_cell BK167.out 0).trans rfl; have hcz62_1 : w60.cell? ⟨gb167, 1, none⟩ = some (.int .i64 x168001_1) := (blk_cell BK167.out 1).trans rfl; have hcz62_2 : w60.cell? ⟨gb167, 2, none⟩ = some (.int .i64 x168002_1) := (blk_cell BK167.out 2).trans rfl; have hfz62_0 := blk_frozen BK167.out 0; have hfz62_1 := blk_frozen BK167.out 1; have hfz62_2 := blk_frozen BK167.out 2))
                                go_ret
                                exact ⟨by first | rfl | (simp [errW_none, errW_some] <;> rfl) | (simp [*, errW_none, errW_some] <;> rfl), by repeat (first | (with_reducible first | exact HB.out | apply below_alloc | apply pw_below_drewN | apply below_drew1 | refine below_set ?_ GE167.out | refine below_set ?_ GE176.out) | exact HB.out)⟩
                              · rw [if_neg c57] at H
                                have c57b0 : (!(t173 == x168000_1) || (!(t174 == x168001_1) || (!(t175 == x168002_1)))) = false := by simpa using c57
                                clear c57
                                have H' := Aside0.mk H
                                clear H
                                have hnb63 := NB167_176.out
                                have hnc63 := NB176_167.out
                                have hcz64_0 : wc.cell? ⟨gb167, 0, none⟩ = some (.int .i64 x168000_1) := (blk_cell BK167.out 0).trans rfl
                                have hcz64_1 : wc.cell? ⟨gb167, 1, none⟩ = some (.int .i64 x168001_1) := (blk_cell BK167.out 1).trans rfl
                                have hcz64_2 : wc.cell? ⟨gb167, 2, none⟩ = some (.int .i64 x168002_1) := (blk_cell BK167.out 2).trans rfl
                                have hfz64_0 := blk_frozen BK167.out 0
                                have hfz64_1 := blk_frozen BK167.out 1
                                have hfz64_2 := blk_frozen BK167.out 2
                                go_wp2_with (first | (go_at_call 14; (with_reducible refine (clique_Stays.calls x168000_1 x168001_1 x168002_1 false _ A24.out).mono ?_); rintro e w65 ⟨rfl, hb⟩; have n0_ := Aside0.mk (blk_below (g := gb167) (o := .cells #[.int .i64 x168000_1, .int .i64 x168001_1, .int .i64 x168002_1] 26 (0, 0)) (by (with_reducible repeat (first | refine blk_drewN ?_ _ | refine blk_drew ?_ | refine blk_alloc ?_ _)); exact BK167.out) hb); have n1_ := Aside0.mk (blk_below (g := gb176) (o := .cells #[.int .i64 t173, .int .i64 t174, .int .i64 t175] 26 (0, 0)) (by (with_reducible repeat (first | refine blk_drewN ?_ _ | refine blk_drew ?_ | refine blk_alloc ?_ _)); exact BK176.out) hb); have n2_ := Aside0.mk (below_step (by repeat (first | (with_reducible first | exact HB.out | apply below_alloc | apply pw_below_drewN | apply below_drew1 | refine below_set ?_ GE167.out | refine below_set ?_ GE176.out) | exact HB.out)) hb); clear BK167; clear BK176; clear HB; have BK167 := n0_; have BK176 := n1_; have HB := n2_; clear n0_ n1_ n2_; (try clear hb); (try clear hb2); (try clear hk); (try clear hi); have hcz66_0 : w65.cell? ⟨gb176, 0, none⟩ = some (.int .i64 t173) := (blk_cell BK176.out 0).trans rfl; have hcz66_1 : w65.cell? ⟨gb176, 1, none⟩ = some (.int .i64 t174) := (blk_cell BK176.out 1).trans rfl; have hcz66_2 : w65.cell? ⟨gb176, 2, none⟩ = some (.int .i64 t175) := (blk_cell BK176.out 2).trans rfl; have hfz66_0 := blk_frozen BK176.out 0; have hfz66_1 := blk_frozen BK176.out 1; have hfz66_2 := blk_frozen BK176.out 2; have hcz67_0 : w65.cell? ⟨gb167, 0, none⟩ = some (.int .i64 x168000_1) := (blk_cell BK167.out 0).trans rfl; have hcz67_1 : w65.cell? ⟨gb167, 1, none⟩ = some (.int .i64 x168001_1) := (blk_cell BK167.out 1).trans rfl; have hcz67_2 : w65.cell? ⟨gb167, 2, none⟩ = some (.int .i64 x168002_1) := (blk_cell BK167.out 2).trans rfl; have hfz67_0 := blk_frozen BK167.out 0; have hfz67_1 := blk_frozen BK167.out 1; have hfz67_2 := blk_frozen BK167.out 2))
                                go_roundg kj20
                                case measure => have := HK1.out; have := HJ4.out; have := HJ12.out; have := HJ20.out; omega
                                case rel => exact ⟨(x5_12), (x6_20), (x7_12), (wrap64 (x8_1 + 1)), (t173), (t174), (t175), (by first | rfl | (simp; done) | (simp [*]; done)), (by first | rfl | (simp; done) | (simp [*]; done)), (by first | rfl | (simp; done) | (simp [*]; done)), (by first | rfl | (simp; done) | (simp [*]; done)), H', ⟨by have := HK1.out; have := HJ4.out; have := HJ12.out; have := HJ20.out; omega⟩, ⟨by (with_reducible repeat (first | refine blk_drewN ?_ _ | refine blk_drew ?_ | refine blk_alloc ?_ _)); refine blk_put (cs := #[.int .i64 t173, .int .i64 t174, .int .i64 x168002_1]) ?_ 2 _ rfl; (with_reducible repeat (first | refine blk_drewN ?_ _ | refine blk_drew ?_ | refine blk_alloc ?_ _)); refine blk_put (cs := #[.int .i64 t173, .int .i64 x168001_1, .int .i64 x168002_1]) ?_ 1 _ rfl; (with_reducible repeat (first | refine blk_drewN ?_ _ | refine blk_drew ?_ | refine blk_alloc ?_ _)); refine blk_put (cs := #[.int .i64 x168000_1, .int .i64 x168001_1, .int .i64 x168002_1]) ?_ 0 _ rfl; (with_reducible repeat (first | refine blk_drewN ?_ _ | refine blk_drew ?_ | refine blk_alloc ?_ _)); exact BK167.out⟩, ⟨by repeat (first | (with_reducible first | exact HB.out | apply below_alloc | apply pw_below_drewN | apply below_drew1 | refine below_set ?_ GE167.out | refine below_set ?_ GE176.out) | exact HB.out)⟩⟩
                            · rw [if_neg c56] at H
                              have c56b0 : (t172 == 0) = false := beq_eq_false_iff_ne.mpr c56
                              have c56b1 : (t172 != 0) = true := bne_iff_ne.mpr c56
                              have H' := Aside0.mk H
                              clear H
                              have hnb68 := NB167_176.out
                              have hnc68 := NB176_167.out
                              have hcz69_0 : wc.cell? ⟨gb167, 0, none⟩ = some (.int .i64 x168000_1) := (blk_cell BK167.out 0).trans rfl
                              have hcz69_1 : wc.cell? ⟨gb167, 1, none⟩ = some (.int .i64 x168001_1) := (blk_cell BK167.out 1).trans rfl
                              have hcz69_2 : wc.cell? ⟨gb167, 2, none⟩ = some (.int .i64 x168002_1) := (blk_cell BK167.out 2).trans rfl
                              have hfz69_0 := blk_frozen BK167.out 0
                              have hfz69_1 := blk_frozen BK167.out 1
                              have hfz69_2 := blk_frozen BK167.out 2
                              go_wp2_with (first | (go_at_call 14; (with_reducible refine (clique_Stays.calls x168000_1 x168001_1 x168002_1 false _ A24.out).mono ?_); rintro e w70 ⟨rfl, hb⟩; have n0_ := Aside0.mk (blk_below (g := gb167) (o := .cells #[.int .i64 x168000_1, .int .i64 x168001_1, .int .i64 x168002_1] 26 (0, 0)) (by (with_reducible repeat (first | refine blk_drewN ?_ _ | refine blk_drew ?_ | refine blk_alloc ?_ _)); exact BK167.out) hb); have n1_ := Aside0.mk (blk_below (g := gb176) (o := .cells #[.int .i64 t173, .int .i64 t174, .int .i64 t175] 26 (0, 0)) (by (with_reducible repeat (first | refine blk_drewN ?_ _ | refine blk_drew ?_ | refine blk_alloc ?_ _)); exact BK176.out) hb); have n2_ := Aside0.mk (below_step (by repeat (first | (with_reducible first | exact HB.out | apply below_alloc | apply pw_below_drewN | apply below_drew1 | refine below_set ?_ GE167.out | refine below_set ?_ GE176.out) | exact HB.out)) hb); clear BK167; clear BK176; clear HB; have BK167 := n0_; have BK176 := n1_; have HB := n2_; clear n0_ n1_ n2_; (try clear hb); (try clear hb2); (try clear hk); (try clear hi); have hcz71_0 : w70.cell? ⟨gb176, 0, none⟩ = some (.int .i64 t173) := (blk_cell BK176.out 0).trans rfl; have hcz71_1 : w70.cell? ⟨gb176, 1, none⟩ = some (.int .i64 t174) := (blk_cell BK176.out 1).trans rfl; have hcz71_2 : w70.cell? ⟨gb176, 2, none⟩ = some (.int .i64 t175) := (blk_cell BK176.out 2).trans rfl; have hfz71_0 := blk_frozen BK176.out 0; have hfz71_1 := blk_frozen BK176.out 1; have hfz71_2 := blk_frozen BK176.out 2; have hcz72_0 : w70.cell? ⟨gb167, 0, none⟩ = some (.int .i64 x168000_1) := (blk_cell BK167.out 0).trans rfl; have hcz72_1 : w70.cell? ⟨gb167, 1, none⟩ = some (.int .i64 x168001_1) := (blk_cell BK167.out 1).trans rfl; have hcz72_2 : w70.cell? ⟨gb167, 2, none⟩ = some (.int .i64 x168002_1) := (blk_cell BK167.out 2).trans rfl; have hfz72_0 := blk_frozen BK167.out 0; have hfz72_1 := blk_frozen BK167.out 1; have hfz72_2 := blk_frozen BK167.out 2))
                              go_roundg kj20
                              case measure => have := HK1.out; have := HJ4.out; have := HJ12.out; have := HJ20.out; omega
                              case rel => exact ⟨(x5_12), (x6_20), (x7_12), (wrap64 (x8_1 + 1)), (t173), (t174), (t175), (by first | rfl | (simp; done) | (simp [*]; done)), (by first | rfl | (simp; done) | (simp [*]; done)), (by first | rfl | (simp; done) | (simp [*]; done)), (by first | rfl | (simp; done) | (simp [*]; done)), H', ⟨by have := HK1.out; have := HJ4.out; have := HJ12.out; have := HJ20.out; omega⟩, ⟨by (with_reducible repeat (first | refine blk_drewN ?_ _ | refine blk_drew ?_ | refine blk_alloc ?_ _)); refine blk_put (cs := #[.int .i64 t173, .int .i64 t174, .int .i64 x168002_1]) ?_ 2 _ rfl; (with_reducible repeat (first | refine blk_drewN ?_ _ | refine blk_drew ?_ | refine blk_alloc ?_ _)); refine blk_put (cs := #[.int .i64 t173, .int .i64 x168001_1, .int .i64 x168002_1]) ?_ 1 _ rfl; (with_reducible repeat (first | refine blk_drewN ?_ _ | refine blk_drew ?_ | refine blk_alloc ?_ _)); refine blk_put (cs := #[.int .i64 x168000_1, .int .i64 x168001_1, .int .i64 x168002_1]) ?_ 0 _ rfl; (with_reducible repeat (first | refine blk_drewN ?_ _ | refine blk_drew ?_ | refine blk_alloc ?_ _)); exact BK167.out⟩, ⟨by repeat (first | (with_reducible first | exact HB.out | apply below_alloc | apply pw_below_drewN | apply below_drew1 | refine below_set ?_ GE167.out | refine below_set ?_ GE176.out) | exact HB.out)⟩⟩
                        · rw [if_neg c23] at H
                          have c23b0 : (t172 == 1) = false := beq_eq_false_iff_ne.mpr c23
                          have c23b1 : (t172 != 1) = true := bne_iff_ne.mpr c23
                          by_cases c73 : t172 = 0
                          · rw [if_pos c73] at H
                            have c73b0 : (t172 == 0) = true := beq_iff_eq.mpr c73
                            have c73b1 : (t172 != 0) = false := bne_eq_false_iff_eq.mpr c73
                            clear c73
                            by_cases c74 : (!(t173 == x168000_1) || (!(t174 == x168001_1) || (!(t175 == x168002_1)))) = true
                            · rw [if_pos c74] at H
                              have c74b0 : (!(t173 == x168000_1) || (!(t174 == x168001_1) || (!(t175 == x168002_1)))) = true := c74
                              clear c74
                              obtain rfl := Option.some.inj H
                              have hnb75 := NB176_167.out
                              have hnc75 := NB167_176.out
                              have hcz76_0 : wc.cell? ⟨gb176, 0, none⟩ = some (.int .i64 t173) := (blk_cell BK176.out 0).trans rfl
                              have hcz76_1 : wc.cell? ⟨gb176, 1, none⟩ = some (.int .i64 t174) := (blk_cell BK176.out 1).trans rfl
                              have hcz76_2 : wc.cell? ⟨gb176, 2, none⟩ = some (.int .i64 t175) := (blk_cell BK176.out 2).trans rfl
                              have hfz76_0 := blk_frozen BK176.out 0
                              have hfz76_1 := blk_frozen BK176.out 1
                              have hfz76_2 := blk_frozen BK176.out 2
                              have hcz77_0 : wc.cell? ⟨gb167, 0, none⟩ = some (.int .i64 x168000_1) := (blk_cell BK167.out 0).trans rfl
                              have hcz77_1 : wc.cell? ⟨gb167, 1, none⟩ = some (.int .i64 x168001_1) := (blk_cell BK167.out 1).trans rfl
                              have hcz77_2 : wc.cell? ⟨gb167, 2, none⟩ = some (.int .i64 x168002_1) := (blk_cell BK167.out 2).trans rfl
                              have hfz77_0 := blk_frozen BK167.out 0
                              have hfz77_1 := blk_frozen BK167.out 1
                              have hfz77_2 := blk_frozen BK167.out 2
                              go_wp2
                              go_ret
                              exact ⟨by first | rfl | (simp [errW_none, errW_some] <;> rfl) | (simp [*, errW_none, errW_some] <;> rfl), by repeat (first | (with_reducible first | exact HB.out | apply below_alloc | apply pw_below_drewN | apply below_drew1 | refine below_set ?_ GE167.out | refine below_set ?_ GE176.out) | exact HB.out)⟩
                            · rw [if_neg c74] at H
                              have c74b0 : (!(t173 == x168000_1) || (!(t174 == x168001_1) || (!(t175 == x168002_1)))) = false := by simpa using c74
                              clear c74
                              have H' := Aside0.mk H
                              clear H
                              have hnb78 := NB176_167.out
                              have hnc78 := NB167_176.out
                              have hcz79_0 : wc.cell? ⟨gb176, 0, none⟩ = some (.int .i64 t173) := (blk_cell BK176.out 0).trans rfl
                              have hcz79_1 : wc.cell? ⟨gb176, 1, none⟩ = some (.int .i64 t174) := (blk_cell BK176.out 1).trans rfl
                              have hcz79_2 : wc.cell? ⟨gb176, 2, none⟩ = some (.int .i64 t175) := (blk_cell BK176.out 2).trans rfl
                              have hfz79_0 := blk_frozen BK176.out 0
                              have hfz79_1 := blk_frozen BK176.out 1
                              have hfz79_2 := blk_frozen BK176.out 2
                              have hcz80_0 : wc.cell? ⟨gb167, 0, none⟩ = some (.int .i64 x168000_1) := (blk_cell BK167.out 0).trans rfl
                              have hcz80_1 : wc.cell? ⟨gb167, 1, none⟩ = some (.int .i64 x168001_1) := (blk_cell BK167.out 1).trans rfl
                              have hcz80_2 : wc.cell? ⟨gb167, 2, none⟩ = some (.int .i64 x168002_1) := (blk_cell BK167.out 2).trans rfl
                              have hfz80_0 := blk_frozen BK167.out 0
                              have hfz80_1 := blk_frozen BK167.out 1
                              have hfz80_2 := blk_frozen BK167.out 2
                              go_wp2
                              go_roundg kj20
                              case measure => have := HK1.out; have := HJ4.out; have := HJ12.out; have := HJ20.out; omega
                              case rel => exact ⟨(x5_12), (x6_20), (x7_12), (wrap64 (x8_1 + 1)), (t173), (t174), (t175), (by first | rfl | (simp; done) | (simp [*]; done)), (by first | rfl | (simp; done) | (simp [*]; done)), (by first | rfl | (simp; done) | (simp [*]; done)), (by first | rfl | (simp; done) | (simp [*]; done)), H', ⟨by have := HK1.out; have := HJ4.out; have := HJ12.out; have := HJ20.out; omega⟩, ⟨by (with_reducible repeat (first | refine blk_drewN ?_ _ | refine blk_drew ?_ | refine blk_alloc ?_ _)); refine blk_put (cs := #[.int .i64 t173, .int .i64 t174, .int .i64 x168002_1]) ?_ 2 _ rfl; (with_reducible repeat (first | refine blk_drewN ?_ _ | refine blk_drew ?_ | refine blk_alloc ?_ _)); refine blk_put (cs := #[.int .i64 t173, .int .i64 x168001_1, .int .i64 x168002_1]) ?_ 1 _ rfl; (with_reducible repeat (first | refine blk_drewN ?_ _ | refine blk_drew ?_ | refine blk_alloc ?_ _)); refine blk_put (cs := #[.int .i64 x168000_1, .int .i64 x168001_1, .int .i64 x168002_1]) ?_ 0 _ rfl; (with_reducible repeat (first | refine blk_drewN ?_ _ | refine blk_drew ?_ | refine blk_alloc ?_ _)); exact BK167.out⟩, ⟨by repeat (first | (with_reducible first | exact HB.out | apply below_alloc | apply pw_below_drewN | apply below_drew1 | refine below_set ?_ GE167.out | refine below_set ?_ GE176.out) | exact HB.out)⟩⟩
                          · rw [if_neg c73] at H
                            have c73b0 : (t172 == 0) = false := beq_eq_false_iff_ne.mpr c73
                            have c73b1 : (t172 != 0) = true := bne_iff_ne.mpr c73
                            have H' := Aside0.mk H
                            clear H
                            have hnb81 := NB176_167.out
                            have hnc81 := NB167_176.out
                            have hcz82_0 : wc.cell? ⟨gb176, 0, none⟩ = some (.int .i64 t173) := (blk_cell BK176.out 0).trans rfl
                            have hcz82_1 : wc.cell? ⟨gb176, 1, none⟩ = some (.int .i64 t174) := (blk_cell BK176.out 1).trans rfl
                            have hcz82_2 : wc.cell? ⟨gb176, 2, none⟩ = some (.int .i64 t175) := (blk_cell BK176.out 2).trans rfl
                            have hfz82_0 := blk_frozen BK176.out 0
                            have hfz82_1 := blk_frozen BK176.out 1
                            have hfz82_2 := blk_frozen BK176.out 2
                            have hcz83_0 : wc.cell? ⟨gb167, 0, none⟩ = some (.int .i64 x168000_1) := (blk_cell BK167.out 0).trans rfl
                            have hcz83_1 : wc.cell? ⟨gb167, 1, none⟩ = some (.int .i64 x168001_1) := (blk_cell BK167.out 1).trans rfl
                            have hcz83_2 : wc.cell? ⟨gb167, 2, none⟩ = some (.int .i64 x168002_1) := (blk_cell BK167.out 2).trans rfl
                            have hfz83_0 := blk_frozen BK167.out 0
                            have hfz83_1 := blk_frozen BK167.out 1
                            have hfz83_2 := blk_frozen BK167.out 2
                            go_wp2
                            go_roundg kj20
                            case measure => have := HK1.out; have := HJ4.out; have := HJ12.out; have := HJ20.out; omega
                            case rel => exact ⟨(x5_12), (x6_20), (x7_12), (wrap64 (x8_1 + 1)), (t173), (t174), (t175), (by first | rfl | (simp; done) | (simp [*]; done)), (by first | rfl | (simp; done) | (simp [*]; done)), (by first | rfl | (simp; done) | (simp [*]; done)), (by first | rfl | (simp; done) | (simp [*]; done)), H', ⟨by have := HK1.out; have := HJ4.out; have := HJ12.out; have := HJ20.out; omega⟩, ⟨by (with_reducible repeat (first | refine blk_drewN ?_ _ | refine blk_drew ?_ | refine blk_alloc ?_ _)); refine blk_put (cs := #[.int .i64 t173, .int .i64 t174, .int .i64 x168002_1]) ?_ 2 _ rfl; (with_reducible repeat (first | refine blk_drewN ?_ _ | refine blk_drew ?_ | refine blk_alloc ?_ _)); refine blk_put (cs := #[.int .i64 t173, .int .i64 x168001_1, .int .i64 x168002_1]) ?_ 1 _ rfl; (with_reducible repeat (first | refine blk_drewN ?_ _ | refine blk_drew ?_ | refine blk_alloc ?_ _)); refine blk_put (cs := #[.int .i64 x168000_1, .int .i64 x168001_1, .int .i64 x168002_1]) ?_ 0 _ rfl; (with_reducible repeat (first | refine blk_drewN ?_ _ | refine blk_drew ?_ | refine blk_alloc ?_ _)); exact BK167.out⟩, ⟨by repeat (first | (with_reducible first | exact HB.out | apply below_alloc | apply pw_below_drewN | apply below_drew1 | refine below_set ?_ GE167.out | refine below_set ?_ GE176.out) | exact HB.out)⟩⟩
              · rw [if_neg c9] at H
                exact absurd H (by simp)
            · rw [if_neg c8] at H
              exact absurd H (by simp)
          · replace c7 := Bool.eq_false_iff.mpr c7
            subst c7
            have H1 : (if t166 = true then (if (x168000_1 == x7_1 && (x168001_1 == x5_1 && (x168002_1 == x6_1))) = true then ((clique_Stays.f x168000_1 x168001_1 x168002_1).bind fun t168 => (some (t168 == (decide (x5_1 ≥ x6_1))))) else (some false)) else (some false)) = some r := by rw [if_neg (show ¬ (false = true) by decide)] at H; exact H
            clear H
            have H := H1
            clear H1
            by_cases c84 : t166 = true
            · subst c84
              have H1 : (if (x168000_1 == x7_1 && (x168001_1 == x5_1 && (x168002_1 == x6_1))) = true then ((clique_Stays.f x168000_1 x168001_1 x168002_1).bind fun t168 => (some (t168 == (decide (x5_1 ≥ x6_1))))) else (some false)) = some r := by rw [if_pos rfl] at H; exact H
              clear H
              have H := H1
              clear H1
              by_cases c85 : (x168000_1 == x7_1 && (x168001_1 == x5_1 && (x168002_1 == x6_1))) = true
              · rw [if_pos c85] at H
                have c85b0 : (x168000_1 == x7_1 && (x168001_1 == x5_1 && (x168002_1 == x6_1))) = true := c85
                (try (have c85b1 : decide (x168000_1 = x7_1 && (x168001_1 == x5_1 && (x168002_1 == x6_1))) = true := by simpa using c85))
                (try (have c85b2 : (x168000_1 == x7_1 && (x168001_1 == x5_1 && (x168002_1 == x6_1))) = true := by simpa using c85))
                clear c85
                replace H := Option.bind_eq_some_iff.mp H
                obtain ⟨t168, A860, H⟩ := H
                replace H : (some (t168 == (decide (x5_1 ≥ x6_1)))) = some r := H
                have A86 := Aside0.mk A860
                clear A860
                obtain rfl := Option.some.inj H
                have hcz87_0 : wc.cell? ⟨gb167, 0, none⟩ = some (.int .i64 x168000_1) := (blk_cell BK167.out 0).trans rfl
                have hcz87_1 : wc.cell? ⟨gb167, 1, none⟩ = some (.int .i64 x168001_1) := (blk_cell BK167.out 1).trans rfl
                have hcz87_2 : wc.cell? ⟨gb167, 2, none⟩ = some (.int .i64 x168002_1) := (blk_cell BK167.out 2).trans rfl
                have hfz87_0 := blk_frozen BK167.out 0
                have hfz87_1 := blk_frozen BK167.out 1
                have hfz87_2 := blk_frozen BK167.out 2
                go_wp2_with (first | (go_at_call 14; (with_reducible refine (clique_Stays.calls x168000_1 x168001_1 x168002_1 t168 _ A86.out).mono ?_); rintro e w88 ⟨rfl, hb⟩; have n0_ := Aside0.mk (blk_below (g := gb167) (o := .cells #[.int .i64 x168000_1, .int .i64 x168001_1, .int .i64 x168002_1] 26 (0, 0)) (by (with_reducible repeat (first | refine blk_drewN ?_ _ | refine blk_drew ?_ | refine blk_alloc ?_ _)); exact BK167.out) hb); have n1_ := Aside0.mk (below_step (by repeat (first | (with_reducible first | exact HB.out | apply below_alloc | apply pw_below_drewN | apply below_drew1 | refine below_set ?_ GE167.out) | exact HB.out)) hb); clear BK167; clear HB; have BK167 := n0_; have HB := n1_; clear n0_ n1_; (try clear hb); (try clear hb2); (try clear hk); (try clear hi)))
                go_ret
                exact ⟨by first | rfl | (simp [errW_none, errW_some] <;> rfl) | (simp [*, errW_none, errW_some] <;> rfl), by repeat (first | (with_reducible first | exact HB.out | apply below_alloc | apply pw_below_drewN | apply below_drew1 | refine below_set ?_ GE167.out) | exact HB.out)⟩
              · rw [if_neg c85] at H
                have c85b0 : (x168000_1 == x7_1 && (x168001_1 == x5_1 && (x168002_1 == x6_1))) = false := by simpa using c85
                (try (have c85b1 : decide (x168000_1 = x7_1 && (x168001_1 == x5_1 && (x168002_1 == x6_1))) = false := by simpa using c85))
                (try (have c85b2 : (x168000_1 == x7_1 && (x168001_1 == x5_1 && (x168002_1 == x6_1))) = false := by simpa using c85))
                (try (have c85b3 : ¬ (x168000_1 = x7_1 && (x168001_1 == x5_1 && (x168002_1 == x6_1))) := by simpa using c85))
                clear c85
                obtain rfl := Option.some.inj H
                have hcz89_0 : wc.cell? ⟨gb167, 0, none⟩ = some (.int .i64 x168000_1) := (blk_cell BK167.out 0).trans rfl
                have hcz89_1 : wc.cell? ⟨gb167, 1, none⟩ = some (.int .i64 x168001_1) := (blk_cell BK167.out 1).trans rfl
                have hcz89_2 : wc.cell? ⟨gb167, 2, none⟩ = some (.int .i64 x168002_1) := (blk_cell BK167.out 2).trans rfl
                have hfz89_0 := blk_frozen BK167.out 0
                have hfz89_1 := blk_frozen BK167.out 1
                have hfz89_2 := blk_frozen BK167.out 2
                go_wp2
                go_ret
                exact ⟨by first | rfl | (simp [errW_none, errW_some] <;> rfl) | (simp [*, errW_none, errW_some] <;> rfl), by repeat (first | (with_reducible first | exact HB.out | apply below_alloc | apply pw_below_drewN | apply below_drew1 | refine below_set ?_ GE167.out) | exact HB.out)⟩
            · replace c84 := Bool.eq_false_iff.mpr c84
              subst c84
              have H1 : (some false) = some r := by rw [if_neg (show ¬ (false = true) by decide)] at H; exact H
              clear H
              have H := H1
              clear H1
              obtain rfl := Option.some.inj H
              go_wp2
              go_ret
              exact ⟨by first | rfl | (simp [errW_none, errW_some] <;> rfl) | (simp [*, errW_none, errW_some] <;> rfl), by repeat (first | (with_reducible first | exact HB.out | apply below_alloc | apply pw_below_drewN | apply below_drew1 | refine below_set ?_ GE167.out) | exact HB.out)⟩

end Go.Proofs.Ytmbmpcjlddnpcaa.PB
