-- Laid by a program of this session (wip/myprint.py, over the kit's print.py), not by print.sh.
import Derived.Test.YtmbmpcjlddnpcaaPAx0
import Derived.Test.YtmbmpcjlddnpcaaPAx2
import Derived.Test.YtmbmpcjlddnpcaaPAx3
namespace Go.Proofs.Ytmbmpcjlddnpcaa.PA
open Go.RowKit Go.Proofs.YtmbmpcjlddnpcaaW.PrintWords Go.Proofs.YtmbmpcjlddnpcaaW.PrintLast Go.Proofs.YtmbmpcjlddnpcaaW.PrintMore
attribute [local go_sem] max2_int min2_int max_two min_two max_three min_three max_four min_four   -- for this text's walks alone
set_option linter.unusedVariables false
set_option linter.unusedSimpArgs false

-- NOT PRINTED: function 6 (omnibuslaw12_CliqueCounts)

/-! ### omnibuslaw12_CliqueMost: function 7 -/
def omnibuslaw12_CliqueMost.l0 : Nat → Int → Bool → Int → Int → List Int → List Int → Int → Option (Bool)
  | 0, _, _, _, _, _, _, _ => none
  | k + 1, x2, x7, x8, x9, x10, x11, x12 => if x12 < (wrap64 (x8 - 1)) then (if x10.length < 17592186044416 then (omnibuslaw12_CliqueMost.l0 k x2 x7 x8 x9 (x10 ++ [65535]) x11 (wrap64 (x12 + 1))) else (none)) else (if x7 = true then ((clique_Clear.f k x9 x8 x10).bind fun t239 => (if t239 = true then ((clique_Clear.f k x9 x8 x11).bind fun t240 => (if t240 = true then (some false) else ((clique_Clear.f k x9 1 x11).bind fun t241 => (if t241 = true then ((clique_Acked.f k x9 x10).bind fun t242 => (if t242 = (wrap64 (x8 - 1)) then ((clique_Acked.f k x9 x11).bind fun t243 => (if t243 = 0 then (if x2 ≥ 0 then (if x2 ≤ 15 then (some true) else ((clique_Clear.f k x2 x8 x10).bind fun t244 => (if t244 = true then (some false) else ((clique_Acked.f k x2 x10).bind fun t245 => (some (t245 == 0)))))) else ((clique_Clear.f k x2 x8 x10).bind fun t246 => (if t246 = true then (some false) else ((clique_Acked.f k x2 x10).bind fun t247 => (some (t247 == 0)))))) else (some false))) else (some false))) else (some false))))) else (some false))) else (some false))
def omnibuslaw12_CliqueMost.f (k : Nat) (a0 : Int) (a1 : Int) (a2 : Int) : Option (Bool) := (omnibuslaw12_awake.f k).bind fun t230 => ((omnibuslaw12_pick.f a0 15).bind fun t231 => ((omnibuslaw12_pick.f a1 (wrap64 (2 + t231))).bind fun t232 => (if 0 ≤ (wrap64 (2 + t231)) then (if (wrap64 (2 + t231) : Int).toNat ≤ 35184372088832 then (omnibuslaw12_CliqueMost.l0 k a2 t230 (wrap64 (2 + t231)) t232 ([] : List Int) (List.replicate (wrap64 (2 + t231) : Int).toNat 0) 0) else (none)) else (none))))
theorem omnibuslaw12_CliqueMost.mono_l : ∀ k, (∀ y0 y1 y2 y3 y4 y5 y6, LeO (omnibuslaw12_CliqueMost.l0 k y0 y1 y2 y3 y4 y5 y6) (omnibuslaw12_CliqueMost.l0 (k + 1) y0 y1 y2 y3 y4 y5 y6))
  | 0 => fun _ _ _ _ _ _ _ r h => by simp [omnibuslaw12_CliqueMost.l0] at h
  | k + 1 => by
    have ih0 := omnibuslaw12_CliqueMost.mono_l k
    · intro y0 y1 y2 y3 y4 y5 y6
      unfold omnibuslaw12_CliqueMost.l0
      repeat' first
      | (with_reducible exact ih0 _ _ _ _ _ _ _)
      | (with_reducible exact clique_Acked.mono _ _ _)
      | (with_reducible exact clique_Clear.mono _ _ _ _)
      | (with_reducible exact omnibuslaw12_awake.mono _)
      | (with_reducible exact LeO.refl _)
      | (with_reducible exact LeO.none _)
      | (with_reducible refine LeO.ite ?_ ?_)
      | (with_reducible refine LeO.bind ?_ (fun _ => ?_))
      | exact ih0 _ _ _ _ _ _ _
      | exact clique_Acked.mono _ _ _
      | exact clique_Clear.mono _ _ _ _
      | exact omnibuslaw12_awake.mono _
      | exact LeO.none _
      | refine LeO.ite ?_ ?_
      | refine LeO.bind ?_ (fun _ => ?_)
theorem omnibuslaw12_CliqueMost.mono : ∀ a0 a1 a2 k, LeO (omnibuslaw12_CliqueMost.f k a0 a1 a2) (omnibuslaw12_CliqueMost.f (k + 1) a0 a1 a2) := by
  intro a0 a1 a2 k
  have ih0 := omnibuslaw12_CliqueMost.mono_l k
  unfold omnibuslaw12_CliqueMost.f
  repeat' first
      | (with_reducible exact ih0 _ _ _ _ _ _ _)
      | (with_reducible exact clique_Acked.mono _ _ _)
      | (with_reducible exact clique_Clear.mono _ _ _ _)
      | (with_reducible exact omnibuslaw12_awake.mono _)
      | (with_reducible exact LeO.refl _)
      | (with_reducible exact LeO.none _)
      | (with_reducible refine LeO.ite ?_ ?_)
      | (with_reducible refine LeO.bind ?_ (fun _ => ?_))
      | exact ih0 _ _ _ _ _ _ _
      | exact clique_Acked.mono _ _ _
      | exact clique_Clear.mono _ _ _ _
      | exact omnibuslaw12_awake.mono _
      | exact LeO.none _
      | refine LeO.ite ?_ ?_
      | refine LeO.bind ?_ (fun _ => ?_)
set_option maxHeartbeats 8000000 in
set_option maxRecDepth 100000 in
theorem omnibuslaw12_CliqueMost.calls (k : Nat) (a0 : Int) (a1 : Int) (a2 : Int) (r : Bool) (w : World) (h : omnibuslaw12_CliqueMost.f k a0 a1 a2 = some r) (hr_ : r = true) :
    Calls Try.prog 7 #[.int .i64 a0, .int .i64 a1, .int .i64 a2] w fun e w' => e = .returned (.bool r) ∧ Below w.heap.size w w' := by
  have HT := Aside0.mk hr_
  clear hr_
  have HB := Aside0.mk (Below.refl w.heap.size w)
  have H : ((omnibuslaw12_awake.f k).bind fun t230 => ((omnibuslaw12_pick.f a0 15).bind fun t231 => ((omnibuslaw12_pick.f a1 (wrap64 (2 + t231))).bind fun t232 => (if 0 ≤ (wrap64 (2 + t231)) then (if (wrap64 (2 + t231) : Int).toNat ≤ 35184372088832 then (omnibuslaw12_CliqueMost.l0 k a2 t230 (wrap64 (2 + t231)) t232 ([] : List Int) (List.replicate (wrap64 (2 + t231) : Int).toNat 0) 0) else (none)) else (none))))) = some r := h
  clear h
  replace H := Option.bind_eq_some_iff.mp H
  obtain ⟨t230, A40, H⟩ := H
  replace H : ((omnibuslaw12_pick.f a0 15).bind fun t231 => ((omnibuslaw12_pick.f a1 (wrap64 (2 + t231))).bind fun t232 => (if 0 ≤ (wrap64 (2 + t231)) then (if (wrap64 (2 + t231) : Int).toNat ≤ 35184372088832 then (omnibuslaw12_CliqueMost.l0 k a2 t230 (wrap64 (2 + t231)) t232 ([] : List Int) (List.replicate (wrap64 (2 + t231) : Int).toNat 0) 0) else (none)) else (none)))) = some r := H
  have A4 := Aside0.mk A40
  clear A40
  replace H := Option.bind_eq_some_iff.mp H
  obtain ⟨t231, A50, H⟩ := H
  replace H : ((omnibuslaw12_pick.f a1 (wrap64 (2 + t231))).bind fun t232 => (if 0 ≤ (wrap64 (2 + t231)) then (if (wrap64 (2 + t231) : Int).toNat ≤ 35184372088832 then (omnibuslaw12_CliqueMost.l0 k a2 t230 (wrap64 (2 + t231)) t232 ([] : List Int) (List.replicate (wrap64 (2 + t231) : Int).toNat 0) 0) else (none)) else (none))) = some r := H
  have A5 := Aside0.mk A50
  clear A50
  replace H := Option.bind_eq_some_iff.mp H
  obtain ⟨t232, A60, H⟩ := H
  replace H : (if 0 ≤ (wrap64 (2 + t231)) then (if (wrap64 (2 + t231) : Int).toNat ≤ 35184372088832 then (omnibuslaw12_CliqueMost.l0 k a2 t230 (wrap64 (2 + t231)) t232 ([] : List Int) (List.replicate (wrap64 (2 + t231) : Int).toNat 0) 0) else (none)) else (none)) = some r := H
  have A6 := Aside0.mk A60
  clear A60
  obtain ⟨ji7, hji7⟩ : ∃ j_ : Int, (wrap64 (2 + t231)) = j_ := ⟨_, rfl⟩
  replace H : (if 0 ≤ (ji7) then (if (ji7 : Int).toNat ≤ 35184372088832 then (omnibuslaw12_CliqueMost.l0 k a2 t230 ji7 t232 ([] : List Int) (List.replicate (ji7 : Int).toNat 0) 0) else (none)) else (none)) = some r := by first | (rw [hji7] at H; exact H) | (simp only [hji7] at H ⊢; exact H)
  (try rw [hji7] at A4)
  (try rw [hji7] at A5)
  (try rw [hji7] at A6)
  have hji7w : (IntKind.i64.wrap (2 + t231)) = ji7 := (i64_w _).trans hji7
  by_cases c8 : 0 ≤ (ji7)
  · rw [if_pos c8] at H
    have c8b0 := eq_true c8
    have c8b1 : decide (0 ≤ (ji7)) = true := decide_eq_true c8
    clear c8
    by_cases c9 : (ji7 : Int).toNat ≤ 35184372088832
    · rw [if_pos c9] at H
      have c9b0 := eq_true c9
      have c9b1 : decide ((ji7 : Int).toNat ≤ 35184372088832) = true := decide_eq_true c9
      clear c9
      obtain ⟨y233, hy233⟩ : ∃ y_ : List Int, y_ = (List.replicate (ji7 : Int).toNat 0) := ⟨_, rfl⟩
      replace H : (omnibuslaw12_CliqueMost.l0 k a2 t230 ji7 t232 ([] : List Int) y233 0) = some r := by first | (rw [hy233]; with_reducible exact H) | (have H2_ := (Option.bind_some _ _).symm.trans H; rw [hy233]; with_reducible exact H2_) | (have H2_ := (Option.bind_some _ _).symm.trans H; with_reducible exact H2_) | with_reducible exact H | (rw [hy233]; exact H) | exact H
      have Ny233 := Aside0.mk hy233
      clear hy233
      have H' := Aside0.mk H
      clear H
      go_enter Try.func7, Try.ntmps7
      go_wp2_with (first | ((with_reducible refine gate_callee (f := 8) rfl ?_); refine goesL_ (some 13) rfl rfl Try.func8 (by kernel_rfl) rfl #[] rfl (by (try simp only [List.map_toArray, List.map_cons, List.map_nil]); first | done | rfl | (simp only [List.length_drop, List.length_take]; rfl)) ?_; (with_reducible refine (omnibuslaw12_awake.calls k  t230 _ A4.out).mono ?_); rintro e w10 ⟨rfl, hb⟩; refine ⟨_, rfl, ?_⟩; have n0_ := Aside0.mk (below_step (by repeat (first | (with_reducible first | exact HB.out | apply below_alloc | apply pw_below_drewN | apply below_drew1) | exact HB.out)) hb); clear HB; have HB := n0_; clear n0_; (try clear hb); (try clear hb2); (try clear hk); (try clear hi)) | ((with_reducible refine gate_callee (f := 9) rfl ?_); refine goesL_ (some 15) rfl rfl Try.func9 (by kernel_rfl) rfl #[.int .i64 a0, .int .i64 15] rfl (by (try simp only [List.map_toArray, List.map_cons, List.map_nil]); first | done | rfl | (simp only [List.length_drop, List.length_take]; rfl)) ?_; (with_reducible refine (omnibuslaw12_pick.calls a0 15 t231 _ A5.out).mono ?_); rintro e w' ⟨rfl, ⟨nd, rfl⟩⟩; refine ⟨_, rfl, ?_⟩) | ((with_reducible refine gate_callee (f := 9) rfl ?_); refine goesL_ (some 19) rfl rfl Try.func9 (by kernel_rfl) rfl #[.int .i64 a1, .int .i64 ji7] rfl (by (try simp only [List.map_toArray, List.map_cons, List.map_nil]); first | done | (simp only [hji7]; rfl) | rfl | (simp only [List.length_drop, List.length_take]; rfl)) ?_; (with_reducible refine (omnibuslaw12_pick.calls a1 ji7 t232 _ A6.out).mono ?_); rintro e w' ⟨rfl, ⟨nd, rfl⟩⟩; refine ⟨_, rfl, ?_⟩) | ((with_reducible refine gate_dst (N := 21) rfl ?_); refine Kd.R_make (Kd.int .i64) _ 3 rfl (N := 21) rfl 30 _ _ rfl ji7 rfl rfl Try.underlying30 (.int .i64 0) 8 info3 rfl (by decide) (by omega) 0 (ok := fun _ => True) (okp := fun _ => True) rfl (fun _ hk => hk) trivial (of_decide_eq_true (by first | (with_reducible assumption) | assumption)) (Nat.le_trans (Nat.mul_le_mul_right _ (of_decide_eq_true (by first | (with_reducible assumption) | assumption) : ji7.toNat ≤ 35184372088832)) (by omega)) (Below.refl _ _) (Nat.le_refl _) ?_; intro v234 w11 ho12 hb hg_ hnew_; clear hg_ hnew_; (first | rw [← Ny233.out] at ho12 | (simp only [Int.reduceToNat] at ho12; rw [← Ny233.out] at ho12)); have n0_ := Aside0.mk (Kd.R_lower ho12 (below_size (by repeat (first | (with_reducible first | exact HB.out | apply below_alloc | apply pw_below_drewN | apply below_drew1) | exact HB.out)))); have n1_ := Aside0.mk (below_step (by repeat (first | (with_reducible first | exact HB.out | apply below_alloc | apply pw_below_drewN | apply below_drew1) | exact HB.out)) hb); clear HB; have HO235 := n0_; have HB := n1_; clear n0_ n1_; clear hb ho12))
      go_loopg [10, 12] k (fun kq v10 v12 w' => ∃ (x10_1 : List Int) (x12_1 : Int), v12 = .int .i64 x12_1 ∧ Aside0 (omnibuslaw12_CliqueMost.l0 kq a2 t230 ji7 t232 x10_1 y233 x12_1 = some r) ∧ Aside0 (kq ≤ k) ∧ Aside0 (Kd.R (Kd.int .i64) 3 w' w.heap.size (fun k_ => some k_ ≠ (v234 : Value).ownBlock) v10 x10_1) ∧ Aside0 (Kd.R (Kd.int .i64) 3 w' w.heap.size (fun k_ => some k_ ≠ (v10 : Value).ownBlock) v234 y233) ∧ Aside0 (Below w.heap.size w w'))
      case atStart => exact ⟨(([] : List Int)), (0), (by first | rfl | (simp; done) | (simp [*]; done)), H', ⟨Nat.le_refl _⟩, ⟨by first | exact Kd.R_nil _ _ _ _ _ | exact Kd.N_nil _ _ _ _ _ | exact Kd.V_nil _ _ _ _ _ | exact Kd.Q_nil _ _ _ _ _ | exact Kd.S_nil _ _ _ _ _⟩, ⟨by (with_reducible repeat (first | apply Kd.R_alloc | apply Kd.R_drewN | apply Kd.R_drew)); exact Kd.R_mono HO235.out (fun _ hk => (by simp [Value.ownBlock]))⟩, ⟨by repeat (first | (with_reducible first | exact HB.out | apply below_alloc | apply pw_below_drewN | apply below_drew1) | exact HB.out)⟩⟩
      case round =>
        clear H'
        try clear p2
        try clear p6
        try clear c7
        try clear c8
        try clear c8b0
        try clear c8b1
        try clear c9
        try clear c9b0
        try clear c9b1
        obtain ⟨x10_1, x12_1, rfl, HA, HK1, HO_10, HO_11, HB⟩ := hrel
        cases gk with
        | zero => exact absurd HA.out (by simp [omnibuslaw12_CliqueMost.l0])
        | succ k1 =>
          have H := HA.out
          clear HA
          simp only [omnibuslaw12_CliqueMost.l0] at H
          by_cases c13 : x12_1 < (wrap64 (ji7 - 1))
          · rw [if_pos c13] at H
            have c13b0 : decide (x12_1 < (wrap64 (ji7 - 1))) = true := decide_eq_true c13
            clear c13
            by_cases c14 : x10_1.length < 17592186044416
            · rw [if_pos c14] at H
              have LMc14 := Aside0.mk c14
              clear c14
              obtain ⟨y236, hy236⟩ : ∃ y_ : List Int, y_ = (x10_1 ++ [65535]) := ⟨_, rfl⟩
              replace H : (omnibuslaw12_CliqueMost.l0 k1 a2 t230 ji7 t232 y236 y233 (wrap64 (x12_1 + 1))) = some r := by first | (rw [hy236]; with_reducible exact H) | (have H2_ := (Option.bind_some _ _).symm.trans H; rw [hy236]; with_reducible exact H2_) | (have H2_ := (Option.bind_some _ _).symm.trans H; with_reducible exact H2_) | with_reducible exact H | (rw [hy236]; exact H) | exact H
              have Ny236 := Aside0.mk hy236
              clear hy236
              have H' := Aside0.mk H
              clear H
              go_wp2_with (first | ((with_reducible refine gate_builtin (b := .append) (xs := #[.tmp 28, .tmp 29]) rfl ?_); at_builtin; refine Kd.R_append (Kd.int .i64) (w0 := w) w.heap.size rfl (.tmp 28) (.tmp 29) 30 3 (.int .i64 0) 8 rfl Try.underlying30 info3 rfl (by decide) (by omega) u10 x10_1 65535 [.int .i64 65535] (fun k_ => some k_ ≠ (v234 : Value).ownBlock) (fun _ => False) rfl rfl ?aP (fun _ hk => hk.elim) ?aF ?aO ?aB ?aS ?aL ?_; (case aP => exact rfl); (case aB => exact (by repeat (first | (with_reducible first | exact HB.out | apply below_alloc | apply pw_below_drewN | apply below_drew1) | exact HB.out))); (case aF => exact (fun k_ hk => Kd.fresh' (Kd.R_lt (by (with_reducible repeat (first | apply Kd.R_alloc | apply Kd.R_drewN | apply Kd.R_drew)); exact HO_11.out)) k_ hk)); (case aO => exact (by (with_reducible repeat (first | apply Kd.R_alloc | apply Kd.R_drewN | apply Kd.R_drew)); exact HO_10.out)); (case aS => exact (below_size (by repeat (first | (with_reducible first | exact HB.out | apply below_alloc | apply pw_below_drewN | apply below_drew1) | exact HB.out)))); (case aL => have := LMc14.out; omega); intro v237 w15 ho hb hg hat; rw [← Ny236.out] at ho; have n0_ := Aside0.mk (Kd.R_after (ok := (fun _ => True)) (by (with_reducible repeat (first | apply Kd.R_alloc | apply Kd.R_drewN | apply Kd.R_drew)); exact Kd.R_mono HO_11.out (fun _ hk => ⟨trivial, hk⟩)) hg hat); have n1_ := Aside0.mk (hb); have n2_ := Aside0.mk (ho); clear HO_11; clear HB; clear HO_10; have HO_11 := n0_; have HB := n1_; have HO238 := n2_; clear n0_ n1_ n2_; clear ho hb hg hat))
              go_roundg k1
              case measure => have := HK1.out; omega
              case rel => exact ⟨(y236), (wrap64 (x12_1 + 1)), (by first | rfl | (simp; done) | (simp [*]; done)), H', ⟨by have := HK1.out; omega⟩, ⟨by (with_reducible repeat (first | apply Kd.R_alloc | apply Kd.R_drewN | apply Kd.R_drew)); exact HO238.out⟩, ⟨by (with_reducible repeat (first | apply Kd.R_alloc | apply Kd.R_drewN | apply Kd.R_drew)); exact Kd.R_mono HO_11.out (fun _ hk => hk.2)⟩, ⟨by repeat (first | (with_reducible first | exact HB.out | apply below_alloc | apply pw_below_drewN | apply below_drew1) | exact HB.out)⟩⟩
            · rw [if_neg c14] at H
              exact absurd H (by simp)
          · rw [if_neg c13] at H
            have c13b0 : decide (x12_1 < (wrap64 (ji7 - 1))) = false := decide_eq_false c13
            clear c13
            by_cases c16 : t230 = true
            · subst c16
              have H1 : ((clique_Clear.f k1 t232 ji7 x10_1).bind fun t239 => (if t239 = true then ((clique_Clear.f k1 t232 ji7 y233).bind fun t240 => (if t240 = true then (some false) else ((clique_Clear.f k1 t232 1 y233).bind fun t241 => (if t241 = true then ((clique_Acked.f k1 t232 x10_1).bind fun t242 => (if t242 = (wrap64 (ji7 - 1)) then ((clique_Acked.f k1 t232 y233).bind fun t243 => (if t243 = 0 then (if a2 ≥ 0 then (if a2 ≤ 15 then (some true) else ((clique_Clear.f k1 a2 ji7 x10_1).bind fun t244 => (if t244 = true then (some false) else ((clique_Acked.f k1 a2 x10_1).bind fun t245 => (some (t245 == 0)))))) else ((clique_Clear.f k1 a2 ji7 x10_1).bind fun t246 => (if t246 = true then (some false) else ((clique_Acked.f k1 a2 x10_1).bind fun t247 => (some (t247 == 0)))))) else (some false))) else (some false))) else (some false))))) else (some false))) = some r := by rw [if_pos rfl] at H; exact H
              clear H
              have H := H1
              clear H1
              replace H := Option.bind_eq_some_iff.mp H
              obtain ⟨t239, A170, H⟩ := H
              replace H : (if t239 = true then ((clique_Clear.f k1 t232 ji7 y233).bind fun t240 => (if t240 = true then (some false) else ((clique_Clear.f k1 t232 1 y233).bind fun t241 => (if t241 = true then ((clique_Acked.f k1 t232 x10_1).bind fun t242 => (if t242 = (wrap64 (ji7 - 1)) then ((clique_Acked.f k1 t232 y233).bind fun t243 => (if t243 = 0 then (if a2 ≥ 0 then (if a2 ≤ 15 then (some true) else ((clique_Clear.f k1 a2 ji7 x10_1).bind fun t244 => (if t244 = true then (some false) else ((clique_Acked.f k1 a2 x10_1).bind fun t245 => (some (t245 == 0)))))) else ((clique_Clear.f k1 a2 ji7 x10_1).bind fun t246 => (if t246 = true then (some false) else ((clique_Acked.f k1 a2 x10_1).bind fun t247 => (some (t247 == 0)))))) else (some false))) else (some false))) else (some false))))) else (some false)) = some r := H
              have A17 := Aside0.mk A170
              clear A170
              by_cases c18 : t239 = true
              · subst c18
                have H1 : ((clique_Clear.f k1 t232 ji7 y233).bind fun t240 => (if t240 = true then (some false) else ((clique_Clear.f k1 t232 1 y233).bind fun t241 => (if t241 = true then ((clique_Acked.f k1 t232 x10_1).bind fun t242 => (if t242 = (wrap64 (ji7 - 1)) then ((clique_Acked.f k1 t232 y233).bind fun t243 => (if t243 = 0 then (if a2 ≥ 0 then (if a2 ≤ 15 then (some true) else ((clique_Clear.f k1 a2 ji7 x10_1).bind fun t244 => (if t244 = true then (some false) else ((clique_Acked.f k1 a2 x10_1).bind fun t245 => (some (t245 == 0)))))) else ((clique_Clear.f k1 a2 ji7 x10_1).bind fun t246 => (if t246 = true then (some false) else ((clique_Acked.f k1 a2 x10_1).bind fun t247 => (some (t247 == 0)))))) else (some false))) else (some false))) else (some false))))) = some r := by rw [if_pos rfl] at H; exact H
                clear H
                have H := H1
                clear H1
                replace H := Option.bind_eq_some_iff.mp H
                obtain ⟨t240, A190, H⟩ := H
                replace H : (if t240 = true then (some false) else ((clique_Clear.f k1 t232 1 y233).bind fun t241 => (if t241 = true then ((clique_Acked.f k1 t232 x10_1).bind fun t242 => (if t242 = (wrap64 (ji7 - 1)) then ((clique_Acked.f k1 t232 y233).bind fun t243 => (if t243 = 0 then (if a2 ≥ 0 then (if a2 ≤ 15 then (some true) else ((clique_Clear.f k1 a2 ji7 x10_1).bind fun t244 => (if t244 = true then (some false) else ((clique_Acked.f k1 a2 x10_1).bind fun t245 => (some (t245 == 0)))))) else ((clique_Clear.f k1 a2 ji7 x10_1).bind fun t246 => (if t246 = true then (some false) else ((clique_Acked.f k1 a2 x10_1).bind fun t247 => (some (t247 == 0)))))) else (some false))) else (some false))) else (some false)))) = some r := H
                have A19 := Aside0.mk A190
                clear A190
                by_cases c20 : t240 = true
                · subst c20
                  have H1 : (some false) = some r := by rw [if_pos rfl] at H; exact H
                  clear H
                  have H := H1
                  clear H1
                  first
                  | exact absurd (Option.some.inj H) (by rw [HT.out]; decide)
                  | obtain rfl := Option.some.inj H
                    obtain ⟨Ao21, co21, eo21⟩ := Kd.R_slice HO_10.out
                    subst eo21
                    go_wp2_with (first | (go_at_call 18; (with_reducible refine (clique_Clear.calls k1 t232 ji7 _ _ x10_1 true _ ?side1 ?side2 A17.out).mono ?_); (case side1 => repeat (first | exact (Kd.R_reads' HO_10.out).2.2 | (with_reducible refine Kd.C_alloc ?_ _) | (with_reducible refine Kd.C_drewN ?_ _) | (with_reducible refine Kd.C_drew ?_))); (case side2 => exact (Kd.R_reads' HO_10.out).2.1); rintro e w' ⟨rfl, ⟨nd, rfl⟩⟩; obtain ⟨Ao22, co22, eo22⟩ := Kd.R_slice HO_11.out; subst eo22) | (go_at_call 18; (with_reducible refine (clique_Clear.calls k1 t232 ji7 _ _ y233 true _ ?side1 ?side2 A19.out).mono ?_); (case side1 => repeat (first | exact (Kd.R_reads' HO_11.out).2.2 | (with_reducible refine Kd.C_alloc ?_ _) | (with_reducible refine Kd.C_drewN ?_ _) | (with_reducible refine Kd.C_drew ?_))); (case side2 => exact (Kd.R_reads' HO_11.out).2.1); rintro e w' ⟨rfl, ⟨nd, rfl⟩⟩))
                    go_ret
                    exact ⟨by first | rfl | (simp [errW_none, errW_some] <;> rfl) | (simp only [← hji7]; first | rfl | (simp [errW_none, errW_some] <;> rfl)) | (simp [*, errW_none, errW_some] <;> rfl), by repeat (first | (with_reducible first | exact HB.out | apply below_alloc | apply pw_below_drewN | apply below_drew1) | exact HB.out)⟩
                · replace c20 := Bool.eq_false_iff.mpr c20
                  subst c20
                  have H1 : ((clique_Clear.f k1 t232 1 y233).bind fun t241 => (if t241 = true then ((clique_Acked.f k1 t232 x10_1).bind fun t242 => (if t242 = (wrap64 (ji7 - 1)) then ((clique_Acked.f k1 t232 y233).bind fun t243 => (if t243 = 0 then (if a2 ≥ 0 then (if a2 ≤ 15 then (some true) else ((clique_Clear.f k1 a2 ji7 x10_1).bind fun t244 => (if t244 = true then (some false) else ((clique_Acked.f k1 a2 x10_1).bind fun t245 => (some (t245 == 0)))))) else ((clique_Clear.f k1 a2 ji7 x10_1).bind fun t246 => (if t246 = true then (some false) else ((clique_Acked.f k1 a2 x10_1).bind fun t247 => (some (t247 == 0)))))) else (some false))) else (some false))) else (some false))) = some r := by rw [if_neg (show ¬ (false = true) by decide)] at H; exact H
                  clear H
                  have H := H1
                  clear H1
                  replace H := Option.bind_eq_some_iff.mp H
                  obtain ⟨t241, A230, H⟩ := H
                  replace H : (if t241 = true then ((clique_Acked.f k1 t232 x10_1).bind fun t242 => (if t242 = (wrap64 (ji7 - 1)) then ((clique_Acked.f k1 t232 y233).bind fun t243 => (if t243 = 0 then (if a2 ≥ 0 then (if a2 ≤ 15 then (some true) else ((clique_Clear.f k1 a2 ji7 x10_1).bind fun t244 => (if t244 = true then (some false) else ((clique_Acked.f k1 a2 x10_1).bind fun t245 => (some (t245 == 0)))))) else ((clique_Clear.f k1 a2 ji7 x10_1).bind fun t246 => (if t246 = true then (some false) else ((clique_Acked.f k1 a2 x10_1).bind fun t247 => (some (t247 == 0)))))) else (some false))) else (some false))) else (some false)) = some r := H
                  have A23 := Aside0.mk A230
                  clear A230
                  by_cases c24 : t241 = true
                  · subst c24
                    have H1 : ((clique_Acked.f k1 t232 x10_1).bind fun t242 => (if t242 = (wrap64 (ji7 - 1)) then ((clique_Acked.f k1 t232 y233).bind fun t243 => (if t243 = 0 then (if a2 ≥ 0 then (if a2 ≤ 15 then (some true) else ((clique_Clear.f k1 a2 ji7 x10_1).bind fun t244 => (if t244 = true then (some false) else ((clique_Acked.f k1 a2 x10_1).bind fun t245 => (some (t245 == 0)))))) else ((clique_Clear.f k1 a2 ji7 x10_1).bind fun t246 => (if t246 = true then (some false) else ((clique_Acked.f k1 a2 x10_1).bind fun t247 => (some (t247 == 0)))))) else (some false))) else (some false))) = some r := by rw [if_pos rfl] at H; exact H
                    clear H
                    have H := H1
                    clear H1
                    replace H := Option.bind_eq_some_iff.mp H
                    obtain ⟨t242, A250, H⟩ := H
                    replace H : (if t242 = (wrap64 (ji7 - 1)) then ((clique_Acked.f k1 t232 y233).bind fun t243 => (if t243 = 0 then (if a2 ≥ 0 then (if a2 ≤ 15 then (some true) else ((clique_Clear.f k1 a2 ji7 x10_1).bind fun t244 => (if t244 = true then (some false) else ((clique_Acked.f k1 a2 x10_1).bind fun t245 => (some (t245 == 0)))))) else ((clique_Clear.f k1 a2 ji7 x10_1).bind fun t246 => (if t246 = true then (some false) else ((clique_Acked.f k1 a2 x10_1).bind fun t247 => (some (t247 == 0)))))) else (some false))) else (some false)) = some r := H
                    have A25 := Aside0.mk A250
                    clear A250
                    by_cases c26 : t242 = (wrap64 (ji7 - 1))
                    · rw [if_pos c26] at H
                      have c26b0 : (t242 == (wrap64 (ji7 - 1))) = true := beq_iff_eq.mpr c26
                      have c26b1 : (t242 != (wrap64 (ji7 - 1))) = false := bne_eq_false_iff_eq.mpr c26
                      clear c26
                      replace H := Option.bind_eq_some_iff.mp H
                      obtain ⟨t243, A270, H⟩ := H
                      replace H : (if t243 = 0 then (if a2 ≥ 0 then (if a2 ≤ 15 then (some true) else ((clique_Clear.f k1 a2 ji7 x10_1).bind fun t244 => (if t244 = true then (some false) else ((clique_Acked.f k1 a2 x10_1).bind fun t245 => (some (t245 == 0)))))) else ((clique_Clear.f k1 a2 ji7 x10_1).bind fun t246 => (if t246 = true then (some false) else ((clique_Acked.f k1 a2 x10_1).bind fun t247 => (some (t247 == 0)))))) else (some false)) = some r := H
                      have A27 := Aside0.mk A270
                      clear A270
                      by_cases c28 : t243 = 0
                      · rw [if_pos c28] at H
                        have c28b0 : (t243 == 0) = true := beq_iff_eq.mpr c28
                        have c28b1 : (t243 != 0) = false := bne_eq_false_iff_eq.mpr c28
                        clear c28
                        by_cases c29 : a2 ≥ 0
                        · rw [if_pos c29] at H
                          have c29b0 : decide (0 ≤ a2) = true := decide_eq_true c29
                          clear c29
                          by_cases c30 : a2 ≤ 15
                          · rw [if_pos c30] at H
                            have c30b0 : decide (a2 ≤ 15) = true := decide_eq_true c30
                            clear c30
                            first
                            | exact absurd (Option.some.inj H) (by rw [HT.out]; decide)
                            | obtain rfl := Option.some.inj H
                              obtain ⟨Ao31, co31, eo31⟩ := Kd.R_slice HO_10.out
                              subst eo31
                              go_wp2_with (first | (go_at_call 18; (with_reducible refine (clique_Clear.calls k1 t232 ji7 _ _ x10_1 true _ ?side1 ?side2 A17.out).mono ?_); (case side1 => repeat (first | exact (Kd.R_reads' HO_10.out).2.2 | (with_reducible refine Kd.C_alloc ?_ _) | (with_reducible refine Kd.C_drewN ?_ _) | (with_reducible refine Kd.C_drew ?_))); (case side2 => exact (Kd.R_reads' HO_10.out).2.1); rintro e w' ⟨rfl, ⟨nd, rfl⟩⟩; obtain ⟨Ao32, co32, eo32⟩ := Kd.R_slice HO_11.out; subst eo32) | (go_at_call 18; (with_reducible refine (clique_Clear.calls k1 t232 ji7 _ _ y233 false _ ?side1 ?side2 A19.out).mono ?_); (case side1 => repeat (first | exact (Kd.R_reads' HO_11.out).2.2 | (with_reducible refine Kd.C_alloc ?_ _) | (with_reducible refine Kd.C_drewN ?_ _) | (with_reducible refine Kd.C_drew ?_))); (case side2 => exact (Kd.R_reads' HO_11.out).2.1); rintro e w' ⟨rfl, ⟨nd, rfl⟩⟩) | (go_at_call 18; (with_reducible refine (clique_Clear.calls k1 t232 1 _ _ y233 true _ ?side1 ?side2 A23.out).mono ?_); (case side1 => repeat (first | exact (Kd.R_reads' HO_11.out).2.2 | (with_reducible refine Kd.C_alloc ?_ _) | (with_reducible refine Kd.C_drewN ?_ _) | (with_reducible refine Kd.C_drew ?_))); (case side2 => exact (Kd.R_reads' HO_11.out).2.1); rintro e w' ⟨rfl, ⟨nd, rfl⟩⟩) | (go_at_call 19; (with_reducible refine (clique_Acked.calls k1 t232 _ _ x10_1 t242 _ ?side1 ?side2 A25.out).mono ?_); (case side1 => repeat (first | exact (Kd.R_reads' HO_10.out).2.2 | (with_reducible refine Kd.C_alloc ?_ _) | (with_reducible refine Kd.C_drewN ?_ _) | (with_reducible refine Kd.C_drew ?_))); (case side2 => exact (Kd.R_reads' HO_10.out).2.1); rintro e w' ⟨rfl, ⟨nd, rfl⟩⟩) | (go_at_call 19; (with_reducible refine (clique_Acked.calls k1 t232 _ _ y233 t243 _ ?side1 ?side2 A27.out).mono ?_); (case side1 => repeat (first | exact (Kd.R_reads' HO_11.out).2.2 | (with_reducible refine Kd.C_alloc ?_ _) | (with_reducible refine Kd.C_drewN ?_ _) | (with_reducible refine Kd.C_drew ?_))); (case side2 => exact (Kd.R_reads' HO_11.out).2.1); rintro e w' ⟨rfl, ⟨nd, rfl⟩⟩))
                              go_ret
                              exact ⟨by first | rfl | (simp [errW_none, errW_some] <;> rfl) | (simp only [← hji7]; first | rfl | (simp [errW_none, errW_some] <;> rfl)) | (simp [*, errW_none, errW_some] <;> rfl), by repeat (first | (with_reducible first | exact HB.out | apply below_alloc | apply pw_below_drewN | apply below_drew1) | exact HB.out)⟩
                          · rw [if_neg c30] at H
                            have c30b0 : decide (a2 ≤ 15) = false := decide_eq_false c30
                            clear c30
                            replace H := Option.bind_eq_some_iff.mp H
                            obtain ⟨t244, A330, H⟩ := H
                            replace H : (if t244 = true then (some false) else ((clique_Acked.f k1 a2 x10_1).bind fun t245 => (some (t245 == 0)))) = some r := H
                            have A33 := Aside0.mk A330
                            clear A330
                            by_cases c34 : t244 = true
                            · subst c34
                              have H1 : (some false) = some r := by rw [if_pos rfl] at H; exact H
                              clear H
                              have H := H1
                              clear H1
                              first
                              | exact absurd (Option.some.inj H) (by rw [HT.out]; decide)
                              | obtain rfl := Option.some.inj H
                                obtain ⟨Ao35, co35, eo35⟩ := Kd.R_slice HO_10.out
                                subst eo35
                                go_wp2_with (first | (go_at_call 18; (with_reducible refine (clique_Clear.calls k1 t232 ji7 _ _ x10_1 true _ ?side1 ?side2 A17.out).mono ?_); (case side1 => repeat (first | exact (Kd.R_reads' HO_10.out).2.2 | (with_reducible refine Kd.C_alloc ?_ _) | (with_reducible refine Kd.C_drewN ?_ _) | (with_reducible refine Kd.C_drew ?_))); (case side2 => exact (Kd.R_reads' HO_10.out).2.1); rintro e w' ⟨rfl, ⟨nd, rfl⟩⟩; obtain ⟨Ao36, co36, eo36⟩ := Kd.R_slice HO_11.out; subst eo36) | (go_at_call 18; (with_reducible refine (clique_Clear.calls k1 t232 ji7 _ _ y233 false _ ?side1 ?side2 A19.out).mono ?_); (case side1 => repeat (first | exact (Kd.R_reads' HO_11.out).2.2 | (with_reducible refine Kd.C_alloc ?_ _) | (with_reducible refine Kd.C_drewN ?_ _) | (with_reducible refine Kd.C_drew ?_))); (case side2 => exact (Kd.R_reads' HO_11.out).2.1); rintro e w' ⟨rfl, ⟨nd, rfl⟩⟩) | (go_at_call 18; (with_reducible refine (clique_Clear.calls k1 t232 1 _ _ y233 true _ ?side1 ?side2 A23.out).mono ?_); (case side1 => repeat (first | exact (Kd.R_reads' HO_11.out).2.2 | (with_reducible refine Kd.C_alloc ?_ _) | (with_reducible refine Kd.C_drewN ?_ _) | (with_reducible refine Kd.C_drew ?_))); (case side2 => exact (Kd.R_reads' HO_11.out).2.1); rintro e w' ⟨rfl, ⟨nd, rfl⟩⟩) | (go_at_call 19; (with_reducible refine (clique_Acked.calls k1 t232 _ _ x10_1 t242 _ ?side1 ?side2 A25.out).mono ?_); (case side1 => repeat (first | exact (Kd.R_reads' HO_10.out).2.2 | (with_reducible refine Kd.C_alloc ?_ _) | (with_reducible refine Kd.C_drewN ?_ _) | (with_reducible refine Kd.C_drew ?_))); (case side2 => exact (Kd.R_reads' HO_10.out).2.1); rintro e w' ⟨rfl, ⟨nd, rfl⟩⟩) | (go_at_call 19; (with_reducible refine (clique_Acked.calls k1 t232 _ _ y233 t243 _ ?side1 ?side2 A27.out).mono ?_); (case side1 => repeat (first | exact (Kd.R_reads' HO_11.out).2.2 | (with_reducible refine Kd.C_alloc ?_ _) | (with_reducible refine Kd.C_drewN ?_ _) | (with_reducible refine Kd.C_drew ?_))); (case side2 => exact (Kd.R_reads' HO_11.out).2.1); rintro e w' ⟨rfl, ⟨nd, rfl⟩⟩) | (go_at_call 18; (with_reducible refine (clique_Clear.calls k1 a2 ji7 _ _ x10_1 true _ ?side1 ?side2 A33.out).mono ?_); (case side1 => repeat (first | exact (Kd.R_reads' HO_10.out).2.2 | (with_reducible refine Kd.C_alloc ?_ _) | (with_reducible refine Kd.C_drewN ?_ _) | (with_reducible refine Kd.C_drew ?_))); (case side2 => exact (Kd.R_reads' HO_10.out).2.1); rintro e w' ⟨rfl, ⟨nd, rfl⟩⟩))
                                go_ret
                                exact ⟨by first | rfl | (simp [errW_none, errW_some] <;> rfl) | (simp only [← hji7]; first | rfl | (simp [errW_none, errW_some] <;> rfl)) | (simp [*, errW_none, errW_some] <;> rfl), by repeat (first | (with_reducible first | exact HB.out | apply below_alloc | apply pw_below_drewN | apply below_drew1) | exact HB.out)⟩
                            · replace c34 := Bool.eq_false_iff.mpr c34
                              subst c34
                              have H1 : ((clique_Acked.f k1 a2 x10_1).bind fun t245 => (some (t245 == 0))) = some r := by rw [if_neg (show ¬ (false = true) by decide)] at H; exact H
                              clear H
                              have H := H1
                              clear H1
                              replace H := Option.bind_eq_some_iff.mp H
                              obtain ⟨t245, A370, H⟩ := H
                              replace H : (some (t245 == 0)) = some r := H
                              have A37 := Aside0.mk A370
                              clear A370
                              first
                              | exact absurd (Option.some.inj H) (by rw [HT.out]; decide)
                              | obtain rfl := Option.some.inj H
                                obtain ⟨Ao38, co38, eo38⟩ := Kd.R_slice HO_10.out
                                subst eo38
                                go_wp2_with (first | (go_at_call 18; (with_reducible refine (clique_Clear.calls k1 t232 ji7 _ _ x10_1 true _ ?side1 ?side2 A17.out).mono ?_); (case side1 => repeat (first | exact (Kd.R_reads' HO_10.out).2.2 | (with_reducible refine Kd.C_alloc ?_ _) | (with_reducible refine Kd.C_drewN ?_ _) | (with_reducible refine Kd.C_drew ?_))); (case side2 => exact (Kd.R_reads' HO_10.out).2.1); rintro e w' ⟨rfl, ⟨nd, rfl⟩⟩; obtain ⟨Ao39, co39, eo39⟩ := Kd.R_slice HO_11.out; subst eo39) | (go_at_call 18; (with_reducible refine (clique_Clear.calls k1 t232 ji7 _ _ y233 false _ ?side1 ?side2 A19.out).mono ?_); (case side1 => repeat (first | exact (Kd.R_reads' HO_11.out).2.2 | (with_reducible refine Kd.C_alloc ?_ _) | (with_reducible refine Kd.C_drewN ?_ _) | (with_reducible refine Kd.C_drew ?_))); (case side2 => exact (Kd.R_reads' HO_11.out).2.1); rintro e w' ⟨rfl, ⟨nd, rfl⟩⟩) | (go_at_call 18; (with_reducible refine (clique_Clear.calls k1 t232 1 _ _ y233 true _ ?side1 ?side2 A23.out).mono ?_); (case side1 => repeat (first | exact (Kd.R_reads' HO_11.out).2.2 | (with_reducible refine Kd.C_alloc ?_ _) | (with_reducible refine Kd.C_drewN ?_ _) | (with_reducible refine Kd.C_drew ?_))); (case side2 => exact (Kd.R_reads' HO_11.out).2.1); rintro e w' ⟨rfl, ⟨nd, rfl⟩⟩) | (go_at_call 19; (with_reducible refine (clique_Acked.calls k1 t232 _ _ x10_1 t242 _ ?side1 ?side2 A25.out).mono ?_); (case side1 => repeat (first | exact (Kd.R_reads' HO_10.out).2.2 | (with_reducible refine Kd.C_alloc ?_ _) | (with_reducible refine Kd.C_drewN ?_ _) | (with_reducible refine Kd.C_drew ?_))); (case side2 => exact (Kd.R_reads' HO_10.out).2.1); rintro e w' ⟨rfl, ⟨nd, rfl⟩⟩) | (go_at_call 19; (with_reducible refine (clique_Acked.calls k1 t232 _ _ y233 t243 _ ?side1 ?side2 A27.out).mono ?_); (case side1 => repeat (first | exact (Kd.R_reads' HO_11.out).2.2 | (with_reducible refine Kd.C_alloc ?_ _) | (with_reducible refine Kd.C_drewN ?_ _) | (with_reducible refine Kd.C_drew ?_))); (case side2 => exact (Kd.R_reads' HO_11.out).2.1); rintro e w' ⟨rfl, ⟨nd, rfl⟩⟩) | (go_at_call 18; (with_reducible refine (clique_Clear.calls k1 a2 ji7 _ _ x10_1 false _ ?side1 ?side2 A33.out).mono ?_); (case side1 => repeat (first | exact (Kd.R_reads' HO_10.out).2.2 | (with_reducible refine Kd.C_alloc ?_ _) | (with_reducible refine Kd.C_drewN ?_ _) | (with_reducible refine Kd.C_drew ?_))); (case side2 => exact (Kd.R_reads' HO_10.out).2.1); rintro e w' ⟨rfl, ⟨nd, rfl⟩⟩) | (go_at_call 19; (with_reducible refine (clique_Acked.calls k1 a2 _ _ x10_1 t245 _ ?side1 ?side2 A37.out).mono ?_); (case side1 => repeat (first | exact (Kd.R_reads' HO_10.out).2.2 | (with_reducible refine Kd.C_alloc ?_ _) | (with_reducible refine Kd.C_drewN ?_ _) | (with_reducible refine Kd.C_drew ?_))); (case side2 => exact (Kd.R_reads' HO_10.out).2.1); rintro e w' ⟨rfl, ⟨nd, rfl⟩⟩))
                                go_ret
                                exact ⟨by first | rfl | (simp [errW_none, errW_some] <;> rfl) | (simp only [← hji7]; first | rfl | (simp [errW_none, errW_some] <;> rfl)) | (simp [*, errW_none, errW_some] <;> rfl), by repeat (first | (with_reducible first | exact HB.out | apply below_alloc | apply pw_below_drewN | apply below_drew1) | exact HB.out)⟩
                        · rw [if_neg c29] at H
                          have c29b0 : decide (0 ≤ a2) = false := decide_eq_false c29
                          clear c29
                          replace H := Option.bind_eq_some_iff.mp H
                          obtain ⟨t246, A400, H⟩ := H
                          replace H : (if t246 = true then (some false) else ((clique_Acked.f k1 a2 x10_1).bind fun t247 => (some (t247 == 0)))) = some r := H
                          have A40 := Aside0.mk A400
                          clear A400
                          by_cases c41 : t246 = true
                          · subst c41
                            have H1 : (some false) = some r := by rw [if_pos rfl] at H; exact H
                            clear H
                            have H := H1
                            clear H1
                            first
                            | exact absurd (Option.some.inj H) (by rw [HT.out]; decide)
                            | obtain rfl := Option.some.inj H
                              obtain ⟨Ao42, co42, eo42⟩ := Kd.R_slice HO_10.out
                              subst eo42
                              go_wp2_with (first | (go_at_call 18; (with_reducible refine (clique_Clear.calls k1 t232 ji7 _ _ x10_1 true _ ?side1 ?side2 A17.out).mono ?_); (case side1 => repeat (first | exact (Kd.R_reads' HO_10.out).2.2 | (with_reducible refine Kd.C_alloc ?_ _) | (with_reducible refine Kd.C_drewN ?_ _) | (with_reducible refine Kd.C_drew ?_))); (case side2 => exact (Kd.R_reads' HO_10.out).2.1); rintro e w' ⟨rfl, ⟨nd, rfl⟩⟩; obtain ⟨Ao43, co43, eo43⟩ := Kd.R_slice HO_11.out; subst eo43) | (go_at_call 18; (with_reducible refine (clique_Clear.calls k1 t232 ji7 _ _ y233 false _ ?side1 ?side2 A19.out).mono ?_); (case side1 => repeat (first | exact (Kd.R_reads' HO_11.out).2.2 | (with_reducible refine Kd.C_alloc ?_ _) | (with_reducible refine Kd.C_drewN ?_ _) | (with_reducible refine Kd.C_drew ?_))); (case side2 => exact (Kd.R_reads' HO_11.out).2.1); rintro e w' ⟨rfl, ⟨nd, rfl⟩⟩) | (go_at_call 18; (with_reducible refine (clique_Clear.calls k1 t232 1 _ _ y233 true _ ?side1 ?side2 A23.out).mono ?_); (case side1 => repeat (first | exact (Kd.R_reads' HO_11.out).2.2 | (with_reducible refine Kd.C_alloc ?_ _) | (with_reducible refine Kd.C_drewN ?_ _) | (with_reducible refine Kd.C_drew ?_))); (case side2 => exact (Kd.R_reads' HO_11.out).2.1); rintro e w' ⟨rfl, ⟨nd, rfl⟩⟩) | (go_at_call 19; (with_reducible refine (clique_Acked.calls k1 t232 _ _ x10_1 t242 _ ?side1 ?side2 A25.out).mono ?_); (case side1 => repeat (first | exact (Kd.R_reads' HO_10.out).2.2 | (with_reducible refine Kd.C_alloc ?_ _) | (with_reducible refine Kd.C_drewN ?_ _) | (with_reducible refine Kd.C_drew ?_))); (case side2 => exact (Kd.R_reads' HO_10.out).2.1); rintro e w' ⟨rfl, ⟨nd, rfl⟩⟩) | (go_at_call 19; (with_reducible refine (clique_Acked.calls k1 t232 _ _ y233 t243 _ ?side1 ?side2 A27.out).mono ?_); (case side1 => repeat (first | exact (Kd.R_reads' HO_11.out).2.2 | (with_reducible refine Kd.C_alloc ?_ _) | (with_reducible refine Kd.C_drewN ?_ _) | (with_reducible refine Kd.C_drew ?_))); (case side2 => exact (Kd.R_reads' HO_11.out).2.1); rintro e w' ⟨rfl, ⟨nd, rfl⟩⟩) | (go_at_call 18; (with_reducible refine (clique_Clear.calls k1 a2 ji7 _ _ x10_1 true _ ?side1 ?side2 A40.out).mono ?_); (case side1 => repeat (first | exact (Kd.R_reads' HO_10.out).2.2 | (with_reducible refine Kd.C_alloc ?_ _) | (with_reducible refine Kd.C_drewN ?_ _) | (with_reducible refine Kd.C_drew ?_))); (case side2 => exact (Kd.R_reads' HO_10.out).2.1); rintro e w' ⟨rfl, ⟨nd, rfl⟩⟩))
                              go_ret
                              exact ⟨by first | rfl | (simp [errW_none, errW_some] <;> rfl) | (simp only [← hji7]; first | rfl | (simp [errW_none, errW_some] <;> rfl)) | (simp [*, errW_none, errW_some] <;> rfl), by repeat (first | (with_reducible first | exact HB.out | apply below_alloc | apply pw_below_drewN | apply below_drew1) | exact HB.out)⟩
                          · replace c41 := Bool.eq_false_iff.mpr c41
                            subst c41
                            have H1 : ((clique_Acked.f k1 a2 x10_1).bind fun t247 => (some (t247 == 0))) = some r := by rw [if_neg (show ¬ (false = true) by decide)] at H; exact H
                            clear H
                            have H := H1
                            clear H1
                            replace H := Option.bind_eq_some_iff.mp H
                            obtain ⟨t247, A440, H⟩ := H
                            replace H : (some (t247 == 0)) = some r := H
                            have A44 := Aside0.mk A440
                            clear A440
                            first
                            | exact absurd (Option.some.inj H) (by rw [HT.out]; decide)
                            | obtain rfl := Option.some.inj H
                              obtain ⟨Ao45, co45, eo45⟩ := Kd.R_slice HO_10.out
                              subst eo45
                              go_wp2_with (first | (go_at_call 18; (with_reducible refine (clique_Clear.calls k1 t232 ji7 _ _ x10_1 true _ ?side1 ?side2 A17.out).mono ?_); (case side1 => repeat (first | exact (Kd.R_reads' HO_10.out).2.2 | (with_reducible refine Kd.C_alloc ?_ _) | (with_reducible refine Kd.C_drewN ?_ _) | (with_reducible refine Kd.C_drew ?_))); (case side2 => exact (Kd.R_reads' HO_10.out).2.1); rintro e w' ⟨rfl, ⟨nd, rfl⟩⟩; obtain ⟨Ao46, co46, eo46⟩ := Kd.R_slice HO_11.out; subst eo46) | (go_at_call 18; (with_reducible refine (clique_Clear.calls k1 t232 ji7 _ _ y233 false _ ?side1 ?side2 A19.out).mono ?_); (case side1 => repeat (first | exact (Kd.R_reads' HO_11.out).2.2 | (with_reducible refine Kd.C_alloc ?_ _) | (with_reducible refine Kd.C_drewN ?_ _) | (with_reducible refine Kd.C_drew ?_))); (case side2 => exact (Kd.R_reads' HO_11.out).2.1); rintro e w' ⟨rfl, ⟨nd, rfl⟩⟩) | (go_at_call 18; (with_reducible refine (clique_Clear.calls k1 t232 1 _ _ y233 true _ ?side1 ?side2 A23.out).mono ?_); (case side1 => repeat (first | exact (Kd.R_reads' HO_11.out).2.2 | (with_reducible refine Kd.C_alloc ?_ _) | (with_reducible refine Kd.C_drewN ?_ _) | (with_reducible refine Kd.C_drew ?_))); (case side2 => exact (Kd.R_reads' HO_11.out).2.1); rintro e w' ⟨rfl, ⟨nd, rfl⟩⟩) | (go_at_call 19; (with_reducible refine (clique_Acked.calls k1 t232 _ _ x10_1 t242 _ ?side1 ?side2 A25.out).mono ?_); (case side1 => repeat (first | exact (Kd.R_reads' HO_10.out).2.2 | (with_reducible refine Kd.C_alloc ?_ _) | (with_reducible refine Kd.C_drewN ?_ _) | (with_reducible refine Kd.C_drew ?_))); (case side2 => exact (Kd.R_reads' HO_10.out).2.1); rintro e w' ⟨rfl, ⟨nd, rfl⟩⟩) | (go_at_call 19; (with_reducible refine (clique_Acked.calls k1 t232 _ _ y233 t243 _ ?side1 ?side2 A27.out).mono ?_); (case side1 => repeat (first | exact (Kd.R_reads' HO_11.out).2.2 | (with_reducible refine Kd.C_alloc ?_ _) | (with_reducible refine Kd.C_drewN ?_ _) | (with_reducible refine Kd.C_drew ?_))); (case side2 => exact (Kd.R_reads' HO_11.out).2.1); rintro e w' ⟨rfl, ⟨nd, rfl⟩⟩) | (go_at_call 18; (with_reducible refine (clique_Clear.calls k1 a2 ji7 _ _ x10_1 false _ ?side1 ?side2 A40.out).mono ?_); (case side1 => repeat (first | exact (Kd.R_reads' HO_10.out).2.2 | (with_reducible refine Kd.C_alloc ?_ _) | (with_reducible refine Kd.C_drewN ?_ _) | (with_reducible refine Kd.C_drew ?_))); (case side2 => exact (Kd.R_reads' HO_10.out).2.1); rintro e w' ⟨rfl, ⟨nd, rfl⟩⟩) | (go_at_call 19; (with_reducible refine (clique_Acked.calls k1 a2 _ _ x10_1 t247 _ ?side1 ?side2 A44.out).mono ?_); (case side1 => repeat (first | exact (Kd.R_reads' HO_10.out).2.2 | (with_reducible refine Kd.C_alloc ?_ _) | (with_reducible refine Kd.C_drewN ?_ _) | (with_reducible refine Kd.C_drew ?_))); (case side2 => exact (Kd.R_reads' HO_10.out).2.1); rintro e w' ⟨rfl, ⟨nd, rfl⟩⟩))
                              go_ret
                              exact ⟨by first | rfl | (simp [errW_none, errW_some] <;> rfl) | (simp only [← hji7]; first | rfl | (simp [errW_none, errW_some] <;> rfl)) | (simp [*, errW_none, errW_some] <;> rfl), by repeat (first | (with_reducible first | exact HB.out | apply below_alloc | apply pw_below_drewN | apply below_drew1) | exact HB.out)⟩
                      · rw [if_neg c28] at H
                        have c28b0 : (t243 == 0) = false := beq_eq_false_iff_ne.mpr c28
                        have c28b1 : (t243 != 0) = true := bne_iff_ne.mpr c28
                        first
                        | exact absurd (Option.some.inj H) (by rw [HT.out]; decide)
                        | obtain rfl := Option.some.inj H
                          obtain ⟨Ao47, co47, eo47⟩ := Kd.R_slice HO_10.out
                          subst eo47
                          go_wp2_with (first | (go_at_call 18; (with_reducible refine (clique_Clear.calls k1 t232 ji7 _ _ x10_1 true _ ?side1 ?side2 A17.out).mono ?_); (case side1 => repeat (first | exact (Kd.R_reads' HO_10.out).2.2 | (with_reducible refine Kd.C_alloc ?_ _) | (with_reducible refine Kd.C_drewN ?_ _) | (with_reducible refine Kd.C_drew ?_))); (case side2 => exact (Kd.R_reads' HO_10.out).2.1); rintro e w' ⟨rfl, ⟨nd, rfl⟩⟩; obtain ⟨Ao48, co48, eo48⟩ := Kd.R_slice HO_11.out; subst eo48) | (go_at_call 18; (with_reducible refine (clique_Clear.calls k1 t232 ji7 _ _ y233 false _ ?side1 ?side2 A19.out).mono ?_); (case side1 => repeat (first | exact (Kd.R_reads' HO_11.out).2.2 | (with_reducible refine Kd.C_alloc ?_ _) | (with_reducible refine Kd.C_drewN ?_ _) | (with_reducible refine Kd.C_drew ?_))); (case side2 => exact (Kd.R_reads' HO_11.out).2.1); rintro e w' ⟨rfl, ⟨nd, rfl⟩⟩) | (go_at_call 18; (with_reducible refine (clique_Clear.calls k1 t232 1 _ _ y233 true _ ?side1 ?side2 A23.out).mono ?_); (case side1 => repeat (first | exact (Kd.R_reads' HO_11.out).2.2 | (with_reducible refine Kd.C_alloc ?_ _) | (with_reducible refine Kd.C_drewN ?_ _) | (with_reducible refine Kd.C_drew ?_))); (case side2 => exact (Kd.R_reads' HO_11.out).2.1); rintro e w' ⟨rfl, ⟨nd, rfl⟩⟩) | (go_at_call 19; (with_reducible refine (clique_Acked.calls k1 t232 _ _ x10_1 t242 _ ?side1 ?side2 A25.out).mono ?_); (case side1 => repeat (first | exact (Kd.R_reads' HO_10.out).2.2 | (with_reducible refine Kd.C_alloc ?_ _) | (with_reducible refine Kd.C_drewN ?_ _) | (with_reducible refine Kd.C_drew ?_))); (case side2 => exact (Kd.R_reads' HO_10.out).2.1); rintro e w' ⟨rfl, ⟨nd, rfl⟩⟩) | (go_at_call 19; (with_reducible refine (clique_Acked.calls k1 t232 _ _ y233 t243 _ ?side1 ?side2 A27.out).mono ?_); (case side1 => repeat (first | exact (Kd.R_reads' HO_11.out).2.2 | (with_reducible refine Kd.C_alloc ?_ _) | (with_reducible refine Kd.C_drewN ?_ _) | (with_reducible refine Kd.C_drew ?_))); (case side2 => exact (Kd.R_reads' HO_11.out).2.1); rintro e w' ⟨rfl, ⟨nd, rfl⟩⟩))
                          go_ret
                          exact ⟨by first | rfl | (simp [errW_none, errW_some] <;> rfl) | (simp only [← hji7]; first | rfl | (simp [errW_none, errW_some] <;> rfl)) | (simp [*, errW_none, errW_some] <;> rfl), by repeat (first | (with_reducible first | exact HB.out | apply below_alloc | apply pw_below_drewN | apply below_drew1) | exact HB.out)⟩
                    · rw [if_neg c26] at H
                      have c26b0 : (t242 == (wrap64 (ji7 - 1))) = false := beq_eq_false_iff_ne.mpr c26
                      have c26b1 : (t242 != (wrap64 (ji7 - 1))) = true := bne_iff_ne.mpr c26
                      first
                      | exact absurd (Option.some.inj H) (by rw [HT.out]; decide)
                      | obtain rfl := Option.some.inj H
                        obtain ⟨Ao49, co49, eo49⟩ := Kd.R_slice HO_10.out
                        subst eo49
                        go_wp2_with (first | (go_at_call 18; (with_reducible refine (clique_Clear.calls k1 t232 ji7 _ _ x10_1 true _ ?side1 ?side2 A17.out).mono ?_); (case side1 => repeat (first | exact (Kd.R_reads' HO_10.out).2.2 | (with_reducible refine Kd.C_alloc ?_ _) | (with_reducible refine Kd.C_drewN ?_ _) | (with_reducible refine Kd.C_drew ?_))); (case side2 => exact (Kd.R_reads' HO_10.out).2.1); rintro e w' ⟨rfl, ⟨nd, rfl⟩⟩; obtain ⟨Ao50, co50, eo50⟩ := Kd.R_slice HO_11.out; subst eo50) | (go_at_call 18; (with_reducible refine (clique_Clear.calls k1 t232 ji7 _ _ y233 false _ ?side1 ?side2 A19.out).mono ?_); (case side1 => repeat (first | exact (Kd.R_reads' HO_11.out).2.2 | (with_reducible refine Kd.C_alloc ?_ _) | (with_reducible refine Kd.C_drewN ?_ _) | (with_reducible refine Kd.C_drew ?_))); (case side2 => exact (Kd.R_reads' HO_11.out).2.1); rintro e w' ⟨rfl, ⟨nd, rfl⟩⟩) | (go_at_call 18; (with_reducible refine (clique_Clear.calls k1 t232 1 _ _ y233 true _ ?side1 ?side2 A23.out).mono ?_); (case side1 => repeat (first | exact (Kd.R_reads' HO_11.out).2.2 | (with_reducible refine Kd.C_alloc ?_ _) | (with_reducible refine Kd.C_drewN ?_ _) | (with_reducible refine Kd.C_drew ?_))); (case side2 => exact (Kd.R_reads' HO_11.out).2.1); rintro e w' ⟨rfl, ⟨nd, rfl⟩⟩) | (go_at_call 19; (with_reducible refine (clique_Acked.calls k1 t232 _ _ x10_1 t242 _ ?side1 ?side2 A25.out).mono ?_); (case side1 => repeat (first | exact (Kd.R_reads' HO_10.out).2.2 | (with_reducible refine Kd.C_alloc ?_ _) | (with_reducible refine Kd.C_drewN ?_ _) | (with_reducible refine Kd.C_drew ?_))); (case side2 => exact (Kd.R_reads' HO_10.out).2.1); rintro e w' ⟨rfl, ⟨nd, rfl⟩⟩))
                        go_ret
                        exact ⟨by first | rfl | (simp [errW_none, errW_some] <;> rfl) | (simp only [← hji7]; first | rfl | (simp [errW_none, errW_some] <;> rfl)) | (simp [*, errW_none, errW_some] <;> rfl), by repeat (first | (with_reducible first | exact HB.out | apply below_alloc | apply pw_below_drewN | apply below_drew1) | exact HB.out)⟩
                  · replace c24 := Bool.eq_false_iff.mpr c24
                    subst c24
                    have H1 : (some false) = some r := by rw [if_neg (show ¬ (false = true) by decide)] at H; exact H
                    clear H
                    have H := H1
                    clear H1
                    first
                    | exact absurd (Option.some.inj H) (by rw [HT.out]; decide)
                    | obtain rfl := Option.some.inj H
                      obtain ⟨Ao51, co51, eo51⟩ := Kd.R_slice HO_10.out
                      subst eo51
                      go_wp2_with (first | (go_at_call 18; (with_reducible refine (clique_Clear.calls k1 t232 ji7 _ _ x10_1 true _ ?side1 ?side2 A17.out).mono ?_); (case side1 => repeat (first | exact (Kd.R_reads' HO_10.out).2.2 | (with_reducible refine Kd.C_alloc ?_ _) | (with_reducible refine Kd.C_drewN ?_ _) | (with_reducible refine Kd.C_drew ?_))); (case side2 => exact (Kd.R_reads' HO_10.out).2.1); rintro e w' ⟨rfl, ⟨nd, rfl⟩⟩; obtain ⟨Ao52, co52, eo52⟩ := Kd.R_slice HO_11.out; subst eo52) | (go_at_call 18; (with_reducible refine (clique_Clear.calls k1 t232 ji7 _ _ y233 false _ ?side1 ?side2 A19.out).mono ?_); (case side1 => repeat (first | exact (Kd.R_reads' HO_11.out).2.2 | (with_reducible refine Kd.C_alloc ?_ _) | (with_reducible refine Kd.C_drewN ?_ _) | (with_reducible refine Kd.C_drew ?_))); (case side2 => exact (Kd.R_reads' HO_11.out).2.1); rintro e w' ⟨rfl, ⟨nd, rfl⟩⟩) | (go_at_call 18; (with_reducible refine (clique_Clear.calls k1 t232 1 _ _ y233 false _ ?side1 ?side2 A23.out).mono ?_); (case side1 => repeat (first | exact (Kd.R_reads' HO_11.out).2.2 | (with_reducible refine Kd.C_alloc ?_ _) | (with_reducible refine Kd.C_drewN ?_ _) | (with_reducible refine Kd.C_drew ?_))); (case side2 => exact (Kd.R_reads' HO_11.out).2.1); rintro e w' ⟨rfl, ⟨nd, rfl⟩⟩))
                      go_ret
                      exact ⟨by first | rfl | (simp [errW_none, errW_some] <;> rfl) | (simp only [← hji7]; first | rfl | (simp [errW_none, errW_some] <;> rfl)) | (simp [*, errW_none, errW_some] <;> rfl), by repeat (first | (with_reducible first | exact HB.out | apply below_alloc | apply pw_below_drewN | apply below_drew1) | exact HB.out)⟩
              · replace c18 := Bool.eq_false_iff.mpr c18
                subst c18
                have H1 : (some false) = some r := by rw [if_neg (show ¬ (false = true) by decide)] at H; exact H
                clear H
                have H := H1
                clear H1
                first
                | exact absurd (Option.some.inj H) (by rw [HT.out]; decide)
                | obtain rfl := Option.some.inj H
                  obtain ⟨Ao53, co53, eo53⟩ := Kd.R_slice HO_10.out
                  subst eo53
                  go_wp2_with (first | (go_at_call 18; (with_reducible refine (clique_Clear.calls k1 t232 ji7 _ _ x10_1 false _ ?side1 ?side2 A17.out).mono ?_); (case side1 => repeat (first | exact (Kd.R_reads' HO_10.out).2.2 | (with_reducible refine Kd.C_alloc ?_ _) | (with_reducible refine Kd.C_drewN ?_ _) | (with_reducible refine Kd.C_drew ?_))); (case side2 => exact (Kd.R_reads' HO_10.out).2.1); rintro e w' ⟨rfl, ⟨nd, rfl⟩⟩))
                  go_ret
                  exact ⟨by first | rfl | (simp [errW_none, errW_some] <;> rfl) | (simp only [← hji7]; first | rfl | (simp [errW_none, errW_some] <;> rfl)) | (simp [*, errW_none, errW_some] <;> rfl), by repeat (first | (with_reducible first | exact HB.out | apply below_alloc | apply pw_below_drewN | apply below_drew1) | exact HB.out)⟩
            · replace c16 := Bool.eq_false_iff.mpr c16
              subst c16
              have H1 : (some false) = some r := by rw [if_neg (show ¬ (false = true) by decide)] at H; exact H
              clear H
              have H := H1
              clear H1
              first
              | exact absurd (Option.some.inj H) (by rw [HT.out]; decide)
              | obtain rfl := Option.some.inj H
                go_wp2
                go_ret
                exact ⟨by first | rfl | (simp [errW_none, errW_some] <;> rfl) | (simp only [← hji7]; first | rfl | (simp [errW_none, errW_some] <;> rfl)) | (simp [*, errW_none, errW_some] <;> rfl), by repeat (first | (with_reducible first | exact HB.out | apply below_alloc | apply pw_below_drewN | apply below_drew1) | exact HB.out)⟩
    · rw [if_neg c9] at H
      exact absurd H (by simp)
  · rw [if_neg c8] at H
    exact absurd H (by simp)

/-- THE ONE PURE STATEMENT of omnibuslaw12_CliqueMost: yours. -/
def omnibuslaw12_CliqueMost.Pure : Prop := ∀ (a0 : Int) (a1 : Int) (a2 : Int), (Lit.int .i64 a0).wf = true → (Lit.int .i64 a1).wf = true → (Lit.int .i64 a2).wf = true → ∃ k, omnibuslaw12_CliqueMost.f k a0 a1 a2 = some true
theorem omnibuslaw12_CliqueMost.walk (P : omnibuslaw12_CliqueMost.Pure) (a0 : Int) (a1 : Int) (a2 : Int) (w : World) (w0 : (Lit.int .i64 a0).wf = true) (w1 : (Lit.int .i64 a1).wf = true) (w2 : (Lit.int .i64 a2).wf = true) :
    Calls Try.prog 7 #[.int .i64 a0, .int .i64 a1, .int .i64 a2] w fun e w' => e = .returned (.bool true) ∧ Below w.heap.size w w' := by
  obtain ⟨k, h⟩ := P a0 a1 a2 w0 w1 w2
  refine (omnibuslaw12_CliqueMost.calls k a0 a1 a2 true w h rfl).mono ?_
  rintro e w' ⟨rfl, hd⟩
  exact ⟨rfl, hd⟩

end Go.Proofs.Ytmbmpcjlddnpcaa.PA
