-- Laid by a program of this session (wip/myprint.py, over the kit's print.py), not by print.sh.
import Derived.Test.YtbcbkokpbobngaaPAx0
import Derived.Test.YtbcbkokpbobngaaPAx3
import Derived.Test.YtbcbkokpbobngaaPAx4
namespace Go.Proofs.Ytbcbkokpbobngaa.PA
open Go.RowKit Go.Proofs.YtbcbkokpbobngaaW.PrintWords Go.Proofs.YtbcbkokpbobngaaW.PrintLast Go.Proofs.YtbcbkokpbobngaaW.PrintMore
attribute [local go_sem] max2_int min2_int max_two min_two max_three min_three max_four min_four   -- for this text's walks alone
set_option linter.unusedVariables false
set_option linter.unusedSimpArgs false

/-! ### omnibuslaw10_ClockMiddles: function 4 -/
mutual
def omnibuslaw10_ClockMiddles.j0 : Nat → Bool → List Int → Int → Bool → Option (Bool)
  | 0, _, _, _, _ => none
  | k + 1, x9, x11, x17, x97 => if x97 = true then (some false) else (if 0 < (x11.length : Int) then (omnibuslaw10_ClockMiddles.l0 k x9 x11 x17 (rd x11 0) (rd x11 0) 0) else (none))
def omnibuslaw10_ClockMiddles.l0 : Nat → Bool → List Int → Int → Int → Int → Int → Option (Bool)
  | 0, _, _, _, _, _, _ => none
  | k + 1, x9, x11, x17, x21, x22, x23 => if x23 < (x11.length : Int) then (if 0 ≤ x23 then (omnibuslaw10_ClockMiddles.l0 k x9 x11 x17 (mn x21 (rd x11 x23)) (mx x22 (rd x11 x23)) (wrap64 (x23 + 1))) else (none)) else (if x9 = true then (if x17 ≥ x21 then (if x17 ≤ x22 then ((clock_Spread.f k x11).bind fun t218 => (some ((wrap64 (x22 - x21)) == t218))) else (some false)) else (some false)) else (some false))
end
def omnibuslaw10_ClockMiddles.f (k : Nat) (a0 : Int) (l1 : List Int) (l2 : List Int) (a3 : Int) : Option (Bool) := (omnibuslaw10_awake.f k).bind fun t173 => ((omnibuslaw10_pick.f a0 8).bind fun t174 => ((omnibuslaw10_devs.f k l1 20 1000).bind fun t175 => ((omnibuslaw10_devs.f k l2 t174 1073741824).bind fun t178 => (if (wrap64 ((t175.length : Int) + (t178.length : Int))) ≤ (wrap64 (2 * t174)) then (if ([] : List Int).length + t175.length < 17592186044416 then ((some (([] : List Int) ++ t175 : List Int)).bind fun y181 => (if y181.length + t178.length < 17592186044416 then ((clock_Middle.f k t174 (y181 ++ t178)).bind fun bt187 => (if t173 = true then (some (bt187.2 == 3)) else (some false))) else (none))) else (none)) else (if ([] : List Int).length + t175.length < 17592186044416 then ((some (([] : List Int) ++ t175 : List Int)).bind fun y189 => (if y189.length + t178.length < 17592186044416 then ((some (y189 ++ t178 : List Int)).bind fun y192 => ((omnibuslaw10_pick.f a3 (wrap64 ((y192.length : Int) + 1))).bind fun t195 => ((clock_Middle.f k t174 y192).bind fun bt196 => (if 0 ≤ t195 then (if t195 ≤ (y192.length : Int) then ((some (y192.drop (t195 : Int).toNat : List Int)).bind fun y198 => (if ([] : List Int).length + y198.length < 17592186044416 then ((some (([] : List Int) ++ y198 : List Int)).bind fun y202 => ((some (y192.take (t195 : Int).toNat : List Int)).bind fun y205 => (if y202.length + y205.length < 17592186044416 then ((clock_Middle.f k t174 (y202 ++ y205)).bind fun bt212 => (if bt196.2 = 0 then (if bt212.2 = 0 then (if bt212.1 = bt196.1 then (omnibuslaw10_ClockMiddles.j0 k t173 t175 bt196.1 ((t175.length : Int) == 0)) else (omnibuslaw10_ClockMiddles.j0 k t173 t175 bt196.1 true)) else (omnibuslaw10_ClockMiddles.j0 k t173 t175 bt196.1 true)) else (omnibuslaw10_ClockMiddles.j0 k t173 t175 bt196.1 true))) else (none)))) else (none))) else (none)) else (none))))) else (none))) else (none))))))
theorem omnibuslaw10_ClockMiddles.mono_l : ∀ k, (∀ y0 y1 y2 y3, LeO (omnibuslaw10_ClockMiddles.j0 k y0 y1 y2 y3) (omnibuslaw10_ClockMiddles.j0 (k + 1) y0 y1 y2 y3)) ∧ (∀ y0 y1 y2 y3 y4 y5, LeO (omnibuslaw10_ClockMiddles.l0 k y0 y1 y2 y3 y4 y5) (omnibuslaw10_ClockMiddles.l0 (k + 1) y0 y1 y2 y3 y4 y5))
  | 0 => ⟨fun _ _ _ _ r h => by simp [omnibuslaw10_ClockMiddles.j0] at h, fun _ _ _ _ _ _ r h => by simp [omnibuslaw10_ClockMiddles.l0] at h⟩
  | k + 1 => by
    obtain ⟨ih0, ih1⟩ := omnibuslaw10_ClockMiddles.mono_l k
    refine ⟨?_, ?_⟩
    · intro y0 y1 y2 y3
      unfold omnibuslaw10_ClockMiddles.j0
      repeat' first
      | (with_reducible exact ih0 _ _ _ _)
      | (with_reducible exact ih1 _ _ _ _ _ _)
      | (with_reducible exact clock_Middle.mono _ _ _)
      | (with_reducible exact clock_Spread.mono _ _)
      | (with_reducible exact omnibuslaw10_awake.mono _)
      | (with_reducible exact omnibuslaw10_devs.mono _ _ _ _)
      | (with_reducible exact LeO.refl _)
      | (with_reducible exact LeO.none _)
      | (with_reducible refine LeO.ite ?_ ?_)
      | (with_reducible refine LeO.bind ?_ (fun _ => ?_))
      | exact ih0 _ _ _ _
      | exact ih1 _ _ _ _ _ _
      | exact clock_Middle.mono _ _ _
      | exact clock_Spread.mono _ _
      | exact omnibuslaw10_awake.mono _
      | exact omnibuslaw10_devs.mono _ _ _ _
      | exact LeO.none _
      | refine LeO.ite ?_ ?_
      | refine LeO.bind ?_ (fun _ => ?_)
    · intro y0 y1 y2 y3 y4 y5
      unfold omnibuslaw10_ClockMiddles.l0
      repeat' first
      | (with_reducible exact ih0 _ _ _ _)
      | (with_reducible exact ih1 _ _ _ _ _ _)
      | (with_reducible exact clock_Middle.mono _ _ _)
      | (with_reducible exact clock_Spread.mono _ _)
      | (with_reducible exact omnibuslaw10_awake.mono _)
      | (with_reducible exact omnibuslaw10_devs.mono _ _ _ _)
      | (with_reducible exact LeO.refl _)
      | (with_reducible exact LeO.none _)
      | (with_reducible refine LeO.ite ?_ ?_)
      | (with_reducible refine LeO.bind ?_ (fun _ => ?_))
      | exact ih0 _ _ _ _
      | exact ih1 _ _ _ _ _ _
      | exact clock_Middle.mono _ _ _
      | exact clock_Spread.mono _ _
      | exact omnibuslaw10_awake.mono _
      | exact omnibuslaw10_devs.mono _ _ _ _
      | exact LeO.none _
      | refine LeO.ite ?_ ?_
      | refine LeO.bind ?_ (fun _ => ?_)
theorem omnibuslaw10_ClockMiddles.mono : ∀ a0 a1 a2 a3 k, LeO (omnibuslaw10_ClockMiddles.f k a0 a1 a2 a3) (omnibuslaw10_ClockMiddles.f (k + 1) a0 a1 a2 a3) := by
  intro a0 a1 a2 a3 k
  obtain ⟨ih0, ih1⟩ := omnibuslaw10_ClockMiddles.mono_l k
  unfold omnibuslaw10_ClockMiddles.f
  repeat' first
      | (with_reducible exact ih0 _ _ _ _)
      | (with_reducible exact ih1 _ _ _ _ _ _)
      | (with_reducible exact clock_Middle.mono _ _ _)
      | (with_reducible exact clock_Spread.mono _ _)
      | (with_reducible exact omnibuslaw10_awake.mono _)
      | (with_reducible exact omnibuslaw10_devs.mono _ _ _ _)
      | (with_reducible exact LeO.refl _)
      | (with_reducible exact LeO.none _)
      | (with_reducible refine LeO.ite ?_ ?_)
      | (with_reducible refine LeO.bind ?_ (fun _ => ?_))
      | exact ih0 _ _ _ _
      | exact ih1 _ _ _ _ _ _
      | exact clock_Middle.mono _ _ _
      | exact clock_Spread.mono _ _
      | exact omnibuslaw10_awake.mono _
      | exact omnibuslaw10_devs.mono _ _ _ _
      | exact LeO.none _
      | refine LeO.ite ?_ ?_
      | refine LeO.bind ?_ (fun _ => ?_)
def omnibuslaw10_ClockMiddles.T11 : Bool × List (List Nat × List Nat) := (true, [([], []), ([], []), ([], []), ([1, 2], [1, 2]), ([3], [3]), ([], []), ([], []), ([5, 6], [5, 6]), ([4, 7, 4], [4, 7]), ([0, 8, 8], [0, 8]), ([9], [9]), ([10], [10]), ([10], [10]), ([11, 9, 0, 1, 2, 3, 4, 5, 6, 7, 8, 9, 10, 11], [11]), ([12, 13, 0, 1, 2, 3, 4, 5, 6, 7, 8, 9, 10, 11, 12, 13], [12])])
def omnibuslaw10_ClockMiddles.B11 : List Nat := [0, 0, 0, 6, 14, 0, 0, 96, 254, 511, 1023, 2047, 2047, 4095, 16383]
theorem omnibuslaw10_ClockMiddles.tab11 : rtab .any (opsOf Try.f4 11) = omnibuslaw10_ClockMiddles.T11 := by kernel_rfl
theorem omnibuslaw10_ClockMiddles.bits11 : waitsOk omnibuslaw10_ClockMiddles.T11.2 omnibuslaw10_ClockMiddles.B11 = true := by kernel_rfl
set_option maxHeartbeats 8000000 in
set_option maxRecDepth 100000 in
theorem omnibuslaw10_ClockMiddles.calls (k : Nat) (a0 : Int) (A1 : Option Addr) (c1 : Nat) (l1 : List Int) (A2 : Option Addr) (c2 : Nat) (l2 : List Int) (a3 : Int) (r : Bool) (w : World) (hr1 : Kd.C (Kd.int .i64) w A1 l1.length l1) (hc1 : l1.length ≤ c1) (hr2 : Kd.C (Kd.int .i64) w A2 l2.length l2) (hc2 : l2.length ≤ c2) (h : omnibuslaw10_ClockMiddles.f k a0 l1 l2 a3 = some r) :
    Calls Try.prog 4 #[.int .i64 a0, .slice A1 l1.length c1, .slice A2 l2.length c2, .int .i64 a3] w fun e w' => e = .returned (.bool r) ∧ Below w.heap.size w w' := by
  have HR1 := Aside0.mk hr1
  have HC1 := Aside0.mk hc1
  clear hr1 hc1
  have HR2 := Aside0.mk hr2
  have HC2 := Aside0.mk hc2
  clear hr2 hc2
  have HB := Aside0.mk (Below.refl w.heap.size w)
  have H : ((omnibuslaw10_awake.f k).bind fun t173 => ((omnibuslaw10_pick.f a0 8).bind fun t174 => ((omnibuslaw10_devs.f k l1 20 1000).bind fun t175 => ((omnibuslaw10_devs.f k l2 t174 1073741824).bind fun t178 => (if (wrap64 ((t175.length : Int) + (t178.length : Int))) ≤ (wrap64 (2 * t174)) then (if ([] : List Int).length + t175.length < 17592186044416 then ((some (([] : List Int) ++ t175 : List Int)).bind fun y181 => (if y181.length + t178.length < 17592186044416 then ((clock_Middle.f k t174 (y181 ++ t178)).bind fun bt187 => (if t173 = true then (some (bt187.2 == 3)) else (some false))) else (none))) else (none)) else (if ([] : List Int).length + t175.length < 17592186044416 then ((some (([] : List Int) ++ t175 : List Int)).bind fun y189 => (if y189.length + t178.length < 17592186044416 then ((some (y189 ++ t178 : List Int)).bind fun y192 => ((omnibuslaw10_pick.f a3 (wrap64 ((y192.length : Int) + 1))).bind fun t195 => ((clock_Middle.f k t174 y192).bind fun bt196 => (if 0 ≤ t195 then (if t195 ≤ (y192.length : Int) then ((some (y192.drop (t195 : Int).toNat : List Int)).bind fun y198 => (if ([] : List Int).length + y198.length < 17592186044416 then ((some (([] : List Int) ++ y198 : List Int)).bind fun y202 => ((some (y192.take (t195 : Int).toNat : List Int)).bind fun y205 => (if y202.length + y205.length < 17592186044416 then ((clock_Middle.f k t174 (y202 ++ y205)).bind fun bt212 => (if bt196.2 = 0 then (if bt212.2 = 0 then (if bt212.1 = bt196.1 then (omnibuslaw10_ClockMiddles.j0 k t173 t175 bt196.1 ((t175.length : Int) == 0)) else (omnibuslaw10_ClockMiddles.j0 k t173 t175 bt196.1 true)) else (omnibuslaw10_ClockMiddles.j0 k t173 t175 bt196.1 true)) else (omnibuslaw10_ClockMiddles.j0 k t173 t175 bt196.1 true))) else (none)))) else (none))) else (none)) else (none))))) else (none))) else (none))))))) = some r := h
  clear h
  replace H := Option.bind_eq_some_iff.mp H
  obtain ⟨t173, A50, H⟩ := H
  replace H : ((omnibuslaw10_pick.f a0 8).bind fun t174 => ((omnibuslaw10_devs.f k l1 20 1000).bind fun t175 => ((omnibuslaw10_devs.f k l2 t174 1073741824).bind fun t178 => (if (wrap64 ((t175.length : Int) + (t178.length : Int))) ≤ (wrap64 (2 * t174)) then (if ([] : List Int).length + t175.length < 17592186044416 then ((some (([] : List Int) ++ t175 : List Int)).bind fun y181 => (if y181.length + t178.length < 17592186044416 then ((clock_Middle.f k t174 (y181 ++ t178)).bind fun bt187 => (if t173 = true then (some (bt187.2 == 3)) else (some false))) else (none))) else (none)) else (if ([] : List Int).length + t175.length < 17592186044416 then ((some (([] : List Int) ++ t175 : List Int)).bind fun y189 => (if y189.length + t178.length < 17592186044416 then ((some (y189 ++ t178 : List Int)).bind fun y192 => ((omnibuslaw10_pick.f a3 (wrap64 ((y192.length : Int) + 1))).bind fun t195 => ((clock_Middle.f k t174 y192).bind fun bt196 => (if 0 ≤ t195 then (if t195 ≤ (y192.length : Int) then ((some (y192.drop (t195 : Int).toNat : List Int)).bind fun y198 => (if ([] : List Int).length + y198.length < 17592186044416 then ((some (([] : List Int) ++ y198 : List Int)).bind fun y202 => ((some (y192.take (t195 : Int).toNat : List Int)).bind fun y205 => (if y202.length + y205.length < 17592186044416 then ((clock_Middle.f k t174 (y202 ++ y205)).bind fun bt212 => (if bt196.2 = 0 then (if bt212.2 = 0 then (if bt212.1 = bt196.1 then (omnibuslaw10_ClockMiddles.j0 k t173 t175 bt196.1 ((t175.length : Int) == 0)) else (omnibuslaw10_ClockMiddles.j0 k t173 t175 bt196.1 true)) else (omnibuslaw10_ClockMiddles.j0 k t173 t175 bt196.1 true)) else (omnibuslaw10_ClockMiddles.j0 k t173 t175 bt196.1 true))) else (none)))) else (none))) else (none)) else (none))))) else (none))) else (none)))))) = some r := H
  have A5 := Aside0.mk A50
  clear A50
  replace H := Option.bind_eq_some_iff.mp H
  obtain ⟨t174, A60, H⟩ := H
  replace H : ((omnibuslaw10_devs.f k l1 20 1000).bind fun t175 => ((omnibuslaw10_devs.f k l2 t174 1073741824).bind fun t178 => (if (wrap64 ((t175.length : Int) + (t178.length : Int))) ≤ (wrap64 (2 * t174)) then (if ([] : List Int).length + t175.length < 17592186044416 then ((some (([] : List Int) ++ t175 : List Int)).bind fun y181 => (if y181.length + t178.length < 17592186044416 then ((clock_Middle.f k t174 (y181 ++ t178)).bind fun bt187 => (if t173 = true then (some (bt187.2 == 3)) else (some false))) else (none))) else (none)) else (if ([] : List Int).length + t175.length < 17592186044416 then ((some (([] : List Int) ++ t175 : List Int)).bind fun y189 => (if y189.length + t178.length < 17592186044416 then ((some (y189 ++ t178 : List Int)).bind fun y192 => ((omnibuslaw10_pick.f a3 (wrap64 ((y192.length : Int) + 1))).bind fun t195 => ((clock_Middle.f k t174 y192).bind fun bt196 => (if 0 ≤ t195 then (if t195 ≤ (y192.length : Int) then ((some (y192.drop (t195 : Int).toNat : List Int)).bind fun y198 => (if ([] : List Int).length + y198.length < 17592186044416 then ((some (([] : List Int) ++ y198 : List Int)).bind fun y202 => ((some (y192.take (t195 : Int).toNat : List Int)).bind fun y205 => (if y202.length + y205.length < 17592186044416 then ((clock_Middle.f k t174 (y202 ++ y205)).bind fun bt212 => (if bt196.2 = 0 then (if bt212.2 = 0 then (if bt212.1 = bt196.1 then (omnibuslaw10_ClockMiddles.j0 k t173 t175 bt196.1 ((t175.length : Int) == 0)) else (omnibuslaw10_ClockMiddles.j0 k t173 t175 bt196.1 true)) else (omnibuslaw10_ClockMiddles.j0 k t173 t175 bt196.1 true)) else (omnibuslaw10_ClockMiddles.j0 k t173 t175 bt196.1 true))) else (none)))) else (none))) else (none)) else (none))))) else (none))) else (none))))) = some r := H
  have A6 := Aside0.mk A60
  clear A60
  replace H := Option.bind_eq_some_iff.mp H
  obtain ⟨t175, A70, H⟩ := H
  replace H : ((omnibuslaw10_devs.f k l2 t174 1073741824).bind fun t178 => (if (wrap64 ((t175.length : Int) + (t178.length : Int))) ≤ (wrap64 (2 * t174)) then (if ([] : List Int).length + t175.length < 17592186044416 then ((some (([] : List Int) ++ t175 : List Int)).bind fun y181 => (if y181.length + t178.length < 17592186044416 then ((clock_Middle.f k t174 (y181 ++ t178)).bind fun bt187 => (if t173 = true then (some (bt187.2 == 3)) else (some false))) else (none))) else (none)) else (if ([] : List Int).length + t175.length < 17592186044416 then ((some (([] : List Int) ++ t175 : List Int)).bind fun y189 => (if y189.length + t178.length < 17592186044416 then ((some (y189 ++ t178 : List Int)).bind fun y192 => ((omnibuslaw10_pick.f a3 (wrap64 ((y192.length : Int) + 1))).bind fun t195 => ((clock_Middle.f k t174 y192).bind fun bt196 => (if 0 ≤ t195 then (if t195 ≤ (y192.length : Int) then ((some (y192.drop (t195 : Int).toNat : List Int)).bind fun y198 => (if ([] : List Int).length + y198.length < 17592186044416 then ((some (([] : List Int) ++ y198 : List Int)).bind fun y202 => ((some (y192.take (t195 : Int).toNat : List Int)).bind fun y205 => (if y202.length + y205.length < 17592186044416 then ((clock_Middle.f k t174 (y202 ++ y205)).bind fun bt212 => (if bt196.2 = 0 then (if bt212.2 = 0 then (if bt212.1 = bt196.1 then (omnibuslaw10_ClockMiddles.j0 k t173 t175 bt196.1 ((t175.length : Int) == 0)) else (omnibuslaw10_ClockMiddles.j0 k t173 t175 bt196.1 true)) else (omnibuslaw10_ClockMiddles.j0 k t173 t175 bt196.1 true)) else (omnibuslaw10_ClockMiddles.j0 k t173 t175 bt196.1 true))) else (none)))) else (none))) else (none)) else (none))))) else (none))) else (none)))) = some r := H
  have A7 := Aside0.mk A70
  clear A70
  replace H := Option.bind_eq_some_iff.mp H
  obtain ⟨t178, A80, H⟩ := H
  replace H : (if (wrap64 ((t175.length : Int) + (t178.length : Int))) ≤ (wrap64 (2 * t174)) then (if ([] : List Int).length + t175.length < 17592186044416 then ((some (([] : List Int) ++ t175 : List Int)).bind fun y181 => (if y181.length + t178.length < 17592186044416 then ((clock_Middle.f k t174 (y181 ++ t178)).bind fun bt187 => (if t173 = true then (some (bt187.2 == 3)) else (some false))) else (none))) else (none)) else (if ([] : List Int).length + t175.length < 17592186044416 then ((some (([] : List Int) ++ t175 : List Int)).bind fun y189 => (if y189.length + t178.length < 17592186044416 then ((some (y189 ++ t178 : List Int)).bind fun y192 => ((omnibuslaw10_pick.f a3 (wrap64 ((y192.length : Int) + 1))).bind fun t195 => ((clock_Middle.f k t174 y192).bind fun bt196 => (if 0 ≤ t195 then (if t195 ≤ (y192.length : Int) then ((some (y192.drop (t195 : Int).toNat : List Int)).bind fun y198 => (if ([] : List Int).length + y198.length < 17592186044416 then ((some (([] : List Int) ++ y198 : List Int)).bind fun y202 => ((some (y192.take (t195 : Int).toNat : List Int)).bind fun y205 => (if y202.length + y205.length < 17592186044416 then ((clock_Middle.f k t174 (y202 ++ y205)).bind fun bt212 => (if bt196.2 = 0 then (if bt212.2 = 0 then (if bt212.1 = bt196.1 then (omnibuslaw10_ClockMiddles.j0 k t173 t175 bt196.1 ((t175.length : Int) == 0)) else (omnibuslaw10_ClockMiddles.j0 k t173 t175 bt196.1 true)) else (omnibuslaw10_ClockMiddles.j0 k t173 t175 bt196.1 true)) else (omnibuslaw10_ClockMiddles.j0 k t173 t175 bt196.1 true))) else (none)))) else (none))) else (none)) else (none))))) else (none))) else (none))) = some r := H
  have A8 := Aside0.mk A80
  clear A80
  by_cases c9 : (wrap64 ((t175.length : Int) + (t178.length : Int))) ≤ (wrap64 (2 * t174))
  · rw [if_pos c9] at H
    have c9b0 : decide ((wrap64 ((t175.length : Int) + (t178.length : Int))) ≤ (wrap64 (2 * t174))) = true := decide_eq_true c9
    clear c9
    by_cases c10 : ([] : List Int).length + t175.length < 17592186044416
    · rw [if_pos c10] at H
      have LMc10 := Aside0.mk c10
      clear c10
      obtain ⟨y181, hy181⟩ : ∃ y_ : List Int, y_ = (([] : List Int) ++ t175) := ⟨_, rfl⟩
      replace H : (if y181.length + t178.length < 17592186044416 then ((clock_Middle.f k t174 (y181 ++ t178)).bind fun bt187 => (if t173 = true then (some (bt187.2 == 3)) else (some false))) else (none)) = some r := by first | (rw [hy181]; with_reducible exact H) | (have H2_ := (Option.bind_some _ _).symm.trans H; rw [hy181]; with_reducible exact H2_) | (have H2_ := (Option.bind_some _ _).symm.trans H; with_reducible exact H2_) | with_reducible exact H | (rw [hy181]; exact H) | exact H
      have Ny181 := Aside0.mk hy181
      clear hy181
      by_cases c11 : y181.length + t178.length < 17592186044416
      · rw [if_pos c11] at H
        have LMc11 := Aside0.mk c11
        clear c11
        obtain ⟨y184, hy184⟩ : ∃ y_ : List Int, y_ = (y181 ++ t178) := ⟨_, rfl⟩
        replace H : ((clock_Middle.f k t174 y184).bind fun bt187 => (if t173 = true then (some (bt187.2 == 3)) else (some false))) = some r := by first | (rw [hy184]; with_reducible exact H) | (have H2_ := (Option.bind_some _ _).symm.trans H; rw [hy184]; with_reducible exact H2_) | (have H2_ := (Option.bind_some _ _).symm.trans H; with_reducible exact H2_) | with_reducible exact H | (rw [hy184]; exact H) | exact H
        have Ny184 := Aside0.mk hy184
        clear hy184
        replace H := Option.bind_eq_some_iff.mp H
        obtain ⟨⟨t187, t188⟩, A120, H⟩ := H
        replace H : (if t173 = true then (some (t188 == 3)) else (some false)) = some r := H
        have A12 := Aside0.mk A120
        clear A120
        by_cases c13 : t173 = true
        · subst c13
          have H1 : (some (t188 == 3)) = some r := by rw [if_pos rfl] at H; exact H
          clear H
          have H := H1
          clear H1
          obtain rfl := Option.some.inj H
          go_enter Try.func4, Try.ntmps4
          go_wp2_with (first | ((with_reducible refine gate_callee (f := 10) rfl ?_); refine goesL_ (some 24) rfl rfl Try.func10 (by kernel_rfl) rfl #[] rfl (by (try simp only [List.map_toArray, List.map_cons, List.map_nil]); first | done | rfl | (simp only [List.length_drop, List.length_take]; rfl)) ?_; (with_reducible refine (omnibuslaw10_awake.calls k  true _ A5.out).mono ?_); rintro e w14 ⟨rfl, hb⟩; refine ⟨_, rfl, ?_⟩; have n0_ := Aside0.mk (below_step (by repeat (first | (with_reducible first | exact HB.out | apply below_alloc | apply pw_below_drewN | apply below_drew1) | exact HB.out)) hb); clear HB; have HB := n0_; clear n0_; (try clear hb); (try clear hb2); (try clear hk); (try clear hi)) | ((with_reducible refine gate_callee (f := 11) rfl ?_); refine goesL_ (some 26) rfl rfl Try.func11 (by kernel_rfl) rfl #[.int .i64 a0, .int .i64 8] rfl (by (try simp only [List.map_toArray, List.map_cons, List.map_nil]); first | done | rfl | (simp only [List.length_drop, List.length_take]; rfl)) ?_; (with_reducible refine (omnibuslaw10_pick.calls a0 8 t174 _ A6.out).mono ?_); rintro e w' ⟨rfl, ⟨nd, rfl⟩⟩; refine ⟨_, rfl, ?_⟩) | ((with_reducible refine gate_callee (f := 22) rfl ?_); refine goesL_ (some 28) rfl rfl Try.func22 (by kernel_rfl) rfl #[.slice A1 l1.length c1, .int .i64 20, .int .i64 1000] rfl (by (try simp only [List.map_toArray, List.map_cons, List.map_nil]); first | done | rfl | (simp only [List.length_drop, List.length_take]; rfl)) ?_; (with_reducible refine (omnibuslaw10_devs.calls k _ _ l1 20 1000 t175 _ ?side1 ?side2 A7.out).mono ?_); (case side1 => repeat (first | exact (Kd.C_below HR1.out (by repeat (first | (with_reducible first | exact HB.out | apply below_alloc | apply pw_below_drewN | apply below_drew1) | exact HB.out))) | (with_reducible refine Kd.C_alloc ?_ _) | (with_reducible refine Kd.C_drewN ?_ _) | (with_reducible refine Kd.C_drew ?_))); (case side2 => exact HC1.out); rintro e w15 ⟨v176, rfl, ho0, hb⟩; refine ⟨_, rfl, ?_⟩; have n0_ := Aside0.mk (Kd.R_lower ho0 (below_size (by repeat (first | (with_reducible first | exact HB.out | apply below_alloc | apply pw_below_drewN | apply below_drew1) | exact HB.out)))); have n1_ := Aside0.mk (below_step (by repeat (first | (with_reducible first | exact HB.out | apply below_alloc | apply pw_below_drewN | apply below_drew1) | exact HB.out)) hb); clear HB; have HO177 := n0_; have HB := n1_; clear n0_ n1_; (try clear hb); (try clear hb2); (try clear hk); (try clear hi); (try clear ho0)) | ((with_reducible refine gate_callee (f := 22) rfl ?_); refine goesL_ (some 31) rfl rfl Try.func22 (by kernel_rfl) rfl #[.slice A2 l2.length c2, .int .i64 t174, .int .i64 1073741824] rfl (by (try simp only [List.map_toArray, List.map_cons, List.map_nil]); first | done | rfl | (simp only [List.length_drop, List.length_take]; rfl)) ?_; (with_reducible refine (omnibuslaw10_devs.calls k _ _ l2 t174 1073741824 t178 _ ?side1 ?side2 A8.out).mono ?_); (case side1 => repeat (first | exact (Kd.C_below HR2.out HB.out) | (with_reducible refine Kd.C_alloc ?_ _) | (with_reducible refine Kd.C_drewN ?_ _) | (with_reducible refine Kd.C_drew ?_))); (case side2 => exact HC2.out); rintro e w16 ⟨v179, rfl, ho0, hb⟩; refine ⟨_, rfl, ?_⟩; have n0_ := Aside0.mk (Kd.R_elder' (by (with_reducible repeat (first | apply Kd.R_alloc | apply Kd.R_drewN | apply Kd.R_drew)); exact HO177.out) (Kd.R_base ho0) hb); have n1_ := Aside0.mk (Kd.R_lower (Kd.R_new' ho0 (Kd.R_lt (by (with_reducible repeat (first | apply Kd.R_alloc | apply Kd.R_drewN | apply Kd.R_drew)); exact HO177.out))) (below_size (by repeat (first | (with_reducible first | exact HB.out | apply below_alloc | apply pw_below_drewN | apply below_drew1) | exact HB.out)))); have n2_ := Aside0.mk (below_step (by repeat (first | (with_reducible first | exact HB.out | apply below_alloc | apply pw_below_drewN | apply below_drew1) | exact HB.out)) hb); clear HO177; clear HB; have HO177 := n0_; have HO180 := n1_; have HB := n2_; clear n0_ n1_ n2_; (try clear hb); (try clear hb2); (try clear hk); (try clear hi); (try clear ho0); obtain ⟨Ao17, co17, eo17⟩ := Kd.R_slice HO177.out; subst eo17; obtain ⟨Ao18, co18, eo18⟩ := Kd.R_slice HO180.out; subst eo18) | ((with_reducible refine gate_builtin (b := .append) (xs := #[.const (.slice none 0 0), .tmp 42]) rfl ?_); (try (refine gate_guard (by rfl) ?_; dsimp only)); at_builtin; refine Kd.R_append_rows (Kd.int .i64) (w0 := w) w.heap.size rfl (.const (.slice none 0 0)) (.tmp 42) 22 3 (.int .i64 0) 8 rfl Try.underlying22 info3 rfl (by decide) (by omega) (.slice none 0 0) ([] : List Int) t175 _ _ _ (fun k_ => some k_ ≠ (.slice Ao17 t175.length co17 : Value).ownBlock ∧ some k_ ≠ (.slice Ao18 t178.length co18 : Value).ownBlock) (fun _ => False) rfl rfl ?aO ?aR (fun _ _ h => h) (fun _ h => h.elim) ?aF ?aB ?aS ?aL ?_; (case aR => repeat (first | exact (Kd.R_reads' HO177.out).2.2 | (with_reducible refine Kd.C_alloc ?_ _) | (with_reducible refine Kd.C_drewN ?_ _) | (with_reducible refine Kd.C_drew ?_))); (case aB => exact (by repeat (first | (with_reducible first | exact HB.out | apply below_alloc | apply pw_below_drewN | apply below_drew1) | exact HB.out))); (case aF => exact (fun k_ hk => ⟨Kd.fresh' (Kd.R_lt (by (with_reducible repeat (first | apply Kd.R_alloc | apply Kd.R_drewN | apply Kd.R_drew)); exact HO177.out)) k_ hk, Kd.fresh' (Kd.R_lt (by (with_reducible repeat (first | apply Kd.R_alloc | apply Kd.R_drewN | apply Kd.R_drew)); exact HO180.out)) k_ hk⟩)); (case aO => exact ((Kd.R_nil _ _ _ _ (fun k_ => some k_ ≠ (.slice Ao17 t175.length co17 : Value).ownBlock ∧ some k_ ≠ (.slice Ao18 t178.length co18 : Value).ownBlock)))); (case aS => exact (below_size (by repeat (first | (with_reducible first | exact HB.out | apply below_alloc | apply pw_below_drewN | apply below_drew1) | exact HB.out)))); (case aL => have := LMc10.out; omega); intro v182 w19 ho hb hg hat; rw [← Ny181.out] at ho; have n0_ := Aside0.mk (Kd.R_after (Kd.R_apart_nil (by (with_reducible repeat (first | apply Kd.R_alloc | apply Kd.R_drewN | apply Kd.R_drew)); exact HO177.out)) hg hat); have n1_ := Aside0.mk (Kd.R_after (Kd.R_apart_nil (by (with_reducible repeat (first | apply Kd.R_alloc | apply Kd.R_drewN | apply Kd.R_drew)); exact HO180.out)) hg hat); have n2_ := Aside0.mk (hb); have n3_ := Aside0.mk (ho); clear HO177; clear HO180; clear HB; have HO177 := n0_; have HO180 := n1_; have HB := n2_; have HO183 := n3_; clear n0_ n1_ n2_ n3_; clear ho hb hg hat) | ((with_reducible refine gate_builtin (b := .append) (xs := #[.tmp 43, .tmp 44]) rfl ?_); (try (refine gate_guard (by rfl) ?_; dsimp only)); at_builtin; refine Kd.R_append_rows (Kd.int .i64) (w0 := w) w.heap.size rfl (.tmp 43) (.tmp 44) 22 3 (.int .i64 0) 8 rfl Try.underlying22 info3 rfl (by decide) (by omega) v182 y181 t178 _ _ _ (fun k_ => some k_ ≠ (.slice Ao17 t175.length co17 : Value).ownBlock ∧ some k_ ≠ (.slice Ao18 t178.length co18 : Value).ownBlock) (fun _ => False) rfl rfl ?aO ?aR (fun _ _ h => h) (fun _ h => h.elim) ?aF ?aB ?aS ?aL ?_; (case aR => repeat (first | exact (Kd.R_reads' HO180.out).2.2 | (with_reducible refine Kd.C_alloc ?_ _) | (with_reducible refine Kd.C_drewN ?_ _) | (with_reducible refine Kd.C_drew ?_))); (case aB => exact (by repeat (first | (with_reducible first | exact HB.out | apply below_alloc | apply pw_below_drewN | apply below_drew1) | exact HB.out))); (case aF => exact (fun k_ hk => ⟨Kd.fresh' (Kd.R_lt (by (with_reducible repeat (first | apply Kd.R_alloc | apply Kd.R_drewN | apply Kd.R_drew)); exact HO177.out)) k_ hk, Kd.fresh' (Kd.R_lt (by (with_reducible repeat (first | apply Kd.R_alloc | apply Kd.R_drewN | apply Kd.R_drew)); exact HO180.out)) k_ hk⟩)); (case aO => exact (by (with_reducible repeat (first | apply Kd.R_alloc | apply Kd.R_drewN | apply Kd.R_drew)); exact HO183.out)); (case aS => exact (below_size (by repeat (first | (with_reducible first | exact HB.out | apply below_alloc | apply pw_below_drewN | apply below_drew1) | exact HB.out)))); (case aL => have := LMc11.out; omega); intro v185 w20 ho hb hg hat; rw [← Ny184.out] at ho; have n0_ := Aside0.mk (Kd.R_after (ok := (fun k_ => some k_ ≠ (.slice Ao18 t178.length co18 : Value).ownBlock)) (by (with_reducible repeat (first | apply Kd.R_alloc | apply Kd.R_drewN | apply Kd.R_drew)); exact Kd.R_mono HO177.out (fun _ hk => ⟨hk.1.2, hk.2⟩)) hg hat); have n1_ := Aside0.mk (Kd.R_after (ok := (fun k_ => some k_ ≠ (.slice Ao17 t175.length co17 : Value).ownBlock)) (by (with_reducible repeat (first | apply Kd.R_alloc | apply Kd.R_drewN | apply Kd.R_drew)); exact Kd.R_mono HO180.out (fun _ hk => ⟨hk.1.2, hk.2⟩)) hg hat); have n2_ := Aside0.mk (hb); have n3_ := Aside0.mk (ho); clear HO177; clear HO180; clear HB; clear HO183; have HO177 := n0_; have HO180 := n1_; have HB := n2_; have HO186 := n3_; clear n0_ n1_ n2_ n3_; clear ho hb hg hat; obtain ⟨Ao21, co21, eo21⟩ := Kd.R_slice HO186.out; subst eo21) | ((with_reducible refine gate_callee (f := 16) rfl ?_); refine goesL_ (some 46) rfl rfl Try.func16 (by kernel_rfl) rfl #[.int .i64 t174, .slice Ao21 y184.length co21] rfl (by (try simp only [List.map_toArray, List.map_cons, List.map_nil]); first | done | rfl | (simp only [List.length_drop, List.length_take]; rfl)) ?_; (with_reducible refine (clock_Middle.calls k t174 _ _ y184 t187 t188 _ ?side1 ?side2 A12.out).mono ?_); (case side1 => repeat (first | exact (Kd.R_reads' HO186.out).2.2 | (with_reducible refine Kd.C_alloc ?_ _) | (with_reducible refine Kd.C_drewN ?_ _) | (with_reducible refine Kd.C_drew ?_))); (case side2 => exact (Kd.R_reads' HO186.out).2.1); rintro e w22 ⟨rfl, hb⟩; refine ⟨_, rfl, ?_⟩; have n0_ := Aside0.mk (Kd.R_below (by (with_reducible repeat (first | apply Kd.R_alloc | apply Kd.R_drewN | apply Kd.R_drew)); exact HO177.out) hb); have n1_ := Aside0.mk (Kd.R_below (by (with_reducible repeat (first | apply Kd.R_alloc | apply Kd.R_drewN | apply Kd.R_drew)); exact HO180.out) hb); have n2_ := Aside0.mk (Kd.R_below (by (with_reducible repeat (first | apply Kd.R_alloc | apply Kd.R_drewN | apply Kd.R_drew)); exact HO186.out) hb); have n3_ := Aside0.mk (below_step (by repeat (first | (with_reducible first | exact HB.out | apply below_alloc | apply pw_below_drewN | apply below_drew1) | exact HB.out)) hb); clear HO177; clear HO180; clear HO186; clear HB; have HO177 := n0_; have HO180 := n1_; have HO186 := n2_; have HB := n3_; clear n0_ n1_ n2_ n3_; (try clear hb); (try clear hb2); (try clear hk); (try clear hi)))
          go_ret
          exact ⟨by first | rfl | (simp [errW_none, errW_some] <;> rfl) | (simp [*, errW_none, errW_some] <;> rfl), by repeat (first | (with_reducible first | exact HB.out | apply below_alloc | apply pw_below_drewN | apply below_drew1) | exact HB.out)⟩
        · replace c13 := Bool.eq_false_iff.mpr c13
          subst c13
          have H1 : (some false) = some r := by rw [if_neg (show ¬ (false = true) by decide)] at H; exact H
          clear H
          have H := H1
          clear H1
          obtain rfl := Option.some.inj H
          go_enter Try.func4, Try.ntmps4
          go_wp2_with (first | ((with_reducible refine gate_callee (f := 10) rfl ?_); refine goesL_ (some 24) rfl rfl Try.func10 (by kernel_rfl) rfl #[] rfl (by (try simp only [List.map_toArray, List.map_cons, List.map_nil]); first | done | rfl | (simp only [List.length_drop, List.length_take]; rfl)) ?_; (with_reducible refine (omnibuslaw10_awake.calls k  false _ A5.out).mono ?_); rintro e w23 ⟨rfl, hb⟩; refine ⟨_, rfl, ?_⟩; have n0_ := Aside0.mk (below_step (by repeat (first | (with_reducible first | exact HB.out | apply below_alloc | apply pw_below_drewN | apply below_drew1) | exact HB.out)) hb); clear HB; have HB := n0_; clear n0_; (try clear hb); (try clear hb2); (try clear hk); (try clear hi)) | ((with_reducible refine gate_callee (f := 11) rfl ?_); refine goesL_ (some 26) rfl rfl Try.func11 (by kernel_rfl) rfl #[.int .i64 a0, .int .i64 8] rfl (by (try simp only [List.map_toArray, List.map_cons, List.map_nil]); first | done | rfl | (simp only [List.length_drop, List.length_take]; rfl)) ?_; (with_reducible refine (omnibuslaw10_pick.calls a0 8 t174 _ A6.out).mono ?_); rintro e w' ⟨rfl, ⟨nd, rfl⟩⟩; refine ⟨_, rfl, ?_⟩) | ((with_reducible refine gate_callee (f := 22) rfl ?_); refine goesL_ (some 28) rfl rfl Try.func22 (by kernel_rfl) rfl #[.slice A1 l1.length c1, .int .i64 20, .int .i64 1000] rfl (by (try simp only [List.map_toArray, List.map_cons, List.map_nil]); first | done | rfl | (simp only [List.length_drop, List.length_take]; rfl)) ?_; (with_reducible refine (omnibuslaw10_devs.calls k _ _ l1 20 1000 t175 _ ?side1 ?side2 A7.out).mono ?_); (case side1 => repeat (first | exact (Kd.C_below HR1.out (by repeat (first | (with_reducible first | exact HB.out | apply below_alloc | apply pw_below_drewN | apply below_drew1) | exact HB.out))) | (with_reducible refine Kd.C_alloc ?_ _) | (with_reducible refine Kd.C_drewN ?_ _) | (with_reducible refine Kd.C_drew ?_))); (case side2 => exact HC1.out); rintro e w24 ⟨v176, rfl, ho0, hb⟩; refine ⟨_, rfl, ?_⟩; have n0_ := Aside0.mk (Kd.R_lower ho0 (below_size (by repeat (first | (with_reducible first | exact HB.out | apply below_alloc | apply pw_below_drewN | apply below_drew1) | exact HB.out)))); have n1_ := Aside0.mk (below_step (by repeat (first | (with_reducible first | exact HB.out | apply below_alloc | apply pw_below_drewN | apply below_drew1) | exact HB.out)) hb); clear HB; have HO177 := n0_; have HB := n1_; clear n0_ n1_; (try clear hb); (try clear hb2); (try clear hk); (try clear hi); (try clear ho0)) | ((with_reducible refine gate_callee (f := 22) rfl ?_); refine goesL_ (some 31) rfl rfl Try.func22 (by kernel_rfl) rfl #[.slice A2 l2.length c2, .int .i64 t174, .int .i64 1073741824] rfl (by (try simp only [List.map_toArray, List.map_cons, List.map_nil]); first | done | rfl | (simp only [List.length_drop, List.length_take]; rfl)) ?_; (with_reducible refine (omnibuslaw10_devs.calls k _ _ l2 t174 1073741824 t178 _ ?side1 ?side2 A8.out).mono ?_); (case side1 => repeat (first | exact (Kd.C_below HR2.out HB.out) | (with_reducible refine Kd.C_alloc ?_ _) | (with_reducible refine Kd.C_drewN ?_ _) | (with_reducible refine Kd.C_drew ?_))); (case side2 => exact HC2.out); rintro e w25 ⟨v179, rfl, ho0, hb⟩; refine ⟨_, rfl, ?_⟩; have n0_ := Aside0.mk (Kd.R_elder' (by (with_reducible repeat (first | apply Kd.R_alloc | apply Kd.R_drewN | apply Kd.R_drew)); exact HO177.out) (Kd.R_base ho0) hb); have n1_ := Aside0.mk (Kd.R_lower (Kd.R_new' ho0 (Kd.R_lt (by (with_reducible repeat (first | apply Kd.R_alloc | apply Kd.R_drewN | apply Kd.R_drew)); exact HO177.out))) (below_size (by repeat (first | (with_reducible first | exact HB.out | apply below_alloc | apply pw_below_drewN | apply below_drew1) | exact HB.out)))); have n2_ := Aside0.mk (below_step (by repeat (first | (with_reducible first | exact HB.out | apply below_alloc | apply pw_below_drewN | apply below_drew1) | exact HB.out)) hb); clear HO177; clear HB; have HO177 := n0_; have HO180 := n1_; have HB := n2_; clear n0_ n1_ n2_; (try clear hb); (try clear hb2); (try clear hk); (try clear hi); (try clear ho0); obtain ⟨Ao26, co26, eo26⟩ := Kd.R_slice HO177.out; subst eo26; obtain ⟨Ao27, co27, eo27⟩ := Kd.R_slice HO180.out; subst eo27) | ((with_reducible refine gate_builtin (b := .append) (xs := #[.const (.slice none 0 0), .tmp 42]) rfl ?_); (try (refine gate_guard (by rfl) ?_; dsimp only)); at_builtin; refine Kd.R_append_rows (Kd.int .i64) (w0 := w) w.heap.size rfl (.const (.slice none 0 0)) (.tmp 42) 22 3 (.int .i64 0) 8 rfl Try.underlying22 info3 rfl (by decide) (by omega) (.slice none 0 0) ([] : List Int) t175 _ _ _ (fun k_ => some k_ ≠ (.slice Ao26 t175.length co26 : Value).ownBlock ∧ some k_ ≠ (.slice Ao27 t178.length co27 : Value).ownBlock) (fun _ => False) rfl rfl ?aO ?aR (fun _ _ h => h) (fun _ h => h.elim) ?aF ?aB ?aS ?aL ?_; (case aR => repeat (first | exact (Kd.R_reads' HO177.out).2.2 | (with_reducible refine Kd.C_alloc ?_ _) | (with_reducible refine Kd.C_drewN ?_ _) | (with_reducible refine Kd.C_drew ?_))); (case aB => exact (by repeat (first | (with_reducible first | exact HB.out | apply below_alloc | apply pw_below_drewN | apply below_drew1) | exact HB.out))); (case aF => exact (fun k_ hk => ⟨Kd.fresh' (Kd.R_lt (by (with_reducible repeat (first | apply Kd.R_alloc | apply Kd.R_drewN | apply Kd.R_drew)); exact HO177.out)) k_ hk, Kd.fresh' (Kd.R_lt (by (with_reducible repeat (first | apply Kd.R_alloc | apply Kd.R_drewN | apply Kd.R_drew)); exact HO180.out)) k_ hk⟩)); (case aO => exact ((Kd.R_nil _ _ _ _ (fun k_ => some k_ ≠ (.slice Ao26 t175.length co26 : Value).ownBlock ∧ some k_ ≠ (.slice Ao27 t178.length co27 : Value).ownBlock)))); (case aS => exact (below_size (by repeat (first | (with_reducible first | exact HB.out | apply below_alloc | apply pw_below_drewN | apply below_drew1) | exact HB.out)))); (case aL => have := LMc10.out; omega); intro v182 w28 ho hb hg hat; rw [← Ny181.out] at ho; have n0_ := Aside0.mk (Kd.R_after (Kd.R_apart_nil (by (with_reducible repeat (first | apply Kd.R_alloc | apply Kd.R_drewN | apply Kd.R_drew)); exact HO177.out)) hg hat); have n1_ := Aside0.mk (Kd.R_after (Kd.R_apart_nil (by (with_reducible repeat (first | apply Kd.R_alloc | apply Kd.R_drewN | apply Kd.R_drew)); exact HO180.out)) hg hat); have n2_ := Aside0.mk (hb); have n3_ := Aside0.mk (ho); clear HO177; clear HO180; clear HB; have HO177 := n0_; have HO180 := n1_; have HB := n2_; have HO183 := n3_; clear n0_ n1_ n2_ n3_; clear ho hb hg hat) | ((with_reducible refine gate_builtin (b := .append) (xs := #[.tmp 43, .tmp 44]) rfl ?_); (try (refine gate_guard (by rfl) ?_; dsimp only)); at_builtin; refine Kd.R_append_rows (Kd.int .i64) (w0 := w) w.heap.size rfl (.tmp 43) (.tmp 44) 22 3 (.int .i64 0) 8 rfl Try.underlying22 info3 rfl (by decide) (by omega) v182 y181 t178 _ _ _ (fun k_ => some k_ ≠ (.slice Ao26 t175.length co26 : Value).ownBlock ∧ some k_ ≠ (.slice Ao27 t178.length co27 : Value).ownBlock) (fun _ => False) rfl rfl ?aO ?aR (fun _ _ h => h) (fun _ h => h.elim) ?aF ?aB ?aS ?aL ?_; (case aR => repeat (first | exact (Kd.R_reads' HO180.out).2.2 | (with_reducible refine Kd.C_alloc ?_ _) | (with_reducible refine Kd.C_drewN ?_ _) | (with_reducible refine Kd.C_drew ?_))); (case aB => exact (by repeat (first | (with_reducible first | exact HB.out | apply below_alloc | apply pw_below_drewN | apply below_drew1) | exact HB.out))); (case aF => exact (fun k_ hk => ⟨Kd.fresh' (Kd.R_lt (by (with_reducible repeat (first | apply Kd.R_alloc | apply Kd.R_drewN | apply Kd.R_drew)); exact HO177.out)) k_ hk, Kd.fresh' (Kd.R_lt (by (with_reducible repeat (first | apply Kd.R_alloc | apply Kd.R_drewN | apply Kd.R_drew)); exact HO180.out)) k_ hk⟩)); (case aO => exact (by (with_reducible repeat (first | apply Kd.R_alloc | apply Kd.R_drewN | apply Kd.R_drew)); exact HO183.out)); (case aS => exact (below_size (by repeat (first | (with_reducible first | exact HB.out | apply below_alloc | apply pw_below_drewN | apply below_drew1) | exact HB.out)))); (case aL => have := LMc11.out; omega); intro v185 w29 ho hb hg hat; rw [← Ny184.out] at ho; have n0_ := Aside0.mk (Kd.R_after (ok := (fun k_ => some k_ ≠ (.slice Ao27 t178.length co27 : Value).ownBlock)) (by (with_reducible repeat (first | apply Kd.R_alloc | apply Kd.R_drewN | apply Kd.R_drew)); exact Kd.R_mono HO177.out (fun _ hk => ⟨hk.1.2, hk.2⟩)) hg hat); have n1_ := Aside0.mk (Kd.R_after (ok := (fun k_ => some k_ ≠ (.slice Ao26 t175.length co26 : Value).ownBlock)) (by (with_reducible repeat (first | apply Kd.R_alloc | apply Kd.R_drewN | apply Kd.R_drew)); exact Kd.R_mono HO180.out (fun _ hk => ⟨hk.1.2, hk.2⟩)) hg hat); have n2_ := Aside0.mk (hb); have n3_ := Aside0.mk (ho); clear HO177; clear HO180; clear HB; clear HO183; have HO177 := n0_; have HO180 := n1_; have HB := n2_; have HO186 := n3_; clear n0_ n1_ n2_ n3_; clear ho hb hg hat; obtain ⟨Ao30, co30, eo30⟩ := Kd.R_slice HO186.out; subst eo30) | ((with_reducible refine gate_callee (f := 16) rfl ?_); refine goesL_ (some 46) rfl rfl Try.func16 (by kernel_rfl) rfl #[.int .i64 t174, .slice Ao30 y184.length co30] rfl (by (try simp only [List.map_toArray, List.map_cons, List.map_nil]); first | done | rfl | (simp only [List.length_drop, List.length_take]; rfl)) ?_; (with_reducible refine (clock_Middle.calls k t174 _ _ y184 t187 t188 _ ?side1 ?side2 A12.out).mono ?_); (case side1 => repeat (first | exact (Kd.R_reads' HO186.out).2.2 | (with_reducible refine Kd.C_alloc ?_ _) | (with_reducible refine Kd.C_drewN ?_ _) | (with_reducible refine Kd.C_drew ?_))); (case side2 => exact (Kd.R_reads' HO186.out).2.1); rintro e w31 ⟨rfl, hb⟩; refine ⟨_, rfl, ?_⟩; have n0_ := Aside0.mk (Kd.R_below (by (with_reducible repeat (first | apply Kd.R_alloc | apply Kd.R_drewN | apply Kd.R_drew)); exact HO177.out) hb); have n1_ := Aside0.mk (Kd.R_below (by (with_reducible repeat (first | apply Kd.R_alloc | apply Kd.R_drewN | apply Kd.R_drew)); exact HO180.out) hb); have n2_ := Aside0.mk (Kd.R_below (by (with_reducible repeat (first | apply Kd.R_alloc | apply Kd.R_drewN | apply Kd.R_drew)); exact HO186.out) hb); have n3_ := Aside0.mk (below_step (by repeat (first | (with_reducible first | exact HB.out | apply below_alloc | apply pw_below_drewN | apply below_drew1) | exact HB.out)) hb); clear HO177; clear HO180; clear HO186; clear HB; have HO177 := n0_; have HO180 := n1_; have HO186 := n2_; have HB := n3_; clear n0_ n1_ n2_ n3_; (try clear hb); (try clear hb2); (try clear hk); (try clear hi)))
          go_ret
          exact ⟨by first | rfl | (simp [errW_none, errW_some] <;> rfl) | (simp [*, errW_none, errW_some] <;> rfl), by repeat (first | (with_reducible first | exact HB.out | apply below_alloc | apply pw_below_drewN | apply below_drew1) | exact HB.out)⟩
      · rw [if_neg c11] at H
        exact absurd H (by simp)
    · rw [if_neg c10] at H
      exact absurd H (by simp)
  · rw [if_neg c9] at H
    have c9b0 : decide ((wrap64 ((t175.length : Int) + (t178.length : Int))) ≤ (wrap64 (2 * t174))) = false := decide_eq_false c9
    clear c9
    by_cases c32 : ([] : List Int).length + t175.length < 17592186044416
    · rw [if_pos c32] at H
      have LMc32 := Aside0.mk c32
      clear c32
      obtain ⟨y189, hy189⟩ : ∃ y_ : List Int, y_ = (([] : List Int) ++ t175) := ⟨_, rfl⟩
      replace H : (if y189.length + t178.length < 17592186044416 then ((some (y189 ++ t178 : List Int)).bind fun y192 => ((omnibuslaw10_pick.f a3 (wrap64 ((y192.length : Int) + 1))).bind fun t195 => ((clock_Middle.f k t174 y192).bind fun bt196 => (if 0 ≤ t195 then (if t195 ≤ (y192.length : Int) then ((some (y192.drop (t195 : Int).toNat : List Int)).bind fun y198 => (if ([] : List Int).length + y198.length < 17592186044416 then ((some (([] : List Int) ++ y198 : List Int)).bind fun y202 => ((some (y192.take (t195 : Int).toNat : List Int)).bind fun y205 => (if y202.length + y205.length < 17592186044416 then ((clock_Middle.f k t174 (y202 ++ y205)).bind fun bt212 => (if bt196.2 = 0 then (if bt212.2 = 0 then (if bt212.1 = bt196.1 then (omnibuslaw10_ClockMiddles.j0 k t173 t175 bt196.1 ((t175.length : Int) == 0)) else (omnibuslaw10_ClockMiddles.j0 k t173 t175 bt196.1 true)) else (omnibuslaw10_ClockMiddles.j0 k t173 t175 bt196.1 true)) else (omnibuslaw10_ClockMiddles.j0 k t173 t175 bt196.1 true))) else (none)))) else (none))) else (none)) else (none))))) else (none)) = some r := by first | (rw [hy189]; with_reducible exact H) | (have H2_ := (Option.bind_some _ _).symm.trans H; rw [hy189]; with_reducible exact H2_) | (have H2_ := (Option.bind_some _ _).symm.trans H; with_reducible exact H2_) | with_reducible exact H | (rw [hy189]; exact H) | exact H
      have Ny189 := Aside0.mk hy189
      clear hy189
      by_cases c33 : y189.length + t178.length < 17592186044416
      · rw [if_pos c33] at H
        have LMc33 := Aside0.mk c33
        clear c33
        obtain ⟨y192, hy192⟩ : ∃ y_ : List Int, y_ = (y189 ++ t178) := ⟨_, rfl⟩
        replace H : ((omnibuslaw10_pick.f a3 (wrap64 ((y192.length : Int) + 1))).bind fun t195 => ((clock_Middle.f k t174 y192).bind fun bt196 => (if 0 ≤ t195 then (if t195 ≤ (y192.length : Int) then ((some (y192.drop (t195 : Int).toNat : List Int)).bind fun y198 => (if ([] : List Int).length + y198.length < 17592186044416 then ((some (([] : List Int) ++ y198 : List Int)).bind fun y202 => ((some (y192.take (t195 : Int).toNat : List Int)).bind fun y205 => (if y202.length + y205.length < 17592186044416 then ((clock_Middle.f k t174 (y202 ++ y205)).bind fun bt212 => (if bt196.2 = 0 then (if bt212.2 = 0 then (if bt212.1 = bt196.1 then (omnibuslaw10_ClockMiddles.j0 k t173 t175 bt196.1 ((t175.length : Int) == 0)) else (omnibuslaw10_ClockMiddles.j0 k t173 t175 bt196.1 true)) else (omnibuslaw10_ClockMiddles.j0 k t173 t175 bt196.1 true)) else (omnibuslaw10_ClockMiddles.j0 k t173 t175 bt196.1 true))) else (none)))) else (none))) else (none)) else (none)))) = some r := by first | (rw [hy192]; with_reducible exact H) | (have H2_ := (Option.bind_some _ _).symm.trans H; rw [hy192]; with_reducible exact H2_) | (have H2_ := (Option.bind_some _ _).symm.trans H; with_reducible exact H2_) | with_reducible exact H | (rw [hy192]; exact H) | exact H
        have Ny192 := Aside0.mk hy192
        clear hy192
        replace H := Option.bind_eq_some_iff.mp H
        obtain ⟨t195, A340, H⟩ := H
        replace H : ((clock_Middle.f k t174 y192).bind fun bt196 => (if 0 ≤ t195 then (if t195 ≤ (y192.length : Int) then ((some (y192.drop (t195 : Int).toNat : List Int)).bind fun y198 => (if ([] : List Int).length + y198.length < 17592186044416 then ((some (([] : List Int) ++ y198 : List Int)).bind fun y202 => ((some (y192.take (t195 : Int).toNat : List Int)).bind fun y205 => (if y202.length + y205.length < 17592186044416 then ((clock_Middle.f k t174 (y202 ++ y205)).bind fun bt212 => (if bt196.2 = 0 then (if bt212.2 = 0 then (if bt212.1 = bt196.1 then (omnibuslaw10_ClockMiddles.j0 k t173 t175 bt196.1 ((t175.length : Int) == 0)) else (omnibuslaw10_ClockMiddles.j0 k t173 t175 bt196.1 true)) else (omnibuslaw10_ClockMiddles.j0 k t173 t175 bt196.1 true)) else (omnibuslaw10_ClockMiddles.j0 k t173 t175 bt196.1 true))) else (none)))) else (none))) else (none)) else (none))) = some r := H
        have A34 := Aside0.mk A340
        clear A340
        replace H := Option.bind_eq_some_iff.mp H
        obtain ⟨⟨t196, t197⟩, A350, H⟩ := H
        replace H : (if 0 ≤ t195 then (if t195 ≤ (y192.length : Int) then ((some (y192.drop (t195 : Int).toNat : List Int)).bind fun y198 => (if ([] : List Int).length + y198.length < 17592186044416 then ((some (([] : List Int) ++ y198 : List Int)).bind fun y202 => ((some (y192.take (t195 : Int).toNat : List Int)).bind fun y205 => (if y202.length + y205.length < 17592186044416 then ((clock_Middle.f k t174 (y202 ++ y205)).bind fun bt212 => (if t197 = 0 then (if bt212.2 = 0 then (if bt212.1 = t196 then (omnibuslaw10_ClockMiddles.j0 k t173 t175 t196 ((t175.length : Int) == 0)) else (omnibuslaw10_ClockMiddles.j0 k t173 t175 t196 true)) else (omnibuslaw10_ClockMiddles.j0 k t173 t175 t196 true)) else (omnibuslaw10_ClockMiddles.j0 k t173 t175 t196 true))) else (none)))) else (none))) else (none)) else (none)) = some r := H
        have A35 := Aside0.mk A350
        clear A350
        by_cases c36 : 0 ≤ t195
        · rw [if_pos c36] at H
          have c36b0 := eq_true c36
          have c36b1 : decide (0 ≤ t195) = true := decide_eq_true c36
          clear c36
          by_cases c37 : t195 ≤ (y192.length : Int)
          · rw [if_pos c37] at H
            have c37b0 := eq_true c37
            have c37b1 : decide (t195 ≤ (y192.length : Int)) = true := decide_eq_true c37
            clear c37
            obtain ⟨y198, hy198⟩ : ∃ y_ : List Int, y_ = (y192.drop (t195 : Int).toNat) := ⟨_, rfl⟩
            replace H : (if ([] : List Int).length + y198.length < 17592186044416 then ((some (([] : List Int) ++ y198 : List Int)).bind fun y202 => ((some (y192.take (t195 : Int).toNat : List Int)).bind fun y205 => (if y202.length + y205.length < 17592186044416 then ((clock_Middle.f k t174 (y202 ++ y205)).bind fun bt212 => (if t197 = 0 then (if bt212.2 = 0 then (if bt212.1 = t196 then (omnibuslaw10_ClockMiddles.j0 k t173 t175 t196 ((t175.length : Int) == 0)) else (omnibuslaw10_ClockMiddles.j0 k t173 t175 t196 true)) else (omnibuslaw10_ClockMiddles.j0 k t173 t175 t196 true)) else (omnibuslaw10_ClockMiddles.j0 k t173 t175 t196 true))) else (none)))) else (none)) = some r := by first | (rw [hy198]; with_reducible exact H) | (have H2_ := (Option.bind_some _ _).symm.trans H; rw [hy198]; with_reducible exact H2_) | (have H2_ := (Option.bind_some _ _).symm.trans H; with_reducible exact H2_) | with_reducible exact H | (rw [hy198]; exact H) | exact H
            have Ny198 := Aside0.mk hy198
            clear hy198
            by_cases c38 : ([] : List Int).length + y198.length < 17592186044416
            · rw [if_pos c38] at H
              have LMc38 := Aside0.mk c38
              clear c38
              obtain ⟨y202, hy202⟩ : ∃ y_ : List Int, y_ = (([] : List Int) ++ y198) := ⟨_, rfl⟩
              replace H : ((some (y192.take (t195 : Int).toNat : List Int)).bind fun y205 => (if y202.length + y205.length < 17592186044416 then ((clock_Middle.f k t174 (y202 ++ y205)).bind fun bt212 => (if t197 = 0 then (if bt212.2 = 0 then (if bt212.1 = t196 then (omnibuslaw10_ClockMiddles.j0 k t173 t175 t196 ((t175.length : Int) == 0)) else (omnibuslaw10_ClockMiddles.j0 k t173 t175 t196 true)) else (omnibuslaw10_ClockMiddles.j0 k t173 t175 t196 true)) else (omnibuslaw10_ClockMiddles.j0 k t173 t175 t196 true))) else (none))) = some r := by first | (rw [hy202]; with_reducible exact H) | (have H2_ := (Option.bind_some _ _).symm.trans H; rw [hy202]; with_reducible exact H2_) | (have H2_ := (Option.bind_some _ _).symm.trans H; with_reducible exact H2_) | with_reducible exact H | (rw [hy202]; exact H) | exact H
              have Ny202 := Aside0.mk hy202
              clear hy202
              have c39b0 := eq_true (of_decide_eq_true (by first | (with_reducible assumption) | assumption) : 0 ≤ t195)
              have c40b0 := eq_true (of_decide_eq_true (by first | (with_reducible assumption) | assumption) : t195 ≤ (y192.length : Int))
              obtain ⟨y205, hy205⟩ : ∃ y_ : List Int, y_ = (y192.take (t195 : Int).toNat) := ⟨_, rfl⟩
              replace H : (if y202.length + y205.length < 17592186044416 then ((clock_Middle.f k t174 (y202 ++ y205)).bind fun bt212 => (if t197 = 0 then (if bt212.2 = 0 then (if bt212.1 = t196 then (omnibuslaw10_ClockMiddles.j0 k t173 t175 t196 ((t175.length : Int) == 0)) else (omnibuslaw10_ClockMiddles.j0 k t173 t175 t196 true)) else (omnibuslaw10_ClockMiddles.j0 k t173 t175 t196 true)) else (omnibuslaw10_ClockMiddles.j0 k t173 t175 t196 true))) else (none)) = some r := by first | (rw [hy205]; with_reducible exact H) | (have H2_ := (Option.bind_some _ _).symm.trans H; rw [hy205]; with_reducible exact H2_) | (have H2_ := (Option.bind_some _ _).symm.trans H; with_reducible exact H2_) | with_reducible exact H | (rw [hy205]; exact H) | exact H
              have Ny205 := Aside0.mk hy205
              clear hy205
              by_cases c41 : y202.length + y205.length < 17592186044416
              · rw [if_pos c41] at H
                have LMc41 := Aside0.mk c41
                clear c41
                obtain ⟨y209, hy209⟩ : ∃ y_ : List Int, y_ = (y202 ++ y205) := ⟨_, rfl⟩
                replace H : ((clock_Middle.f k t174 y209).bind fun bt212 => (if t197 = 0 then (if bt212.2 = 0 then (if bt212.1 = t196 then (omnibuslaw10_ClockMiddles.j0 k t173 t175 t196 ((t175.length : Int) == 0)) else (omnibuslaw10_ClockMiddles.j0 k t173 t175 t196 true)) else (omnibuslaw10_ClockMiddles.j0 k t173 t175 t196 true)) else (omnibuslaw10_ClockMiddles.j0 k t173 t175 t196 true))) = some r := by first | (rw [hy209]; with_reducible exact H) | (have H2_ := (Option.bind_some _ _).symm.trans H; rw [hy209]; with_reducible exact H2_) | (have H2_ := (Option.bind_some _ _).symm.trans H; with_reducible exact H2_) | with_reducible exact H | (rw [hy209]; exact H) | exact H
                have Ny209 := Aside0.mk hy209
                clear hy209
                replace H := Option.bind_eq_some_iff.mp H
                obtain ⟨⟨t212, t213⟩, A420, H⟩ := H
                replace H : (if t197 = 0 then (if t213 = 0 then (if t212 = t196 then (omnibuslaw10_ClockMiddles.j0 k t173 t175 t196 ((t175.length : Int) == 0)) else (omnibuslaw10_ClockMiddles.j0 k t173 t175 t196 true)) else (omnibuslaw10_ClockMiddles.j0 k t173 t175 t196 true)) else (omnibuslaw10_ClockMiddles.j0 k t173 t175 t196 true)) = some r := H
                have A42 := Aside0.mk A420
                clear A420
                have HC43 := Aside0.mk H
                clear H
                go_enter Try.func4, Try.ntmps4
                try go_wp2_with (first | ((with_reducible refine gate_callee (f := 10) rfl ?_); refine goesL_ (some 24) rfl rfl Try.func10 (by kernel_rfl) rfl #[] rfl (by (try simp only [List.map_toArray, List.map_cons, List.map_nil]); first | done | rfl | (simp only [List.length_drop, List.length_take]; rfl)) ?_; (with_reducible refine (omnibuslaw10_awake.calls k  t173 _ A5.out).mono ?_); rintro e w44 ⟨rfl, hb⟩; refine ⟨_, rfl, ?_⟩; have n0_ := Aside0.mk (below_step (by repeat (first | (with_reducible first | exact HB.out | apply below_alloc | apply pw_below_drewN | apply below_drew1) | exact HB.out)) hb); clear HB; have HB := n0_; clear n0_; (try clear hb); (try clear hb2); (try clear hk); (try clear hi)) | ((with_reducible refine gate_callee (f := 11) rfl ?_); refine goesL_ (some 26) rfl rfl Try.func11 (by kernel_rfl) rfl #[.int .i64 a0, .int .i64 8] rfl (by (try simp only [List.map_toArray, List.map_cons, List.map_nil]); first | done | rfl | (simp only [List.length_drop, List.length_take]; rfl)) ?_; (with_reducible refine (omnibuslaw10_pick.calls a0 8 t174 _ A6.out).mono ?_); rintro e w' ⟨rfl, ⟨nd, rfl⟩⟩; refine ⟨_, rfl, ?_⟩) | ((with_reducible refine gate_callee (f := 22) rfl ?_); refine goesL_ (some 28) rfl rfl Try.func22 (by kernel_rfl) rfl #[.slice A1 l1.length c1, .int .i64 20, .int .i64 1000] rfl (by (try simp only [List.map_toArray, List.map_cons, List.map_nil]); first | done | rfl | (simp only [List.length_drop, List.length_take]; rfl)) ?_; (with_reducible refine (omnibuslaw10_devs.calls k _ _ l1 20 1000 t175 _ ?side1 ?side2 A7.out).mono ?_); (case side1 => repeat (first | exact (Kd.C_below HR1.out (by repeat (first | (with_reducible first | exact HB.out | apply below_alloc | apply pw_below_drewN | apply below_drew1) | exact HB.out))) | (with_reducible refine Kd.C_alloc ?_ _) | (with_reducible refine Kd.C_drewN ?_ _) | (with_reducible refine Kd.C_drew ?_))); (case side2 => exact HC1.out); rintro e w45 ⟨v176, rfl, ho0, hb⟩; refine ⟨_, rfl, ?_⟩; have n0_ := Aside0.mk (Kd.R_lower ho0 (below_size (by repeat (first | (with_reducible first | exact HB.out | apply below_alloc | apply pw_below_drewN | apply below_drew1) | exact HB.out)))); have n1_ := Aside0.mk (below_step (by repeat (first | (with_reducible first | exact HB.out | apply below_alloc | apply pw_below_drewN | apply below_drew1) | exact HB.out)) hb); clear HB; have HO177 := n0_; have HB := n1_; clear n0_ n1_; (try clear hb); (try clear hb2); (try clear hk); (try clear hi); (try clear ho0)) | ((with_reducible refine gate_callee (f := 22) rfl ?_); refine goesL_ (some 31) rfl rfl Try.func22 (by kernel_rfl) rfl #[.slice A2 l2.length c2, .int .i64 t174, .int .i64 1073741824] rfl (by (try simp only [List.map_toArray, List.map_cons, List.map_nil]); first | done | rfl | (simp only [List.length_drop, List.length_take]; rfl)) ?_; (with_reducible refine (omnibuslaw10_devs.calls k _ _ l2 t174 1073741824 t178 _ ?side1 ?side2 A8.out).mono ?_); (case side1 => repeat (first | exact (Kd.C_below HR2.out HB.out) | (with_reducible refine Kd.C_alloc ?_ _) | (with_reducible refine Kd.C_drewN ?_ _) | (with_reducible refine Kd.C_drew ?_))); (case side2 => exact HC2.out); rintro e w46 ⟨v179, rfl, ho0, hb⟩; refine ⟨_, rfl, ?_⟩; have n0_ := Aside0.mk (Kd.R_elder' (by (with_reducible repeat (first | apply Kd.R_alloc | apply Kd.R_drewN | apply Kd.R_drew)); exact HO177.out) (Kd.R_base ho0) hb); have n1_ := Aside0.mk (Kd.R_lower (Kd.R_new' ho0 (Kd.R_lt (by (with_reducible repeat (first | apply Kd.R_alloc | apply Kd.R_drewN | apply Kd.R_drew)); exact HO177.out))) (below_size (by repeat (first | (with_reducible first | exact HB.out | apply below_alloc | apply pw_below_drewN | apply below_drew1) | exact HB.out)))); have n2_ := Aside0.mk (below_step (by repeat (first | (with_reducible first | exact HB.out | apply below_alloc | apply pw_below_drewN | apply below_drew1) | exact HB.out)) hb); clear HO177; clear HB; have HO177 := n0_; have HO180 := n1_; have HB := n2_; clear n0_ n1_ n2_; (try clear hb); (try clear hb2); (try clear hk); (try clear hi); (try clear ho0); obtain ⟨Ao47, co47, eo47⟩ := Kd.R_slice HO177.out; subst eo47; obtain ⟨Ao48, co48, eo48⟩ := Kd.R_slice HO180.out; subst eo48) | ((with_reducible refine gate_builtin (b := .append) (xs := #[.const (.slice none 0 0), .tmp 54]) rfl ?_); (try (refine gate_guard (by rfl) ?_; dsimp only)); at_builtin; refine Kd.R_append_rows (Kd.int .i64) (w0 := w) w.heap.size rfl (.const (.slice none 0 0)) (.tmp 54) 22 3 (.int .i64 0) 8 rfl Try.underlying22 info3 rfl (by decide) (by omega) (.slice none 0 0) ([] : List Int) t175 _ _ _ (fun k_ => some k_ ≠ (.slice Ao47 t175.length co47 : Value).ownBlock ∧ some k_ ≠ (.slice Ao48 t178.length co48 : Value).ownBlock) (fun _ => False) rfl rfl ?aO ?aR (fun _ _ h => h) (fun _ h => h.elim) ?aF ?aB ?aS ?aL ?_; (case aR => repeat (first | exact (Kd.R_reads' HO177.out).2.2 | (with_reducible refine Kd.C_alloc ?_ _) | (with_reducible refine Kd.C_drewN ?_ _) | (with_reducible refine Kd.C_drew ?_))); (case aB => exact (by repeat (first | (with_reducible first | exact HB.out | apply below_alloc | apply pw_below_drewN | apply below_drew1) | exact HB.out))); (case aF => exact (fun k_ hk => ⟨Kd.fresh' (Kd.R_lt (by (with_reducible repeat (first | apply Kd.R_alloc | apply Kd.R_drewN | apply Kd.R_drew)); exact HO177.out)) k_ hk, Kd.fresh' (Kd.R_lt (by (with_reducible repeat (first | apply Kd.R_alloc | apply Kd.R_drewN | apply Kd.R_drew)); exact HO180.out)) k_ hk⟩)); (case aO => exact ((Kd.R_nil _ _ _ _ (fun k_ => some k_ ≠ (.slice Ao47 t175.length co47 : Value).ownBlock ∧ some k_ ≠ (.slice Ao48 t178.length co48 : Value).ownBlock)))); (case aS => exact (below_size (by repeat (first | (with_reducible first | exact HB.out | apply below_alloc | apply pw_below_drewN | apply below_drew1) | exact HB.out)))); (case aL => have := LMc32.out; omega); intro v190 w49 ho hb hg hat; rw [← Ny189.out] at ho; have n0_ := Aside0.mk (Kd.R_after (Kd.R_apart_nil (by (with_reducible repeat (first | apply Kd.R_alloc | apply Kd.R_drewN | apply Kd.R_drew)); exact HO177.out)) hg hat); have n1_ := Aside0.mk (Kd.R_after (Kd.R_apart_nil (by (with_reducible repeat (first | apply Kd.R_alloc | apply Kd.R_drewN | apply Kd.R_drew)); exact HO180.out)) hg hat); have n2_ := Aside0.mk (hb); have n3_ := Aside0.mk (ho); clear HO177; clear HO180; clear HB; have HO177 := n0_; have HO180 := n1_; have HB := n2_; have HO191 := n3_; clear n0_ n1_ n2_ n3_; clear ho hb hg hat) | ((with_reducible refine gate_builtin (b := .append) (xs := #[.tmp 55, .tmp 56]) rfl ?_); (try (refine gate_guard (by rfl) ?_; dsimp only)); at_builtin; refine Kd.R_append_rows (Kd.int .i64) (w0 := w) w.heap.size rfl (.tmp 55) (.tmp 56) 22 3 (.int .i64 0) 8 rfl Try.underlying22 info3 rfl (by decide) (by omega) v190 y189 t178 _ _ _ (fun k_ => some k_ ≠ (.slice Ao47 t175.length co47 : Value).ownBlock ∧ some k_ ≠ (.slice Ao48 t178.length co48 : Value).ownBlock) (fun _ => False) rfl rfl ?aO ?aR (fun _ _ h => h) (fun _ h => h.elim) ?aF ?aB ?aS ?aL ?_; (case aR => repeat (first | exact (Kd.R_reads' HO180.out).2.2 | (with_reducible refine Kd.C_alloc ?_ _) | (with_reducible refine Kd.C_drewN ?_ _) | (with_reducible refine Kd.C_drew ?_))); (case aB => exact (by repeat (first | (with_reducible first | exact HB.out | apply below_alloc | apply pw_below_drewN | apply below_drew1) | exact HB.out))); (case aF => exact (fun k_ hk => ⟨Kd.fresh' (Kd.R_lt (by (with_reducible repeat (first | apply Kd.R_alloc | apply Kd.R_drewN | apply Kd.R_drew)); exact HO177.out)) k_ hk, Kd.fresh' (Kd.R_lt (by (with_reducible repeat (first | apply Kd.R_alloc | apply Kd.R_drewN | apply Kd.R_drew)); exact HO180.out)) k_ hk⟩)); (case aO => exact (by (with_reducible repeat (first | apply Kd.R_alloc | apply Kd.R_drewN | apply Kd.R_drew)); exact HO191.out)); (case aS => exact (below_size (by repeat (first | (with_reducible first | exact HB.out | apply below_alloc | apply pw_below_drewN | apply below_drew1) | exact HB.out)))); (case aL => have := LMc33.out; omega); intro v193 w50 ho hb hg hat; rw [← Ny192.out] at ho; have n0_ := Aside0.mk (Kd.R_after (ok := (fun k_ => some k_ ≠ (.slice Ao48 t178.length co48 : Value).ownBlock)) (by (with_reducible repeat (first | apply Kd.R_alloc | apply Kd.R_drewN | apply Kd.R_drew)); exact Kd.R_mono HO177.out (fun _ hk => ⟨hk.1.2, hk.2⟩)) hg hat); have n1_ := Aside0.mk (Kd.R_after (ok := (fun k_ => some k_ ≠ (.slice Ao47 t175.length co47 : Value).ownBlock)) (by (with_reducible repeat (first | apply Kd.R_alloc | apply Kd.R_drewN | apply Kd.R_drew)); exact Kd.R_mono HO180.out (fun _ hk => ⟨hk.1.2, hk.2⟩)) hg hat); have n2_ := Aside0.mk (hb); have n3_ := Aside0.mk (ho); clear HO177; clear HO180; clear HB; clear HO191; have HO177 := n0_; have HO180 := n1_; have HB := n2_; have HO194 := n3_; clear n0_ n1_ n2_ n3_; clear ho hb hg hat; obtain ⟨Ao51, co51, eo51⟩ := Kd.R_slice HO194.out; subst eo51) | ((with_reducible refine gate_callee (f := 11) rfl ?_); refine goesL_ (some 62) rfl rfl Try.func11 (by kernel_rfl) rfl #[.int .i64 a3, .int .i64 (wrap64 ((y192.length : Int) + 1))] rfl (by (try simp only [List.map_toArray, List.map_cons, List.map_nil]); first | done | rfl | (simp only [List.length_drop, List.length_take]; rfl)) ?_; (with_reducible refine (omnibuslaw10_pick.calls a3 (wrap64 ((y192.length : Int) + 1)) t195 _ A34.out).mono ?_); rintro e w' ⟨rfl, ⟨nd, rfl⟩⟩; refine ⟨_, rfl, ?_⟩) | ((with_reducible refine gate_callee (f := 16) rfl ?_); refine goesL_ (some 66) rfl rfl Try.func16 (by kernel_rfl) rfl #[.int .i64 t174, .slice Ao51 y192.length co51] rfl (by (try simp only [List.map_toArray, List.map_cons, List.map_nil]); first | done | rfl | (simp only [List.length_drop, List.length_take]; rfl)) ?_; (with_reducible refine (clock_Middle.calls k t174 _ _ y192 t196 t197 _ ?side1 ?side2 A35.out).mono ?_); (case side1 => repeat (first | exact (Kd.R_reads' HO194.out).2.2 | (with_reducible refine Kd.C_alloc ?_ _) | (with_reducible refine Kd.C_drewN ?_ _) | (with_reducible refine Kd.C_drew ?_))); (case side2 => exact (Kd.R_reads' HO194.out).2.1); rintro e w52 ⟨rfl, hb⟩; refine ⟨_, rfl, ?_⟩; have n0_ := Aside0.mk (Kd.R_below (by (with_reducible repeat (first | apply Kd.R_alloc | apply Kd.R_drewN | apply Kd.R_drew)); exact HO177.out) hb); have n1_ := Aside0.mk (Kd.R_below (by (with_reducible repeat (first | apply Kd.R_alloc | apply Kd.R_drewN | apply Kd.R_drew)); exact HO180.out) hb); have n2_ := Aside0.mk (Kd.R_below (by (with_reducible repeat (first | apply Kd.R_alloc | apply Kd.R_drewN | apply Kd.R_drew)); exact HO194.out) hb); have n3_ := Aside0.mk (below_step (by repeat (first | (with_reducible first | exact HB.out | apply below_alloc | apply pw_below_drewN | apply below_drew1) | exact HB.out)) hb); clear HO177; clear HO180; clear HO194; clear HB; have HO177 := n0_; have HO180 := n1_; have HO194 := n2_; have HB := n3_; clear n0_ n1_ n2_ n3_; (try clear hb); (try clear hb2); (try clear hk); (try clear hi)))
                have n0_ := Aside0.mk (Kd.R_drew HO177.out)
                have n1_ := Aside0.mk (Kd.R_drew HO180.out)
                have n2_ := Aside0.mk (Kd.R_drew HO194.out)
                have n3_ := Aside0.mk (below_drew1 HB.out)
                clear HO177
                clear HO180
                clear HO194
                clear HB
                have HO177 := n0_
                have HO180 := n1_
                have HO194 := n2_
                have HB := n3_
                clear n0_ n1_ n2_ n3_
                have q54 : (t195 : Int) ≤ ((y192.length : Int) : Int) := of_decide_eq_true (by first | (with_reducible assumption) | assumption)
                obtain ⟨i054, hi054, _, hsz54, _⟩ := info_parts info3
                have hroom54 : y192.length ≤ co51 := (Kd.R_reads' HO194.out).2.1
                have hC54 : Kd.C (Kd.int .i64) _ Ao51 y192.length y192 := (Kd.R_reads' HO194.out).2.2
                have q054 : (0 : Int) ≤ (t195 : Int) := of_decide_eq_true (by first | (with_reducible assumption) | assumption)
                have hcut54 := cut_from (P := Try.prog) 22 3 .i64 Try.underlying22 hi054 1 hsz54 Ao51 y192.length co51 t195 q054 q54
                have hr54 := Kd.C_drop (m := (t195 : Int).toNat) (c := co51) hC54 (by omega) hroom54
                obtain ⟨A54, hA54⟩ : ∃ A1, A1 = (if co51 = (t195 : Int).toNat then Ao51 else (Ao51 : Option Addr).map (·.add ((t195 : Int).toNat * 1))) := ⟨_, rfl⟩
                obtain ⟨c54, hc54⟩ : ∃ c1, c1 = co51 - (t195 : Int).toNat := ⟨_, rfl⟩
                have hy54 : y198.length = y192.length - (t195 : Int).toNat := (by rw [Ny198.out, List.length_drop] <;> omega)
                rw [show (y192).drop (t195 : Int).toNat = y198 from Ny198.out.symm] at hr54
                replace hr54 : Kd.C (Kd.int .i64) _ A54 y198.length y198 := (by rw [hA54]; exact hr54)
                rw [← hy54, ← hA54, ← hc54] at hcut54
                have HR201 := Aside0.mk hr54
                have HC201 := Aside0.mk (show y198.length ≤ c54 from by rw [hy54, hc54]; exact Nat.sub_le_sub_right hroom54 _)
                clear hr54 hC54 hroom54 hi054 hsz54 hc54
                have KY54 := Aside0.mk hy54
                have KA54 := Aside0.mk hA54
                clear hy54 hA54
                have KL54 := Aside0.mk (show (t195 : Int).toNat ≤ y192.length from by omega)
                replace q54 := eq_true q54
                have q55 : (t195 : Int) ≤ ((y192.length : Int) : Int) := of_decide_eq_true (by first | (with_reducible assumption) | assumption)
                obtain ⟨i055, hi055, _, hsz55, _⟩ := info_parts info3
                have hroom55 : y192.length ≤ co51 := (Kd.R_reads' HO194.out).2.1
                have hC55 : Kd.C (Kd.int .i64) _ Ao51 y192.length y192 := (Kd.R_reads' HO194.out).2.2
                have hcut55 := cut_to (P := Try.prog) 22 3 .i64 Try.underlying22 hi055 Ao51 y192.length co51 t195 (of_decide_eq_true (by first | (with_reducible assumption) | assumption)) q55 hroom55
                have hr55 := Kd.C_take (m := (t195 : Int).toNat) hC55 (by omega)
                have hy55 : y205.length = (t195 : Int).toNat := (by rw [Ny205.out, List.length_take]; omega)
                rw [← Ny205.out] at hr55
                rw [← hy55] at hcut55
                have HR208 := Aside0.mk hr55
                have HC208 := Aside0.mk (show y205.length ≤ co51 from by omega)
                clear hr55 hC55 hroom55 hi055 hsz55
                have KY55 := Aside0.mk hy55
                clear hy55
                have KL55 := Aside0.mk (show (t195 : Int).toNat ≤ y192.length from by omega)
                replace q55 := eq_true q55
                refine start_ (n := 15) (S := fun w' => True) (ds := []) #[false, false, false, false, false, false, false, false, false, false, false, false, false, false, false] (by kernel_rfl) rfl rfl trivial (fun hHeld => ?_); refine with_tabW omnibuslaw10_ClockMiddles.tab11 omnibuslaw10_ClockMiddles.bits11 (fun HT_ HW_ => ?_)
                generalize w52.drew = w53 at HO177 HO180 HO194 HB HR201 HR208 hHeld ⊢
                refine pure_ (i := 0) (N := some 70) (v := ?_) (a' := ?_) #[true, false, false, false, false, false, false, false, false, false, false, false, false, false, false] rfl rfl (any_of HT_.out (by kernel_rfl)) (fun _ _ _ h => h) (Or.inl ⟨by rfl, ?_⟩) ?_ ?_
                rotate_left
                · intro w'
                  go_simp
                  with_reducible rfl
                rotate_left
                · simp only [Act.put, List.setIfInBounds_toArray, List.set_cons_zero, List.set_cons_succ, i64_w, i32_w]
                  rfl
                refine pure_ (i := 1) (N := some 71) (v := ?_) (a' := ?_) #[true, true, false, false, false, false, false, false, false, false, false, false, false, false, false] rfl rfl (any_of HT_.out (by kernel_rfl)) (fun _ _ _ h => h) (Or.inl ⟨by rfl, ?_⟩) ?_ ?_
                rotate_left
                · intro w'
                  go_simp
                  with_reducible rfl
                rotate_left
                · simp only [Act.put, List.setIfInBounds_toArray, List.set_cons_zero, List.set_cons_succ, i64_w, i32_w]
                  rfl
                refine pure_ (i := 2) (N := some 72) (v := ?_) (a' := ?_) #[true, true, true, false, false, false, false, false, false, false, false, false, false, false, false] rfl rfl (any_of HT_.out (by kernel_rfl)) (fun _ _ _ h => h) (Or.inl ⟨by rfl, ?_⟩) ?_ ?_
                rotate_left
                · intro w'
                  go_simp
                  with_reducible rfl
                rotate_left
                · simp only [Act.put, List.setIfInBounds_toArray, List.set_cons_zero, List.set_cons_succ, i64_w, i32_w]
                  rfl
                refine pure_ (i := 3) (N := some 73) (v := ?_) (a' := ?_) #[true, true, true, true, false, false, false, false, false, false, false, false, false, false, false] rfl rfl (any_of HT_.out (by kernel_rfl)) (fun _ _ _ h => h) (Or.inl ⟨by rfl, ?_⟩) ?_ ?_
                rotate_left
                · intro w'
                  go_simp
                  with_reducible rfl
                rotate_left
                · simp only [Act.put, List.setIfInBounds_toArray, List.set_cons_zero, List.set_cons_succ, i64_w, i32_w]
                  rfl
                refine pure_ (i := 5) (N := some 75) (v := ?_) (a' := ?_) #[true, true, true, true, false, true, false, false, false, false, false, false, false, false, false] rfl rfl (any_of HT_.out (by kernel_rfl)) (fun _ _ _ h => h) (Or.inl ⟨by rfl, ?_⟩) ?_ ?_
                rotate_left
                · intro w'
                  go_simp
                  with_reducible rfl
                rotate_left
                · simp only [Act.put, List.setIfInBounds_toArray, List.set_cons_zero, List.set_cons_succ, i64_w, i32_w]
                  rfl
                refine pure_ (i := 6) (N := some 76) (v := ?_) (a' := ?_) #[true, true, true, true, false, true, true, false, false, false, false, false, false, false, false] rfl rfl (any_of HT_.out (by kernel_rfl)) (fun _ _ _ h => h) (Or.inl ⟨by rfl, ?_⟩) ?_ ?_
                rotate_left
                · intro w'
                  go_simp
                  with_reducible rfl
                rotate_left
                · simp only [Act.put, List.setIfInBounds_toArray, List.set_cons_zero, List.set_cons_succ, i64_w, i32_w]
                  rfl
                refine pure_ (i := 7) (N := some 77) (v := ?_) (a' := ?_) #[true, true, true, true, false, true, true, true, false, false, false, false, false, false, false] rfl rfl (any_of HT_.out (by kernel_rfl)) (fun _ _ _ h => h) (Or.inl ⟨by rfl, ?_⟩) ?_ ?_
                rotate_left
                · intro w'
                  go_simp
                  with_reducible rfl
                rotate_left
                · simp only [Act.put, List.setIfInBounds_toArray, List.set_cons_zero, List.set_cons_succ, i64_w, i32_w]
                  rfl
                refine one_ (i := 4) (N := some 74) #[true, true, true, true, true, true, true, true, false, false, false, false, false, false, false] rfl rfl (one_of HT_.out (by kernel_rfl)) (by decide) (fun K hK => ?_)
                refine Kd.R_append_rows_step (Kd.int .i64) (w0 := w) w.heap.size rfl (.const (.slice none 0 0)) (.tmp 73) 22 3 (.int .i64 0) 8 rfl Try.underlying22 info3 rfl (by decide) (by omega) (.slice none 0 0) ([] : List Int) y198 _ _ _ (fun k_ => some k_ ≠ (.slice Ao47 t175.length co47 : Value).ownBlock ∧ some k_ ≠ (.slice Ao48 t178.length co48 : Value).ownBlock ∧ some k_ ≠ (.slice Ao51 y192.length co51 : Value).ownBlock) (fun _ => False) rfl rfl ?aO ?aR (fun _ _ h => h) (fun _ h => h.elim) ?aF ?aB ?aS ?aL ?_
                (case aR => repeat (first | exact (by repeat (first | (with_reducible exact HR201.out) | (with_reducible refine Kd.C_alloc ?_ _) | (with_reducible refine Kd.C_drewN ?_ _) | (with_reducible refine Kd.C_drew ?_) | exact HR201.out)) | (with_reducible refine Kd.C_alloc ?_ _) | (with_reducible refine Kd.C_drewN ?_ _) | (with_reducible refine Kd.C_drew ?_)))
                (case aB => exact (by repeat (first | (with_reducible first | exact HB.out | apply below_alloc | apply pw_below_drewN | apply below_drew1) | exact HB.out)))
                (case aF => exact (fun k_ hk => ⟨Kd.fresh' (Kd.R_lt (by (with_reducible repeat (first | apply Kd.R_alloc | apply Kd.R_drewN | apply Kd.R_drew)); exact HO177.out)) k_ hk, Kd.fresh' (Kd.R_lt (by (with_reducible repeat (first | apply Kd.R_alloc | apply Kd.R_drewN | apply Kd.R_drew)); exact HO180.out)) k_ hk, Kd.fresh' (Kd.R_lt (by (with_reducible repeat (first | apply Kd.R_alloc | apply Kd.R_drewN | apply Kd.R_drew)); exact HO194.out)) k_ hk⟩))
                (case aO => exact ((Kd.R_nil _ _ _ _ (fun k_ => some k_ ≠ (.slice Ao47 t175.length co47 : Value).ownBlock ∧ some k_ ≠ (.slice Ao48 t178.length co48 : Value).ownBlock ∧ some k_ ≠ (.slice Ao51 y192.length co51 : Value).ownBlock))))
                (case aS => exact (below_size (by repeat (first | (with_reducible first | exact HB.out | apply below_alloc | apply pw_below_drewN | apply below_drew1) | exact HB.out))))
                (case aL => have := LMc38.out; omega)
                intro v203 w56 ho hb hg hat
                rw [← Ny202.out] at ho
                have n0_ := Aside0.mk (Kd.R_after (Kd.R_apart_nil (by (with_reducible repeat (first | apply Kd.R_alloc | apply Kd.R_drewN | apply Kd.R_drew)); exact HO177.out)) hg hat)
                have n1_ := Aside0.mk (Kd.R_after (Kd.R_apart_nil (by (with_reducible repeat (first | apply Kd.R_alloc | apply Kd.R_drewN | apply Kd.R_drew)); exact HO180.out)) hg hat)
                have n2_ := Aside0.mk (Kd.R_after (Kd.R_apart_nil (by (with_reducible repeat (first | apply Kd.R_alloc | apply Kd.R_drewN | apply Kd.R_drew)); exact HO194.out)) hg hat)
                have n3_ := Aside0.mk (hb)
                have n4_ := Aside0.mk ((show Kd.C (Kd.int .i64) w56 A54 y198.length y198 from by rw [Ny198.out, KA54.out]; exact Kd.C_drop (m := (t195 : Int).toNat) (c := co51) ((Kd.R_reads' (Kd.R_after (Kd.R_apart_nil (by (with_reducible repeat (first | apply Kd.R_alloc | apply Kd.R_drewN | apply Kd.R_drew)); exact HO194.out)) hg hat)).2.2) KL54.out ((Kd.R_reads' (Kd.R_after (Kd.R_apart_nil (by (with_reducible repeat (first | apply Kd.R_alloc | apply Kd.R_drewN | apply Kd.R_drew)); exact HO194.out)) hg hat)).2.1)))
                have n5_ := Aside0.mk ((show Kd.C (Kd.int .i64) w56 Ao51 y205.length y205 from by rw [Ny205.out]; exact Kd.C_take (m := (t195 : Int).toNat) ((Kd.R_reads' (Kd.R_after (Kd.R_apart_nil (by (with_reducible repeat (first | apply Kd.R_alloc | apply Kd.R_drewN | apply Kd.R_drew)); exact HO194.out)) hg hat)).2.2) KL55.out))
                have n6_ := Aside0.mk (ho)
                clear HO177
                clear HO180
                clear HO194
                clear HB
                clear HR201
                clear HR208
                have HO177 := n0_
                have HO180 := n1_
                have HO194 := n2_
                have HB := n3_
                have HR201 := n4_
                have HR208 := n5_
                have HO204 := n6_
                clear n0_ n1_ n2_ n3_ n4_ n5_ n6_
                clear ho hb hg hat
                refine hK.out _ _ trivial (fun hHeld => ?_)
                clear hK K
                refine norm_ (a' := ?_) ?_ ?_
                rotate_left
                · show Act.put _ (some 74) _ = _
                  simp only [Act.put, List.setIfInBounds_toArray, List.set_cons_zero, List.set_cons_succ, i64_w, i32_w]
                  rfl
                refine one_ (i := 8) (N := some 78) #[true, true, true, true, true, true, true, true, true, false, false, false, false, false, false] rfl rfl (one_of HT_.out (by kernel_rfl)) (by decide) (fun K hK => ?_)
                refine Kd.R_append_rows_step (Kd.int .i64) (w0 := w) w.heap.size (by rfl) (.tmp 74) (.tmp 77) 22 3 (.int .i64 0) 8 rfl Try.underlying22 info3 rfl (by decide) (by omega) v203 y202 y205 _ _ _ (fun k_ => some k_ ≠ (.slice Ao47 t175.length co47 : Value).ownBlock ∧ some k_ ≠ (.slice Ao48 t178.length co48 : Value).ownBlock ∧ some k_ ≠ (.slice Ao51 y192.length co51 : Value).ownBlock) (fun _ => False) rfl rfl ?aO ?aR (fun _ _ h => h) (fun _ h => h.elim) ?aF ?aB ?aS ?aL ?_
                (case aR => repeat (first | exact (by repeat (first | (with_reducible exact HR208.out) | (with_reducible refine Kd.C_alloc ?_ _) | (with_reducible refine Kd.C_drewN ?_ _) | (with_reducible refine Kd.C_drew ?_) | exact HR208.out)) | (with_reducible refine Kd.C_alloc ?_ _) | (with_reducible refine Kd.C_drewN ?_ _) | (with_reducible refine Kd.C_drew ?_)))
                (case aB => exact (by repeat (first | (with_reducible first | exact HB.out | apply below_alloc | apply pw_below_drewN | apply below_drew1) | exact HB.out)))
                (case aF => exact (fun k_ hk => ⟨Kd.fresh' (Kd.R_lt (by (with_reducible repeat (first | apply Kd.R_alloc | apply Kd.R_drewN | apply Kd.R_drew)); exact HO177.out)) k_ hk, Kd.fresh' (Kd.R_lt (by (with_reducible repeat (first | apply Kd.R_alloc | apply Kd.R_drewN | apply Kd.R_drew)); exact HO180.out)) k_ hk, Kd.fresh' (Kd.R_lt (by (with_reducible repeat (first | apply Kd.R_alloc | apply Kd.R_drewN | apply Kd.R_drew)); exact HO194.out)) k_ hk⟩))
                (case aO => exact (by (with_reducible repeat (first | apply Kd.R_alloc | apply Kd.R_drewN | apply Kd.R_drew)); exact HO204.out))
                (case aS => exact (below_size (by repeat (first | (with_reducible first | exact HB.out | apply below_alloc | apply pw_below_drewN | apply below_drew1) | exact HB.out))))
                (case aL => have := LMc41.out; omega)
                intro v210 w57 ho hb hg hat
                rw [← Ny209.out] at ho
                have n0_ := Aside0.mk (Kd.R_after (ok := (fun k_ => some k_ ≠ (.slice Ao48 t178.length co48 : Value).ownBlock ∧ some k_ ≠ (.slice Ao51 y192.length co51 : Value).ownBlock)) (by (with_reducible repeat (first | apply Kd.R_alloc | apply Kd.R_drewN | apply Kd.R_drew)); exact HO177.out) hg hat)
                have n1_ := Aside0.mk (Kd.R_after (ok := (fun k_ => some k_ ≠ (.slice Ao47 t175.length co47 : Value).ownBlock ∧ some k_ ≠ (.slice Ao51 y192.length co51 : Value).ownBlock)) (by (with_reducible repeat (first | apply Kd.R_alloc | apply Kd.R_drewN | apply Kd.R_drew)); exact HO180.out) hg hat)
                have n2_ := Aside0.mk (Kd.R_after (ok := (fun k_ => some k_ ≠ (.slice Ao47 t175.length co47 : Value).ownBlock ∧ some k_ ≠ (.slice Ao48 t178.length co48 : Value).ownBlock)) (by (with_reducible repeat (first | apply Kd.R_alloc | apply Kd.R_drewN | apply Kd.R_drew)); exact HO194.out) hg hat)
                have n3_ := Aside0.mk (hb)
                have n4_ := Aside0.mk ((show Kd.C (Kd.int .i64) w57 A54 y198.length y198 from by rw [Ny198.out, KA54.out]; exact Kd.C_drop (m := (t195 : Int).toNat) (c := co51) ((Kd.R_reads' (Kd.R_after (ok := (fun k_ => some k_ ≠ (.slice Ao47 t175.length co47 : Value).ownBlock ∧ some k_ ≠ (.slice Ao48 t178.length co48 : Value).ownBlock)) (by (with_reducible repeat (first | apply Kd.R_alloc | apply Kd.R_drewN | apply Kd.R_drew)); exact HO194.out) hg hat)).2.2) KL54.out ((Kd.R_reads' (Kd.R_after (ok := (fun k_ => some k_ ≠ (.slice Ao47 t175.length co47 : Value).ownBlock ∧ some k_ ≠ (.slice Ao48 t178.length co48 : Value).ownBlock)) (by (with_reducible repeat (first | apply Kd.R_alloc | apply Kd.R_drewN | apply Kd.R_drew)); exact HO194.out) hg hat)).2.1)))
                have n5_ := Aside0.mk ((show Kd.C (Kd.int .i64) w57 Ao51 y205.length y205 from by rw [Ny205.out]; exact Kd.C_take (m := (t195 : Int).toNat) ((Kd.R_reads' (Kd.R_after (ok := (fun k_ => some k_ ≠ (.slice Ao47 t175.length co47 : Value).ownBlock ∧ some k_ ≠ (.slice Ao48 t178.length co48 : Value).ownBlock)) (by (with_reducible repeat (first | apply Kd.R_alloc | apply Kd.R_drewN | apply Kd.R_drew)); exact HO194.out) hg hat)).2.2) KL55.out))
                have n6_ := Aside0.mk (ho)
                clear HO177
                clear HO180
                clear HO194
                clear HB
                clear HR201
                clear HR208
                clear HO204
                have HO177 := n0_
                have HO180 := n1_
                have HO194 := n2_
                have HB := n3_
                have HR201 := n4_
                have HR208 := n5_
                have HO211 := n6_
                clear n0_ n1_ n2_ n3_ n4_ n5_ n6_
                clear ho hb hg hat
                obtain ⟨Ao58, co58, eo58⟩ := Kd.R_slice HO211.out
                (first | subst eo58 | (injection eo58 with f1_ f2_ f3_; have f4_ := f1_.symm; have f5_ := f3_.symm; clear f1_ f2_ f3_; subst f4_; subst f5_))
                refine hK.out _ _ trivial (fun hHeld => ?_)
                clear hK K
                refine norm_ (a' := ?_) ?_ ?_
                rotate_left
                · show Act.put _ (some 78) _ = _
                  simp only [Act.put, List.setIfInBounds_toArray, List.set_cons_zero, List.set_cons_succ, i64_w, i32_w]
                  rfl
                refine one_ (i := 9) (N := some 79) #[true, true, true, true, true, true, true, true, true, true, false, false, false, false, false] rfl rfl (one_of HT_.out (by kernel_rfl)) (by decide) (fun K hK => ?_)
                refine goes_ Try.func16 (by kernel_rfl) rfl #[.int .i64 t174, .slice Ao58 y209.length co58] (by rfl) rfl rfl (by (try simp only [List.map_toArray, List.map_cons, List.map_nil]); first | done | rfl | (simp only [List.length_drop, List.length_take]; rfl)) ?_
                with_reducible refine (clock_Middle.calls k t174 _ _ y209 t212 t213 _ ?side1 ?side2 A42.out).mono ?_
                (case side1 => repeat (first | exact (Kd.R_reads' HO211.out).2.2 | (with_reducible refine Kd.C_alloc ?_ _) | (with_reducible refine Kd.C_drewN ?_ _) | (with_reducible refine Kd.C_drew ?_)))
                (case side2 => exact (Kd.R_reads' HO211.out).2.1)
                rintro e w59 ⟨rfl, hb⟩
                refine ⟨_, rfl, ?_⟩
                have n0_ := Aside0.mk (Kd.R_below (by (with_reducible repeat (first | apply Kd.R_alloc | apply Kd.R_drewN | apply Kd.R_drew)); exact HO177.out) hb)
                have n1_ := Aside0.mk (Kd.R_below (by (with_reducible repeat (first | apply Kd.R_alloc | apply Kd.R_drewN | apply Kd.R_drew)); exact HO180.out) hb)
                have n2_ := Aside0.mk (Kd.R_below (by (with_reducible repeat (first | apply Kd.R_alloc | apply Kd.R_drewN | apply Kd.R_drew)); exact HO194.out) hb)
                have n3_ := Aside0.mk (Kd.R_below (by (with_reducible repeat (first | apply Kd.R_alloc | apply Kd.R_drewN | apply Kd.R_drew)); exact HO211.out) hb)
                have n4_ := Aside0.mk (Kd.C_below (by repeat (first | (with_reducible exact HR201.out) | (with_reducible refine Kd.C_alloc ?_ _) | (with_reducible refine Kd.C_drewN ?_ _) | (with_reducible refine Kd.C_drew ?_) | exact HR201.out)) hb)
                have n5_ := Aside0.mk (Kd.C_below (by repeat (first | (with_reducible exact HR208.out) | (with_reducible refine Kd.C_alloc ?_ _) | (with_reducible refine Kd.C_drewN ?_ _) | (with_reducible refine Kd.C_drew ?_) | exact HR208.out)) hb)
                have n6_ := Aside0.mk (below_step (by repeat (first | (with_reducible first | exact HB.out | apply below_alloc | apply pw_below_drewN | apply below_drew1) | exact HB.out)) hb)
                clear HO177
                clear HO180
                clear HO194
                clear HO211
                clear HR201
                clear HR208
                clear HB
                have HO177 := n0_
                have HO180 := n1_
                have HO194 := n2_
                have HO211 := n3_
                have HR201 := n4_
                have HR208 := n5_
                have HB := n6_
                clear n0_ n1_ n2_ n3_ n4_ n5_ n6_
                (try clear hb)
                (try clear hb2)
                (try clear hk)
                (try clear hi)
                refine hK.out _ _ trivial (fun hHeld => ?_)
                clear hK K
                refine norm_ (a' := ?_) ?_ ?_
                rotate_left
                · show Act.put _ (some 79) _ = _
                  simp only [Act.put, List.setIfInBounds_toArray, List.set_cons_zero, List.set_cons_succ, i64_w, i32_w]
                  rfl
                refine pure_ (i := 10) (N := some 69) (v := ?_) (a' := ?_) #[true, true, true, true, true, true, true, true, true, true, true, false, false, false, false] rfl rfl (any_of HT_.out (by kernel_rfl)) (fun _ _ _ h => h) (Or.inl ⟨by rfl, ?_⟩) ?_ ?_
                rotate_left
                · intro w'
                  go_simp
                  with_reducible rfl
                rotate_left
                · simp only [Act.put, List.setIfInBounds_toArray, List.set_cons_zero, List.set_cons_succ, i64_w, i32_w]
                  rfl
                refine pure_ (i := 11) (N := some 80) (v := ?_) (a' := ?_) #[true, true, true, true, true, true, true, true, true, true, true, true, false, false, false] rfl rfl (any_of HT_.out (by kernel_rfl)) (fun _ _ _ h => h) (Or.inl ⟨by rfl, ?_⟩) ?_ ?_
                rotate_left
                · intro w'
                  go_simp
                  with_reducible rfl
                rotate_left
                · simp only [Act.put, List.setIfInBounds_toArray, List.set_cons_zero, List.set_cons_succ, i64_w, i32_w]
                  rfl
                refine pure_ (i := 12) (N := some 81) (v := ?_) (a' := ?_) #[true, true, true, true, true, true, true, true, true, true, true, true, true, false, false] rfl rfl (any_of HT_.out (by kernel_rfl)) (fun _ _ _ h => h) (Or.inl ⟨by rfl, ?_⟩) ?_ ?_
                rotate_left
                · intro w'
                  go_simp
                  with_reducible rfl
                rotate_left
                · simp only [Act.put, List.setIfInBounds_toArray, List.set_cons_zero, List.set_cons_succ, i64_w, i32_w]
                  rfl
                refine pure_ (i := 13) (N := some 19) (v := ?_) (a' := ?_) #[true, true, true, true, true, true, true, true, true, true, true, true, true, true, false] rfl rfl (any_of HT_.out (by kernel_rfl)) (fun _ _ _ h => h) (Or.inl ⟨by rfl, ?_⟩) ?_ ?_
                rotate_left
                · intro w'
                  go_simp
                  with_reducible rfl
                rotate_left
                · simp only [Act.put, List.setIfInBounds_toArray, List.set_cons_zero, List.set_cons_succ, i64_w, i32_w]
                  rfl
                refine pure_ (i := 14) (N := some 20) (v := ?_) (a' := ?_) #[true, true, true, true, true, true, true, true, true, true, true, true, true, true, true] rfl rfl (any_of HT_.out (by kernel_rfl)) (fun _ _ _ h => h) (Or.inl ⟨by rfl, ?_⟩) ?_ ?_
                rotate_left
                · intro w'
                  go_simp
                  with_reducible rfl
                rotate_left
                · simp only [Act.put, List.setIfInBounds_toArray, List.set_cons_zero, List.set_cons_succ, i64_w, i32_w]
                  rfl
                refine done_ (done_of HT_.out (by kernel_rfl)) ?_
                go_upto_region 12 with (fail)
                go_cut [97] (fun v97 wc => ∃ (kq : Nat) (x97_42 : Bool), v97 = .bool x97_42 ∧ Aside0 (omnibuslaw10_ClockMiddles.j0 kq t173 t175 t196 x97_42 = some r) ∧ Aside0 (kq ≤ k) ∧ Aside0 (Kd.R (Kd.int .i64) 3 wc w.heap.size (fun _ => True) (.slice Ao47 t175.length co47) t175) ∧ Aside0 (Kd.C (Kd.int .i64) wc A54 y198.length y198) ∧ Aside0 (Kd.C (Kd.int .i64) wc Ao51 y205.length y205) ∧ Aside0 (Below w.heap.size w wc))
                case first =>
                  have H := HC43.out
                  clear HC43
                  by_cases c60 : t197 = 0
                  · rw [if_pos c60] at H
                    have c60b0 : (t197 == 0) = true := beq_iff_eq.mpr c60
                    have c60b1 : (t197 != 0) = false := bne_eq_false_iff_eq.mpr c60
                    clear c60
                    (first | rw [c60b0] | (simp only [i64_w, i32_w]; rw [c60b0]) | skip)
                    by_cases c61 : t213 = 0
                    · rw [if_pos c61] at H
                      have c61b0 : (t213 == 0) = true := beq_iff_eq.mpr c61
                      have c61b1 : (t213 != 0) = false := bne_eq_false_iff_eq.mpr c61
                      clear c61
                      by_cases c62 : t212 = t196
                      · rw [if_pos c62] at H
                        have c62b0 : (t212 == t196) = true := beq_iff_eq.mpr c62
                        have c62b1 : (t212 != t196) = false := bne_eq_false_iff_eq.mpr c62
                        clear c62
                        have H' := Aside0.mk H
                        clear H
                        go_wp2
                        go_meet
                        case rel => exact ⟨_, (((t175.length : Int) == 0)), (by first | rfl | (simp; done) | (simp [*]; done)), H', ⟨by first | omega | exact Nat.le_refl _⟩, ⟨by (with_reducible repeat (first | apply Kd.R_alloc | apply Kd.R_drewN | apply Kd.R_drew)); exact Kd.R_mono HO177.out (fun _ hk => trivial)⟩, ⟨by repeat (first | (with_reducible exact HR201.out) | (with_reducible refine Kd.C_alloc ?_ _) | (with_reducible refine Kd.C_drewN ?_ _) | (with_reducible refine Kd.C_drew ?_) | exact HR201.out)⟩, ⟨by repeat (first | (with_reducible exact HR208.out) | (with_reducible refine Kd.C_alloc ?_ _) | (with_reducible refine Kd.C_drewN ?_ _) | (with_reducible refine Kd.C_drew ?_) | exact HR208.out)⟩, ⟨by repeat (first | (with_reducible first | exact HB.out | apply below_alloc | apply pw_below_drewN | apply below_drew1) | exact HB.out)⟩⟩
                      · rw [if_neg c62] at H
                        have c62b0 : (t212 == t196) = false := beq_eq_false_iff_ne.mpr c62
                        have c62b1 : (t212 != t196) = true := bne_iff_ne.mpr c62
                        have H' := Aside0.mk H
                        clear H
                        go_wp2
                        go_meet
                        case rel => exact ⟨_, (true), (by first | rfl | (simp; done) | (simp [*]; done)), H', ⟨by first | omega | exact Nat.le_refl _⟩, ⟨by (with_reducible repeat (first | apply Kd.R_alloc | apply Kd.R_drewN | apply Kd.R_drew)); exact Kd.R_mono HO177.out (fun _ hk => trivial)⟩, ⟨by repeat (first | (with_reducible exact HR201.out) | (with_reducible refine Kd.C_alloc ?_ _) | (with_reducible refine Kd.C_drewN ?_ _) | (with_reducible refine Kd.C_drew ?_) | exact HR201.out)⟩, ⟨by repeat (first | (with_reducible exact HR208.out) | (with_reducible refine Kd.C_alloc ?_ _) | (with_reducible refine Kd.C_drewN ?_ _) | (with_reducible refine Kd.C_drew ?_) | exact HR208.out)⟩, ⟨by repeat (first | (with_reducible first | exact HB.out | apply below_alloc | apply pw_below_drewN | apply below_drew1) | exact HB.out)⟩⟩
                    · rw [if_neg c61] at H
                      have c61b0 : (t213 == 0) = false := beq_eq_false_iff_ne.mpr c61
                      have c61b1 : (t213 != 0) = true := bne_iff_ne.mpr c61
                      have H' := Aside0.mk H
                      clear H
                      go_wp2
                      go_meet
                      case rel => exact ⟨_, (true), (by first | rfl | (simp; done) | (simp [*]; done)), H', ⟨by first | omega | exact Nat.le_refl _⟩, ⟨by (with_reducible repeat (first | apply Kd.R_alloc | apply Kd.R_drewN | apply Kd.R_drew)); exact Kd.R_mono HO177.out (fun _ hk => trivial)⟩, ⟨by repeat (first | (with_reducible exact HR201.out) | (with_reducible refine Kd.C_alloc ?_ _) | (with_reducible refine Kd.C_drewN ?_ _) | (with_reducible refine Kd.C_drew ?_) | exact HR201.out)⟩, ⟨by repeat (first | (with_reducible exact HR208.out) | (with_reducible refine Kd.C_alloc ?_ _) | (with_reducible refine Kd.C_drewN ?_ _) | (with_reducible refine Kd.C_drew ?_) | exact HR208.out)⟩, ⟨by repeat (first | (with_reducible first | exact HB.out | apply below_alloc | apply pw_below_drewN | apply below_drew1) | exact HB.out)⟩⟩
                  · rw [if_neg c60] at H
                    have c60b0 : (t197 == 0) = false := beq_eq_false_iff_ne.mpr c60
                    have c60b1 : (t197 != 0) = true := bne_iff_ne.mpr c60
                    (first | rw [c60b0] | (simp only [i64_w, i32_w]; rw [c60b0]) | skip)
                    have H' := Aside0.mk H
                    clear H
                    go_wp2
                    go_meet
                    case rel => exact ⟨_, (true), (by first | rfl | (simp; done) | (simp [*]; done)), H', ⟨by first | omega | exact Nat.le_refl _⟩, ⟨by (with_reducible repeat (first | apply Kd.R_alloc | apply Kd.R_drewN | apply Kd.R_drew)); exact Kd.R_mono HO177.out (fun _ hk => trivial)⟩, ⟨by repeat (first | (with_reducible exact HR201.out) | (with_reducible refine Kd.C_alloc ?_ _) | (with_reducible refine Kd.C_drewN ?_ _) | (with_reducible refine Kd.C_drew ?_) | exact HR201.out)⟩, ⟨by repeat (first | (with_reducible exact HR208.out) | (with_reducible refine Kd.C_alloc ?_ _) | (with_reducible refine Kd.C_drewN ?_ _) | (with_reducible refine Kd.C_drew ?_) | exact HR208.out)⟩, ⟨by repeat (first | (with_reducible first | exact HB.out | apply below_alloc | apply pw_below_drewN | apply below_drew1) | exact HB.out)⟩⟩
                case rest =>
                  clear HC43
                  try clear c1
                  try clear c2
                  try clear p2
                  try clear c3
                  try clear c4
                  try clear c5
                  try clear q5
                  try clear c6
                  try clear p6
                  try clear c9
                  try clear c9b0
                  try clear c10
                  try clear c11
                  try clear c13
                  try clear c16
                  try clear c22
                  try clear c32
                  try clear c33
                  try clear c36
                  try clear c36b0
                  try clear c36b1
                  try clear c37
                  try clear c37b0
                  try clear c37b1
                  try clear c38
                  try clear c39
                  try clear c39b0
                  try clear c40
                  try clear c40b0
                  try clear c41
                  try clear c54
                  try clear q54
                  try clear q55
                  try clear c60
                  try clear c60b0
                  try clear c60b1
                  try clear c61
                  try clear c61b0
                  try clear c61b1
                  try clear c62
                  try clear c62b0
                  try clear c62b1
                  try clear q054
                  try clear q54
                  try clear q55
                  obtain ⟨kq, x97_42, rfl, HA, HJ42, HO_11, HR201, HR208, HB⟩ := hcut
                  cases kq with
                  | zero => exact absurd HA.out (by simp [omnibuslaw10_ClockMiddles.j0])
                  | succ kj42 =>
                    have H := HA.out
                    clear HA
                    simp only [omnibuslaw10_ClockMiddles.j0] at H
                    by_cases c63 : x97_42 = true
                    · subst c63
                      have H1 : (some false) = some r := by rw [if_pos rfl] at H; exact H
                      clear H
                      have H := H1
                      clear H1
                      obtain rfl := Option.some.inj H
                      go_wp2
                      go_ret
                      exact ⟨by first | rfl | (simp [errW_none, errW_some] <;> rfl) | (simp [*, errW_none, errW_some] <;> rfl), by repeat (first | (with_reducible first | exact HB.out | apply below_alloc | apply pw_below_drewN | apply below_drew1) | exact HB.out)⟩
                    · replace c63 := Bool.eq_false_iff.mpr c63
                      subst c63
                      have H1 : (if 0 < (t175.length : Int) then (omnibuslaw10_ClockMiddles.l0 kj42 t173 t175 t196 (rd t175 0) (rd t175 0) 0) else (none)) = some r := by rw [if_neg (show ¬ (false = true) by decide)] at H; exact H
                      clear H
                      have H := H1
                      clear H1
                      by_cases c64 : 0 < (t175.length : Int)
                      · rw [if_pos c64] at H
                        have c64b0 : decide (0 < (t175.length : Int)) = true := decide_eq_true c64
                        have c64b1 : decide (0 < t175.length) = true := decide_eq_true (by omega)
                        clear c64
                        have H' := Aside0.mk H
                        clear H
                        have p214 : 0 ≤ (0 : Int) := (by omega)
                        have q214 : 0 < (t175.length : Int) := of_decide_eq_true (by first | (with_reducible assumption) | assumption)
                        obtain ⟨ad214, e214, hx214_0⟩ := Kd.at_int (Kd.R_reads' HO_11.out).2.2 0 p214 q214
                        cases e214
                        have qi214 : (0 < t175.length) = True := eq_true (by omega)
                        (try rw [show ((0 : Int)).toNat = 0 from rfl] at hx214_0)
                        (try rw [Addr.add_zero'] at hx214_0)
                        replace p214 := eq_true p214
                        replace q214 := eq_true q214
                        have p215 : 0 ≤ (0 : Int) := (by omega)
                        have q215 : 0 < (t175.length : Int) := of_decide_eq_true (by first | (with_reducible assumption) | assumption)
                        obtain ⟨ad215, e215, hx215_0⟩ := Kd.at_int (Kd.R_reads' HO_11.out).2.2 0 p215 q215
                        obtain rfl : ad214 = ad215 := (by injection e215)
                        have qi215 : (0 < t175.length) = True := eq_true (by omega)
                        (try rw [show ((0 : Int)).toNat = 0 from rfl] at hx215_0)
                        (try rw [Addr.add_zero'] at hx215_0)
                        replace p215 := eq_true p215
                        replace q215 := eq_true q215
                        go_wp2
                        go_loopg [21, 22, 23] kj42 (fun kq v21 v22 v23 w' => ∃ (x21_2 : Int) (x22_2 : Int) (x23_2 : Int), v21 = .int .i64 x21_2 ∧ v22 = .int .i64 x22_2 ∧ v23 = .int .i64 x23_2 ∧ Aside0 (omnibuslaw10_ClockMiddles.l0 kq t173 t175 t196 x21_2 x22_2 x23_2 = some r) ∧ Aside0 (kq ≤ kj42) ∧ Aside0 (Kd.R (Kd.int .i64) 3 w' w.heap.size (fun _ => True) (.slice (some ad214) t175.length co47) t175) ∧ Aside0 (Kd.C (Kd.int .i64) w' A54 y198.length y198) ∧ Aside0 (Kd.C (Kd.int .i64) w' Ao51 y205.length y205) ∧ Aside0 (Below w.heap.size w w'))
                        case atStart => exact ⟨(rd t175 0), (rd t175 0), (0), (by first | rfl | (simp; done) | (simp [*]; done)), (by first | rfl | (simp; done) | (simp [*]; done)), (by first | rfl | (simp; done) | (simp [*]; done)), H', ⟨Nat.le_refl _⟩, ⟨by (with_reducible repeat (first | apply Kd.R_alloc | apply Kd.R_drewN | apply Kd.R_drew)); exact HO_11.out⟩, ⟨by repeat (first | (with_reducible exact HR201.out) | (with_reducible refine Kd.C_alloc ?_ _) | (with_reducible refine Kd.C_drewN ?_ _) | (with_reducible refine Kd.C_drew ?_) | exact HR201.out)⟩, ⟨by repeat (first | (with_reducible exact HR208.out) | (with_reducible refine Kd.C_alloc ?_ _) | (with_reducible refine Kd.C_drewN ?_ _) | (with_reducible refine Kd.C_drew ?_) | exact HR208.out)⟩, ⟨by repeat (first | (with_reducible first | exact HB.out | apply below_alloc | apply pw_below_drewN | apply below_drew1) | exact HB.out)⟩⟩
                        case round =>
                          clear H'
                          try clear c1
                          try clear c2
                          try clear p2
                          try clear q2
                          try clear hx2
                          try clear qi2
                          try clear c3
                          try clear c4
                          try clear c5
                          try clear q5
                          try clear c6
                          try clear p6
                          try clear c9
                          try clear c9b0
                          try clear c10
                          try clear c11
                          try clear c13
                          try clear c16
                          try clear p21
                          try clear q21
                          try clear hx21
                          try clear qi21
                          try clear c22
                          try clear c32
                          try clear c33
                          try clear c36
                          try clear c36b0
                          try clear c36b1
                          try clear c37
                          try clear c37b0
                          try clear c37b1
                          try clear c38
                          try clear c39
                          try clear c39b0
                          try clear c40
                          try clear c40b0
                          try clear c41
                          try clear c54
                          try clear q54
                          try clear q55
                          try clear c60
                          try clear c60b0
                          try clear c60b1
                          try clear c61
                          try clear c61b0
                          try clear c61b1
                          try clear c62
                          try clear c62b0
                          try clear c62b1
                          try clear c63
                          try clear c64
                          try clear c64b0
                          try clear c64b1
                          try clear p64
                          try clear hx214_0
                          try clear hx215_0
                          try clear p2
                          try clear p214
                          try clear p215
                          try clear p6
                          try clear q054
                          try clear q214
                          try clear q215
                          try clear q5
                          try clear q54
                          try clear q55
                          obtain ⟨x21_2, x22_2, x23_2, rfl, rfl, rfl, HA, HK2, HO_11, HR201, HR208, HB⟩ := hrel
                          cases gk with
                          | zero => exact absurd HA.out (by simp [omnibuslaw10_ClockMiddles.l0])
                          | succ k2 =>
                            have H := HA.out
                            clear HA
                            simp only [omnibuslaw10_ClockMiddles.l0] at H
                            by_cases c65 : x23_2 < (t175.length : Int)
                            · rw [if_pos c65] at H
                              have c65b0 : decide (x23_2 < (t175.length : Int)) = true := decide_eq_true c65
                              clear c65
                              by_cases c66 : 0 ≤ x23_2
                              · rw [if_pos c66] at H
                                have c66b0 : decide (0 ≤ x23_2) = true := decide_eq_true c66
                                clear c66
                                obtain ⟨ji67, hji67⟩ : ∃ j_ : Int, (mn x21_2 (rd t175 x23_2)) = j_ := ⟨_, rfl⟩
                                replace H : (omnibuslaw10_ClockMiddles.l0 k2 t173 t175 t196 ji67 (mx x22_2 (rd t175 x23_2)) (wrap64 (x23_2 + 1))) = some r := by first | (rw [hji67] at H; exact H) | (simp only [hji67] at H ⊢; exact H)
                                have hji67_ : (if (rd t175 x23_2) < x21_2 then (rd t175 x23_2) else x21_2) = ji67 := hji67
                                obtain ⟨ji68, hji68⟩ : ∃ j_ : Int, (mx x22_2 (rd t175 x23_2)) = j_ := ⟨_, rfl⟩
                                replace H : (omnibuslaw10_ClockMiddles.l0 k2 t173 t175 t196 ji67 ji68 (wrap64 (x23_2 + 1))) = some r := by first | (rw [hji68] at H; exact H) | (simp only [hji68] at H ⊢; exact H)
                                have hji68_ : (if x22_2 < (rd t175 x23_2) then (rd t175 x23_2) else x22_2) = ji68 := hji68
                                have H' := Aside0.mk H
                                clear H
                                have p216 : 0 ≤ (x23_2 : Int) := of_decide_eq_true (by first | (with_reducible assumption) | assumption)
                                have q216 : x23_2 < (t175.length : Int) := of_decide_eq_true (by first | (with_reducible assumption) | assumption)
                                obtain ⟨ad216, e216, hx216_0⟩ := Kd.at_int (Kd.R_reads' HO_11.out).2.2 x23_2 p216 q216
                                obtain rfl : ad214 = ad216 := (by injection e216)
                                replace p216 := eq_true p216
                                replace q216 := eq_true q216
                                have p217 : 0 ≤ (x23_2 : Int) := of_decide_eq_true (by first | (with_reducible assumption) | assumption)
                                have q217 : x23_2 < (t175.length : Int) := of_decide_eq_true (by first | (with_reducible assumption) | assumption)
                                obtain ⟨ad217, e217, hx217_0⟩ := Kd.at_int (Kd.R_reads' HO_11.out).2.2 x23_2 p217 q217
                                obtain rfl : ad214 = ad217 := (by injection e217)
                                replace p217 := eq_true p217
                                replace q217 := eq_true q217
                                go_wp2
                                go_roundg k2
                                case measure => have := HJ42.out; have := HK2.out; omega
                                case rel => exact ⟨(ji67), (ji68), (wrap64 (x23_2 + 1)), (by first | rfl | (simp; done) | (simp only [← hji67] <;> first | rfl | (simp; done) | (simp [mn, mx]; done)) | (simp [*]; done)), (by first | rfl | (simp; done) | (simp only [← hji68] <;> first | rfl | (simp; done) | (simp [mn, mx]; done)) | (simp [*]; done)), (by first | rfl | (simp; done) | (simp [*]; done)), H', ⟨by have := HJ42.out; have := HK2.out; omega⟩, ⟨by (with_reducible repeat (first | apply Kd.R_alloc | apply Kd.R_drewN | apply Kd.R_drew)); exact HO_11.out⟩, ⟨by repeat (first | (with_reducible exact HR201.out) | (with_reducible refine Kd.C_alloc ?_ _) | (with_reducible refine Kd.C_drewN ?_ _) | (with_reducible refine Kd.C_drew ?_) | exact HR201.out)⟩, ⟨by repeat (first | (with_reducible exact HR208.out) | (with_reducible refine Kd.C_alloc ?_ _) | (with_reducible refine Kd.C_drewN ?_ _) | (with_reducible refine Kd.C_drew ?_) | exact HR208.out)⟩, ⟨by repeat (first | (with_reducible first | exact HB.out | apply below_alloc | apply pw_below_drewN | apply below_drew1) | exact HB.out)⟩⟩
                              · rw [if_neg c66] at H
                                exact absurd H (by simp)
                            · rw [if_neg c65] at H
                              have c65b0 : decide (x23_2 < (t175.length : Int)) = false := decide_eq_false c65
                              clear c65
                              by_cases c69 : t173 = true
                              · subst c69
                                have H1 : (if t196 ≥ x21_2 then (if t196 ≤ x22_2 then ((clock_Spread.f k2 t175).bind fun t218 => (some ((wrap64 (x22_2 - x21_2)) == t218))) else (some false)) else (some false)) = some r := by rw [if_pos rfl] at H; exact H
                                clear H
                                have H := H1
                                clear H1
                                by_cases c70 : t196 ≥ x21_2
                                · rw [if_pos c70] at H
                                  have c70b0 : decide (x21_2 ≤ t196) = true := decide_eq_true c70
                                  clear c70
                                  by_cases c71 : t196 ≤ x22_2
                                  · rw [if_pos c71] at H
                                    have c71b0 : decide (t196 ≤ x22_2) = true := decide_eq_true c71
                                    clear c71
                                    replace H := Option.bind_eq_some_iff.mp H
                                    obtain ⟨t218, A720, H⟩ := H
                                    replace H : (some ((wrap64 (x22_2 - x21_2)) == t218)) = some r := H
                                    have A72 := Aside0.mk A720
                                    clear A720
                                    obtain rfl := Option.some.inj H
                                    go_wp2_with (first | (go_at_call 20; (with_reducible refine (clock_Spread.calls k2 _ _ t175 t218 _ ?side1 ?side2 A72.out).mono ?_); (case side1 => repeat (first | exact (Kd.R_reads' HO_11.out).2.2 | (with_reducible refine Kd.C_alloc ?_ _) | (with_reducible refine Kd.C_drewN ?_ _) | (with_reducible refine Kd.C_drew ?_))); (case side2 => exact (Kd.R_reads' HO_11.out).2.1); rintro e w73 ⟨rfl, hb⟩; have n0_ := Aside0.mk (Kd.R_below (by (with_reducible repeat (first | apply Kd.R_alloc | apply Kd.R_drewN | apply Kd.R_drew)); exact HO_11.out) hb); have n1_ := Aside0.mk (Kd.C_below (by repeat (first | (with_reducible exact HR201.out) | (with_reducible refine Kd.C_alloc ?_ _) | (with_reducible refine Kd.C_drewN ?_ _) | (with_reducible refine Kd.C_drew ?_) | exact HR201.out)) hb); have n2_ := Aside0.mk (Kd.C_below (by repeat (first | (with_reducible exact HR208.out) | (with_reducible refine Kd.C_alloc ?_ _) | (with_reducible refine Kd.C_drewN ?_ _) | (with_reducible refine Kd.C_drew ?_) | exact HR208.out)) hb); have n3_ := Aside0.mk (below_step (by repeat (first | (with_reducible first | exact HB.out | apply below_alloc | apply pw_below_drewN | apply below_drew1) | exact HB.out)) hb); clear HO_11; clear HR201; clear HR208; clear HB; have HO_11 := n0_; have HR201 := n1_; have HR208 := n2_; have HB := n3_; clear n0_ n1_ n2_ n3_; (try clear hb); (try clear hb2); (try clear hk); (try clear hi)))
                                    go_ret
                                    exact ⟨by first | rfl | (simp [errW_none, errW_some] <;> rfl) | (simp [*, errW_none, errW_some] <;> rfl), by repeat (first | (with_reducible first | exact HB.out | apply below_alloc | apply pw_below_drewN | apply below_drew1) | exact HB.out)⟩
                                  · rw [if_neg c71] at H
                                    have c71b0 : decide (t196 ≤ x22_2) = false := decide_eq_false c71
                                    clear c71
                                    obtain rfl := Option.some.inj H
                                    go_wp2
                                    go_ret
                                    exact ⟨by first | rfl | (simp [errW_none, errW_some] <;> rfl) | (simp [*, errW_none, errW_some] <;> rfl), by repeat (first | (with_reducible first | exact HB.out | apply below_alloc | apply pw_below_drewN | apply below_drew1) | exact HB.out)⟩
                                · rw [if_neg c70] at H
                                  have c70b0 : decide (x21_2 ≤ t196) = false := decide_eq_false c70
                                  clear c70
                                  obtain rfl := Option.some.inj H
                                  go_wp2
                                  go_ret
                                  exact ⟨by first | rfl | (simp [errW_none, errW_some] <;> rfl) | (simp [*, errW_none, errW_some] <;> rfl), by repeat (first | (with_reducible first | exact HB.out | apply below_alloc | apply pw_below_drewN | apply below_drew1) | exact HB.out)⟩
                              · replace c69 := Bool.eq_false_iff.mpr c69
                                subst c69
                                have H1 : (some false) = some r := by rw [if_neg (show ¬ (false = true) by decide)] at H; exact H
                                clear H
                                have H := H1
                                clear H1
                                obtain rfl := Option.some.inj H
                                go_wp2
                                go_ret
                                exact ⟨by first | rfl | (simp [errW_none, errW_some] <;> rfl) | (simp [*, errW_none, errW_some] <;> rfl), by repeat (first | (with_reducible first | exact HB.out | apply below_alloc | apply pw_below_drewN | apply below_drew1) | exact HB.out)⟩
                      · rw [if_neg c64] at H
                        exact absurd H (by simp)
              · rw [if_neg c41] at H
                exact absurd H (by simp)
            · rw [if_neg c38] at H
              exact absurd H (by simp)
          · rw [if_neg c37] at H
            exact absurd H (by simp)
        · rw [if_neg c36] at H
          exact absurd H (by simp)
      · rw [if_neg c33] at H
        exact absurd H (by simp)
    · rw [if_neg c32] at H
      exact absurd H (by simp)

/-- THE ONE PURE STATEMENT of omnibuslaw10_ClockMiddles: yours. -/
def omnibuslaw10_ClockMiddles.Pure : Prop := ∀ (a0 : Int) (l1 : List Int) (l2 : List Int) (a3 : Int), (Lit.int .i64 a0).wf = true → l1.length ≤ maxLen → l1.length * 8 ≤ 140737488351232 → (∀ x ∈ l1, (Lit.int .i64 x).wf = true) → l2.length ≤ maxLen → l2.length * 8 ≤ 140737488351232 → (∀ x ∈ l2, (Lit.int .i64 x).wf = true) → (Lit.int .i64 a3).wf = true → ∃ k, omnibuslaw10_ClockMiddles.f k a0 l1 l2 a3 = some true
theorem omnibuslaw10_ClockMiddles.walk (P : omnibuslaw10_ClockMiddles.Pure) (a0 : Int) (a1 : Option Addr) (len1 cap1 : Nat) (z1 : List Int) (a2 : Option Addr) (len2 cap2 : Nat) (z2 : List Int) (a3 : Int) (w : World) (w0 : (Lit.int .i64 a0).wf = true) (w1 : (a1 = none ∧ len1 = 0 ∧ cap1 = 0 ∧ z1 = []) ∨ ∃ x, a1 = some x ∧ len1 ≤ cap1 ∧ cap1 ≤ maxLen ∧ z1.length = cap1 ∧ (∀ i, i < z1.length → w.cell? (x.add i) = some (.int .i64 (z1.getD i 0))) ∧ ∀ n ∈ z1, (Lit.int .i64 n).wf = true) (y1 : len1 * 8 ≤ 140737488351232) (w2 : (a2 = none ∧ len2 = 0 ∧ cap2 = 0 ∧ z2 = []) ∨ ∃ x, a2 = some x ∧ len2 ≤ cap2 ∧ cap2 ≤ maxLen ∧ z2.length = cap2 ∧ (∀ i, i < z2.length → w.cell? (x.add i) = some (.int .i64 (z2.getD i 0))) ∧ ∀ n ∈ z2, (Lit.int .i64 n).wf = true) (y2 : len2 * 8 ≤ 140737488351232) (w3 : (Lit.int .i64 a3).wf = true) :
    Calls Try.prog 4 #[.int .i64 a0, .slice a1 len1 cap1, .slice a2 len2 cap2, .int .i64 a3] w fun e w' => e = .returned (.bool true) ∧ Below w.heap.size w w' := by
  obtain ⟨l1, rfl, hr1, hm1, hw1, hc1⟩ := ReadsInt.ofRowC w1
  obtain ⟨l2, rfl, hr2, hm2, hw2, hc2⟩ := ReadsInt.ofRowC w2
  obtain ⟨k, h⟩ := P a0 l1 l2 a3 w0 hm1 y1 hw1 hm2 y2 hw2 w3
  refine (omnibuslaw10_ClockMiddles.calls k a0 _ _ l1 _ _ l2 a3 true w (Kd.C_of_reads (d := (0 : Int)) (h1 := fun _ => rfl) hr1) hc1 (Kd.C_of_reads (d := (0 : Int)) (h1 := fun _ => rfl) hr2) hc2 h).mono ?_
  rintro e w' ⟨rfl, hd⟩
  exact ⟨rfl, hd⟩

end Go.Proofs.Ytbcbkokpbobngaa.PA
