-- Laid by a program of this session (wip/myprint.py, over the kit's print.py), not by print.sh.
import Derived.Test.YtbcbkokpbobngaaPTx0
import Derived.Test.YtbcbkokpbobngaaPTx1
import Derived.Test.YtbcbkokpbobngaaPTx3
import Derived.Test.YtbcbkokpbobngaaPTx5
namespace Go.Proofs.Ytbcbkokpbobngaa.PT
open Go.RowKit Go.Proofs.YtbcbkokpbobngaaW.PrintWords Go.Proofs.YtbcbkokpbobngaaW.PrintLast Go.Proofs.YtbcbkokpbobngaaW.PrintMore
attribute [local go_sem] max2_int min2_int max_two min_two max_three min_three max_four min_four   -- for this text's walks alone
set_option linter.unusedVariables false
set_option linter.unusedSimpArgs false

/-! ### omnibuslaw10_ClockTells: function 3 -/
mutual
def omnibuslaw10_ClockTells.l0 : Nat → Int → Int → Int → Bool → List Int → List (S24) → Int → Int → Option (Bool)
  | 0, _, _, _, _, _, _, _, _ => none
  | k + 1, x0, x1, x2, x9, x10, x56, x57, x58 => if x58 < x57 then (if 0 ≤ x58 then (if x58 < (x56.length : Int) then ((clock_Elapsed.f ((rd_T24 x56 x58).f0) ((rd_T24 x56 x58).f1)).bind fun bt226 => ((omnibusref10_Elapsed.f ((rd_T24 x56 x58).f0) ((rd_T24 x56 x58).f1)).bind fun bt228 => ((clock_Macro.f ((rd_T24 x56 x58).f0) ((rd_T24 x56 x58).f1)).bind fun bt230 => ((omnibusref10_Macro.f ((rd_T24 x56 x58).f0) ((rd_T24 x56 x58).f1)).bind fun bt233 => (if bt226.1 = bt228.1 then (if bt226.2 = bt228.2 then (if bt230.1 = bt233.1 then (if bt230.2.1 = bt233.2.1 then (if bt230.2.2 = bt233.2.2 then (omnibuslaw10_ClockTells.l0 k x0 x1 x2 x9 x10 x56 x57 (wrap64 (x58 + 1))) else (some false)) else (some false)) else (some false)) else (some false)) else (some false)))))) else (none)) else (none)) else ((omnibuslaw10_pick.f x2 9).bind fun t236 => ((some (([x2, t236] : List Int) : List Int)).bind fun y237 => (omnibuslaw10_ClockTells.l1 k x0 x1 x9 x10 y237 (y237.length : Int) 0)))
def omnibuslaw10_ClockTells.l1 : Nat → Int → Int → Bool → List Int → List Int → Int → Int → Option (Bool)
  | 0, _, _, _, _, _, _, _ => none
  | k + 1, x0, x1, x9, x10, x123, x124, x125 => if x125 < x124 then (if 0 ≤ x125 then (if x125 < (x123.length : Int) then ((clock_Middle.f k (rd x123 x125) x10).bind fun bt243 => ((omnibusref10_Middle.f k (rd x123 x125) x10).bind fun bt245 => (if bt243.1 = bt245.1 then (if bt243.2 = bt245.2 then ((clock_Correct.f k x0 (rd x123 x125) x1 x10).bind fun t247 => ((omnibusref10_Correct.f k x0 (rd x123 x125) x1 x10).bind fun t248 => (if t247 = t248 then ((omnibuslaw10_pick.f x1 50).bind fun t249 => ((clock_Correct.f k x0 (rd x123 x125) t249 x10).bind fun t250 => ((omnibuslaw10_pick.f x1 50).bind fun t251 => ((omnibusref10_Correct.f k x0 (rd x123 x125) t251 x10).bind fun t252 => (if t250 = t252 then (omnibuslaw10_ClockTells.l1 k x0 x1 x9 x10 x123 x124 (wrap64 (x125 + 1))) else (some false)))))) else (some false)))) else (some false)) else (some false)))) else (none)) else (none)) else (if x9 = true then ((clock_Spread.f k x10).bind fun t240 => ((omnibusref10_Spread.f k x10).bind fun t241 => (some (t240 == t241)))) else (some false))
end
def omnibuslaw10_ClockTells.f (k : Nat) (a0 : Int) (a1 : Int) (a2 : Int) (l3 : List Int) : Option (Bool) := (omnibuslaw10_awake.f k).bind fun t214 => (if 0 ≤ (mn (l3.length : Int) 80) then (if (mn (l3.length : Int) 80) ≤ (l3.length : Int) then ((omnibuslaw10_pick.f a0 1099511627776).bind fun t216 => ((omnibuslaw10_pick.f a1 2001).bind fun t217 => ((omnibuslaw10_pick.f a1 1048576).bind fun t218 => ((omnibuslaw10_pick.f a0 2199023255552).bind fun t219 => ((omnibuslaw10_pick.f a1 100).bind fun t220 => ((some (([(⟨a0, a1⟩ : S24), (⟨t216, wrap64 (t217 - 1000)⟩ : S24), (⟨a0, wrap64 (1 + t218)⟩ : S24), (⟨wrap64 (t219 - 1099511627776), wrap64 (1 + t220)⟩ : S24)] : List (S24)) : List (S24))).bind fun y221 => (omnibuslaw10_ClockTells.l0 k a0 a1 a2 t214 (l3.take ((mn (l3.length : Int) 80) : Int).toNat) y221 (y221.length : Int) 0))))))) else (none)) else (none))
theorem omnibuslaw10_ClockTells.mono_l : ∀ k, (∀ y0 y1 y2 y3 y4 y5 y6 y7, LeO (omnibuslaw10_ClockTells.l0 k y0 y1 y2 y3 y4 y5 y6 y7) (omnibuslaw10_ClockTells.l0 (k + 1) y0 y1 y2 y3 y4 y5 y6 y7)) ∧ (∀ y0 y1 y2 y3 y4 y5 y6, LeO (omnibuslaw10_ClockTells.l1 k y0 y1 y2 y3 y4 y5 y6) (omnibuslaw10_ClockTells.l1 (k + 1) y0 y1 y2 y3 y4 y5 y6))
  | 0 => ⟨fun _ _ _ _ _ _ _ _ r h => by simp [omnibuslaw10_ClockTells.l0] at h, fun _ _ _ _ _ _ _ r h => by simp [omnibuslaw10_ClockTells.l1] at h⟩
  | k + 1 => by
    obtain ⟨ih0, ih1⟩ := omnibuslaw10_ClockTells.mono_l k
    refine ⟨?_, ?_⟩
    · intro y0 y1 y2 y3 y4 y5 y6 y7
      unfold omnibuslaw10_ClockTells.l0
      repeat' first
      | (with_reducible exact ih0 _ _ _ _ _ _ _ _)
      | (with_reducible exact ih1 _ _ _ _ _ _ _)
      | (with_reducible exact clock_Correct.mono _ _ _ _ _)
      | (with_reducible exact clock_Middle.mono _ _ _)
      | (with_reducible exact clock_Spread.mono _ _)
      | (with_reducible exact omnibuslaw10_awake.mono _)
      | (with_reducible exact omnibusref10_Correct.mono _ _ _ _ _)
      | (with_reducible exact omnibusref10_Middle.mono _ _ _)
      | (with_reducible exact omnibusref10_Spread.mono _ _)
      | (with_reducible exact LeO.refl _)
      | (with_reducible exact LeO.none _)
      | (with_reducible refine LeO.ite ?_ ?_)
      | (with_reducible refine LeO.bind ?_ (fun _ => ?_))
      | exact ih0 _ _ _ _ _ _ _ _
      | exact ih1 _ _ _ _ _ _ _
      | exact clock_Correct.mono _ _ _ _ _
      | exact clock_Middle.mono _ _ _
      | exact clock_Spread.mono _ _
      | exact omnibuslaw10_awake.mono _
      | exact omnibusref10_Correct.mono _ _ _ _ _
      | exact omnibusref10_Middle.mono _ _ _
      | exact omnibusref10_Spread.mono _ _
      | exact LeO.none _
      | refine LeO.ite ?_ ?_
      | refine LeO.bind ?_ (fun _ => ?_)
    · intro y0 y1 y2 y3 y4 y5 y6
      unfold omnibuslaw10_ClockTells.l1
      repeat' first
      | (with_reducible exact ih0 _ _ _ _ _ _ _ _)
      | (with_reducible exact ih1 _ _ _ _ _ _ _)
      | (with_reducible exact clock_Correct.mono _ _ _ _ _)
      | (with_reducible exact clock_Middle.mono _ _ _)
      | (with_reducible exact clock_Spread.mono _ _)
      | (with_reducible exact omnibuslaw10_awake.mono _)
      | (with_reducible exact omnibusref10_Correct.mono _ _ _ _ _)
      | (with_reducible exact omnibusref10_Middle.mono _ _ _)
      | (with_reducible exact omnibusref10_Spread.mono _ _)
      | (with_reducible exact LeO.refl _)
      | (with_reducible exact LeO.none _)
      | (with_reducible refine LeO.ite ?_ ?_)
      | (with_reducible refine LeO.bind ?_ (fun _ => ?_))
      | exact ih0 _ _ _ _ _ _ _ _
      | exact ih1 _ _ _ _ _ _ _
      | exact clock_Correct.mono _ _ _ _ _
      | exact clock_Middle.mono _ _ _
      | exact clock_Spread.mono _ _
      | exact omnibuslaw10_awake.mono _
      | exact omnibusref10_Correct.mono _ _ _ _ _
      | exact omnibusref10_Middle.mono _ _ _
      | exact omnibusref10_Spread.mono _ _
      | exact LeO.none _
      | refine LeO.ite ?_ ?_
      | refine LeO.bind ?_ (fun _ => ?_)
theorem omnibuslaw10_ClockTells.mono : ∀ a0 a1 a2 a3 k, LeO (omnibuslaw10_ClockTells.f k a0 a1 a2 a3) (omnibuslaw10_ClockTells.f (k + 1) a0 a1 a2 a3) := by
  intro a0 a1 a2 a3 k
  obtain ⟨ih0, ih1⟩ := omnibuslaw10_ClockTells.mono_l k
  unfold omnibuslaw10_ClockTells.f
  repeat' first
      | (with_reducible exact ih0 _ _ _ _ _ _ _ _)
      | (with_reducible exact ih1 _ _ _ _ _ _ _)
      | (with_reducible exact clock_Correct.mono _ _ _ _ _)
      | (with_reducible exact clock_Middle.mono _ _ _)
      | (with_reducible exact clock_Spread.mono _ _)
      | (with_reducible exact omnibuslaw10_awake.mono _)
      | (with_reducible exact omnibusref10_Correct.mono _ _ _ _ _)
      | (with_reducible exact omnibusref10_Middle.mono _ _ _)
      | (with_reducible exact omnibusref10_Spread.mono _ _)
      | (with_reducible exact LeO.refl _)
      | (with_reducible exact LeO.none _)
      | (with_reducible refine LeO.ite ?_ ?_)
      | (with_reducible refine LeO.bind ?_ (fun _ => ?_))
      | exact ih0 _ _ _ _ _ _ _ _
      | exact ih1 _ _ _ _ _ _ _
      | exact clock_Correct.mono _ _ _ _ _
      | exact clock_Middle.mono _ _ _
      | exact clock_Spread.mono _ _
      | exact omnibuslaw10_awake.mono _
      | exact omnibusref10_Correct.mono _ _ _ _ _
      | exact omnibusref10_Middle.mono _ _ _
      | exact omnibusref10_Spread.mono _ _
      | exact LeO.none _
      | refine LeO.ite ?_ ?_
      | refine LeO.bind ?_ (fun _ => ?_)
theorem clock_Correct.calls_n {n : Nat} (k : Nat) (a0 : Int) (a1 : Int) (a2 : Int) (A3 : Option Addr) (c3 : Nat) (l3 : List Int) (r : Int) (w : World) (hr3 : Kd.C (Kd.int .i64) w A3 l3.length l3) (hc3 : l3.length ≤ c3) (h : clock_Correct.f k a0 a1 a2 l3 = some r) (hn : l3.length = n) :
    Calls Try.prog 18 #[.int .i64 a0, .int .i64 a1, .int .i64 a2, .slice A3 n c3] w fun e w' => e = .returned (.int .i64 r) ∧ Below w.heap.size w w' := by
  subst hn
  exact clock_Correct.calls k a0 a1 a2 A3 c3 l3 r w hr3 hc3 h
theorem omnibusref10_Correct.calls_n {n : Nat} (k : Nat) (a0 : Int) (a1 : Int) (a2 : Int) (A3 : Option Addr) (c3 : Nat) (l3 : List Int) (r : Int) (w : World) (hr3 : Kd.C (Kd.int .i64) w A3 l3.length l3) (hc3 : l3.length ≤ c3) (h : omnibusref10_Correct.f k a0 a1 a2 l3 = some r) (hn : l3.length = n) :
    Calls Try.prog 19 #[.int .i64 a0, .int .i64 a1, .int .i64 a2, .slice A3 n c3] w fun e w' => e = .returned (.int .i64 r) ∧ Below w.heap.size w w' := by
  subst hn
  exact omnibusref10_Correct.calls k a0 a1 a2 A3 c3 l3 r w hr3 hc3 h
theorem clock_Spread.calls_n {n : Nat} (k : Nat) (A0 : Option Addr) (c0 : Nat) (l0 : List Int) (r : Int) (w : World) (hr0 : Kd.C (Kd.int .i64) w A0 l0.length l0) (hc0 : l0.length ≤ c0) (h : clock_Spread.f k l0 = some r) (hn : l0.length = n) :
    Calls Try.prog 20 #[.slice A0 n c0] w fun e w' => e = .returned (.int .i64 r) ∧ Below w.heap.size w w' := by
  subst hn
  exact clock_Spread.calls k A0 c0 l0 r w hr0 hc0 h
theorem omnibusref10_Spread.calls_n {n : Nat} (k : Nat) (A0 : Option Addr) (c0 : Nat) (l0 : List Int) (r : Int) (w : World) (hr0 : Kd.C (Kd.int .i64) w A0 l0.length l0) (hc0 : l0.length ≤ c0) (h : omnibusref10_Spread.f k l0 = some r) (hn : l0.length = n) :
    Calls Try.prog 21 #[.slice A0 n c0] w fun e w' => e = .returned (.int .i64 r) ∧ Below w.heap.size w w' := by
  subst hn
  exact omnibusref10_Spread.calls k A0 c0 l0 r w hr0 hc0 h
set_option maxHeartbeats 8000000 in
set_option maxRecDepth 100000 in
theorem omnibuslaw10_ClockTells.calls (k : Nat) (a0 : Int) (a1 : Int) (a2 : Int) (A3 : Option Addr) (c3 : Nat) (l3 : List Int) (r : Bool) (w : World) (hr3 : Kd.C (Kd.int .i64) w A3 l3.length l3) (hc3 : l3.length ≤ c3) (h : omnibuslaw10_ClockTells.f k a0 a1 a2 l3 = some r) :
    Calls Try.prog 3 #[.int .i64 a0, .int .i64 a1, .int .i64 a2, .slice A3 l3.length c3] w fun e w' => e = .returned (.bool r) ∧ Below w.heap.size w w' := by
  have hu24 := Try.underlying24
  have HR3 := Aside0.mk hr3
  have HC3 := Aside0.mk hc3
  clear hr3 hc3
  have HB := Aside0.mk (Below.refl w.heap.size w)
  have H : ((omnibuslaw10_awake.f k).bind fun t214 => (if 0 ≤ (mn (l3.length : Int) 80) then (if (mn (l3.length : Int) 80) ≤ (l3.length : Int) then ((omnibuslaw10_pick.f a0 1099511627776).bind fun t216 => ((omnibuslaw10_pick.f a1 2001).bind fun t217 => ((omnibuslaw10_pick.f a1 1048576).bind fun t218 => ((omnibuslaw10_pick.f a0 2199023255552).bind fun t219 => ((omnibuslaw10_pick.f a1 100).bind fun t220 => ((some (([(⟨a0, a1⟩ : S24), (⟨t216, wrap64 (t217 - 1000)⟩ : S24), (⟨a0, wrap64 (1 + t218)⟩ : S24), (⟨wrap64 (t219 - 1099511627776), wrap64 (1 + t220)⟩ : S24)] : List (S24)) : List (S24))).bind fun y221 => (omnibuslaw10_ClockTells.l0 k a0 a1 a2 t214 (l3.take ((mn (l3.length : Int) 80) : Int).toNat) y221 (y221.length : Int) 0))))))) else (none)) else (none))) = some r := h
  clear h
  replace H := Option.bind_eq_some_iff.mp H
  obtain ⟨t214, A50, H⟩ := H
  replace H : (if 0 ≤ (mn (l3.length : Int) 80) then (if (mn (l3.length : Int) 80) ≤ (l3.length : Int) then ((omnibuslaw10_pick.f a0 1099511627776).bind fun t216 => ((omnibuslaw10_pick.f a1 2001).bind fun t217 => ((omnibuslaw10_pick.f a1 1048576).bind fun t218 => ((omnibuslaw10_pick.f a0 2199023255552).bind fun t219 => ((omnibuslaw10_pick.f a1 100).bind fun t220 => ((some (([(⟨a0, a1⟩ : S24), (⟨t216, wrap64 (t217 - 1000)⟩ : S24), (⟨a0, wrap64 (1 + t218)⟩ : S24), (⟨wrap64 (t219 - 1099511627776), wrap64 (1 + t220)⟩ : S24)] : List (S24)) : List (S24))).bind fun y221 => (omnibuslaw10_ClockTells.l0 k a0 a1 a2 t214 (l3.take ((mn (l3.length : Int) 80) : Int).toNat) y221 (y221.length : Int) 0))))))) else (none)) else (none)) = some r := H
  have A5 := Aside0.mk A50
  clear A50
  obtain ⟨ji6, hji6⟩ : ∃ j_ : Int, (mn (l3.length : Int) 80) = j_ := ⟨_, rfl⟩
  replace H : (if 0 ≤ (ji6) then (if (ji6) ≤ (l3.length : Int) then ((omnibuslaw10_pick.f a0 1099511627776).bind fun t216 => ((omnibuslaw10_pick.f a1 2001).bind fun t217 => ((omnibuslaw10_pick.f a1 1048576).bind fun t218 => ((omnibuslaw10_pick.f a0 2199023255552).bind fun t219 => ((omnibuslaw10_pick.f a1 100).bind fun t220 => ((some (([(⟨a0, a1⟩ : S24), (⟨t216, wrap64 (t217 - 1000)⟩ : S24), (⟨a0, wrap64 (1 + t218)⟩ : S24), (⟨wrap64 (t219 - 1099511627776), wrap64 (1 + t220)⟩ : S24)] : List (S24)) : List (S24))).bind fun y221 => (omnibuslaw10_ClockTells.l0 k a0 a1 a2 t214 (l3.take ((ji6) : Int).toNat) y221 (y221.length : Int) 0))))))) else (none)) else (none)) = some r := by first | (rw [hji6] at H; exact H) | (simp only [hji6] at H ⊢; exact H)
  (try rw [hji6] at A5)
  (try (have hji6h : ji6 ≤ 80 := by (rw [← hji6]; unfold mn; (repeat' split) <;> omega)))
  (try (have hji6g : ji6 ≤ 64 := by omega))
  (try (have hji6l : 0 ≤ ji6 := by (rw [← hji6]; unfold mn; (repeat' split) <;> omega)))
  (try (have hji6m : 0 ≤ ji6 := by omega))
  have hji6_ : (if 80 < (l3.length : Int) then 80 else (l3.length : Int)) = ji6 := hji6
  by_cases c7 : 0 ≤ (ji6)
  · rw [if_pos c7] at H
    have c7b0 := eq_true c7
    have c7b1 : decide (0 ≤ (ji6)) = true := decide_eq_true c7
    clear c7
    by_cases c8 : (ji6) ≤ (l3.length : Int)
    · rw [if_pos c8] at H
      have c8b0 := eq_true c8
      have c8b1 : decide ((ji6) ≤ (l3.length : Int)) = true := decide_eq_true c8
      clear c8
      replace H := Option.bind_eq_some_iff.mp H
      obtain ⟨t216, A90, H⟩ := H
      replace H : ((omnibuslaw10_pick.f a1 2001).bind fun t217 => ((omnibuslaw10_pick.f a1 1048576).bind fun t218 => ((omnibuslaw10_pick.f a0 2199023255552).bind fun t219 => ((omnibuslaw10_pick.f a1 100).bind fun t220 => ((some (([(⟨a0, a1⟩ : S24), (⟨t216, wrap64 (t217 - 1000)⟩ : S24), (⟨a0, wrap64 (1 + t218)⟩ : S24), (⟨wrap64 (t219 - 1099511627776), wrap64 (1 + t220)⟩ : S24)] : List (S24)) : List (S24))).bind fun y221 => (omnibuslaw10_ClockTells.l0 k a0 a1 a2 t214 (l3.take ((ji6) : Int).toNat) y221 (y221.length : Int) 0)))))) = some r := H
      have A9 := Aside0.mk A90
      clear A90
      replace H := Option.bind_eq_some_iff.mp H
      obtain ⟨t217, A100, H⟩ := H
      replace H : ((omnibuslaw10_pick.f a1 1048576).bind fun t218 => ((omnibuslaw10_pick.f a0 2199023255552).bind fun t219 => ((omnibuslaw10_pick.f a1 100).bind fun t220 => ((some (([(⟨a0, a1⟩ : S24), (⟨t216, wrap64 (t217 - 1000)⟩ : S24), (⟨a0, wrap64 (1 + t218)⟩ : S24), (⟨wrap64 (t219 - 1099511627776), wrap64 (1 + t220)⟩ : S24)] : List (S24)) : List (S24))).bind fun y221 => (omnibuslaw10_ClockTells.l0 k a0 a1 a2 t214 (l3.take ((ji6) : Int).toNat) y221 (y221.length : Int) 0))))) = some r := H
      have A10 := Aside0.mk A100
      clear A100
      replace H := Option.bind_eq_some_iff.mp H
      obtain ⟨t218, A110, H⟩ := H
      replace H : ((omnibuslaw10_pick.f a0 2199023255552).bind fun t219 => ((omnibuslaw10_pick.f a1 100).bind fun t220 => ((some (([(⟨a0, a1⟩ : S24), (⟨t216, wrap64 (t217 - 1000)⟩ : S24), (⟨a0, wrap64 (1 + t218)⟩ : S24), (⟨wrap64 (t219 - 1099511627776), wrap64 (1 + t220)⟩ : S24)] : List (S24)) : List (S24))).bind fun y221 => (omnibuslaw10_ClockTells.l0 k a0 a1 a2 t214 (l3.take ((ji6) : Int).toNat) y221 (y221.length : Int) 0)))) = some r := H
      have A11 := Aside0.mk A110
      clear A110
      replace H := Option.bind_eq_some_iff.mp H
      obtain ⟨t219, A120, H⟩ := H
      replace H : ((omnibuslaw10_pick.f a1 100).bind fun t220 => ((some (([(⟨a0, a1⟩ : S24), (⟨t216, wrap64 (t217 - 1000)⟩ : S24), (⟨a0, wrap64 (1 + t218)⟩ : S24), (⟨wrap64 (t219 - 1099511627776), wrap64 (1 + t220)⟩ : S24)] : List (S24)) : List (S24))).bind fun y221 => (omnibuslaw10_ClockTells.l0 k a0 a1 a2 t214 (l3.take ((ji6) : Int).toNat) y221 (y221.length : Int) 0))) = some r := H
      have A12 := Aside0.mk A120
      clear A120
      replace H := Option.bind_eq_some_iff.mp H
      obtain ⟨t220, A130, H⟩ := H
      replace H : ((some (([(⟨a0, a1⟩ : S24), (⟨t216, wrap64 (t217 - 1000)⟩ : S24), (⟨a0, wrap64 (1 + t218)⟩ : S24), (⟨wrap64 (t219 - 1099511627776), wrap64 (1 + t220)⟩ : S24)] : List (S24)) : List (S24))).bind fun y221 => (omnibuslaw10_ClockTells.l0 k a0 a1 a2 t214 (l3.take ((ji6) : Int).toNat) y221 (y221.length : Int) 0)) = some r := H
      have A13 := Aside0.mk A130
      clear A130
      obtain ⟨y221, hy221⟩ : ∃ y_ : List (S24), y_ = (([(⟨a0, a1⟩ : S24), (⟨t216, wrap64 (t217 - 1000)⟩ : S24), (⟨a0, wrap64 (1 + t218)⟩ : S24), (⟨wrap64 (t219 - 1099511627776), wrap64 (1 + t220)⟩ : S24)] : List (S24))) := ⟨_, rfl⟩
      replace H : (omnibuslaw10_ClockTells.l0 k a0 a1 a2 t214 (l3.take ((ji6) : Int).toNat) y221 (y221.length : Int) 0) = some r := by first | (rw [hy221]; with_reducible exact H) | (have H2_ := (Option.bind_some _ _).symm.trans H; rw [hy221]; with_reducible exact H2_) | (have H2_ := (Option.bind_some _ _).symm.trans H; with_reducible exact H2_) | with_reducible exact H | (rw [hy221]; exact H) | exact H
      have Ny221 := Aside0.mk hy221
      clear hy221
      have H' := Aside0.mk H
      clear H
      go_enter Try.func3, Try.ntmps3
      go_wp2_with (first | ((with_reducible refine gate_callee (f := 10) rfl ?_); refine goesL_ (some 29) rfl rfl Try.func10 (by kernel_rfl) rfl #[] rfl (by (try simp only [List.map_toArray, List.map_cons, List.map_nil]); first | done | rfl | (simp only [List.length_drop, List.length_take]; rfl)) ?_; (with_reducible refine (omnibuslaw10_awake.calls k  t214 _ A5.out).mono ?_); rintro e w14 ⟨rfl, hb⟩; refine ⟨_, rfl, ?_⟩; have n0_ := Aside0.mk (below_step (by repeat (first | (with_reducible first | exact HB.out | apply below_alloc | apply pw_below_drewN | apply below_drew1) | exact HB.out)) hb); clear HB; have HB := n0_; clear n0_; (try clear hb); (try clear hb2); (try clear hk); (try clear hi); obtain ⟨i015, hi015, _, hsz15, _⟩ := info_parts info3; obtain ⟨hcut15, hA15, hC15⟩ := print_take_of (P := Try.prog) (Value.int .i64) 0 22 3 .i64 Try.underlying22 hi015 hsz15 A3 c3 l3 (ji6) (of_decide_eq_true (by first | (with_reducible assumption) | assumption)) (of_decide_eq_true (by first | (with_reducible assumption) | assumption)) HC3.out; have HR215 := Aside0.mk (Kd.C_of_reads (h1 := fun _ => rfl) (hA15 _ (Kd.reads_of_C HR3.out))); have HC215 := Aside0.mk hC15; clear hA15 hC15 hi015 hsz15) | ((with_reducible refine gate_callee (f := 11) rfl ?_); refine goesL_ (some 39) rfl rfl Try.func11 (by kernel_rfl) rfl #[.int .i64 a0, .int .i64 1099511627776] rfl (by (try simp only [List.map_toArray, List.map_cons, List.map_nil]); first | done | rfl | (simp only [List.length_drop, List.length_take]; rfl)) ?_; (with_reducible refine (omnibuslaw10_pick.calls a0 1099511627776 t216 _ A9.out).mono ?_); rintro e w' ⟨rfl, ⟨nd, rfl⟩⟩; refine ⟨_, rfl, ?_⟩) | ((with_reducible refine gate_callee (f := 11) rfl ?_); refine goesL_ (some 41) rfl rfl Try.func11 (by kernel_rfl) rfl #[.int .i64 a1, .int .i64 2001] rfl (by (try simp only [List.map_toArray, List.map_cons, List.map_nil]); first | done | rfl | (simp only [List.length_drop, List.length_take]; rfl)) ?_; (with_reducible refine (omnibuslaw10_pick.calls a1 2001 t217 _ A10.out).mono ?_); rintro e w' ⟨rfl, ⟨nd, rfl⟩⟩; refine ⟨_, rfl, ?_⟩) | ((with_reducible refine gate_callee (f := 11) rfl ?_); refine goesL_ (some 46) rfl rfl Try.func11 (by kernel_rfl) rfl #[.int .i64 a1, .int .i64 1048576] rfl (by (try simp only [List.map_toArray, List.map_cons, List.map_nil]); first | done | rfl | (simp only [List.length_drop, List.length_take]; rfl)) ?_; (with_reducible refine (omnibuslaw10_pick.calls a1 1048576 t218 _ A11.out).mono ?_); rintro e w' ⟨rfl, ⟨nd, rfl⟩⟩; refine ⟨_, rfl, ?_⟩) | ((with_reducible refine gate_callee (f := 11) rfl ?_); refine goesL_ (some 50) rfl rfl Try.func11 (by kernel_rfl) rfl #[.int .i64 a0, .int .i64 2199023255552] rfl (by (try simp only [List.map_toArray, List.map_cons, List.map_nil]); first | done | rfl | (simp only [List.length_drop, List.length_take]; rfl)) ?_; (with_reducible refine (omnibuslaw10_pick.calls a0 2199023255552 t219 _ A12.out).mono ?_); rintro e w' ⟨rfl, ⟨nd, rfl⟩⟩; refine ⟨_, rfl, ?_⟩) | ((with_reducible refine gate_callee (f := 11) rfl ?_); refine goesL_ (some 53) rfl rfl Try.func11 (by kernel_rfl) rfl #[.int .i64 a1, .int .i64 100] rfl (by (try simp only [List.map_toArray, List.map_cons, List.map_nil]); first | done | rfl | (simp only [List.length_drop, List.length_take]; rfl)) ?_; (with_reducible refine (omnibuslaw10_pick.calls a1 100 t220 _ A13.out).mono ?_); rintro e w' ⟨rfl, ⟨nd, rfl⟩⟩; refine ⟨_, rfl, ?_⟩) | ((with_reducible refine gate_dst (N := 56) rfl ?_); refine Kd.R_lit k24 _ 24 ?hg (N := 56) ?hd (xs := ([(⟨a0, a1⟩ : S24), (⟨t216, wrap64 (t217 - 1000)⟩ : S24), (⟨a0, wrap64 (1 + t218)⟩ : S24), (⟨wrap64 (t219 - 1099511627776), wrap64 (1 + t220)⟩ : S24)] : List (S24))) (inner := [.int .i64 a0, .int .i64 a1, .int .i64 t216, .int .i64 (wrap64 (t217 - 1000)), .int .i64 a0, .int .i64 (wrap64 (1 + t218)), .int .i64 (wrap64 (t219 - 1099511627776)), .int .i64 (wrap64 (1 + t220))]) (ok := fun _ => True) (okp := fun _ => True) ?hr ?hp (fun _ hk => hk) trivial (Below.refl _ _) (Nat.le_refl _) (by simp) ?_; (case hd => rfl); (case hg => rfl); (case hr => first | (go_simp; done) | (go_simp; rfl)); (case hp => exact (Reps.c2 (show Kd.M k24 _ _ _ (⟨a0, a1⟩ : S24) [.int .i64 a0, .int .i64 a1] from (k24_mkM _ _ _ (⟨a0, a1⟩ : S24) )) (Reps.c2 (show Kd.M k24 _ _ _ (⟨t216, wrap64 (t217 - 1000)⟩ : S24) [.int .i64 t216, .int .i64 (wrap64 (t217 - 1000))] from (k24_mkM _ _ _ (⟨t216, wrap64 (t217 - 1000)⟩ : S24) )) (Reps.c2 (show Kd.M k24 _ _ _ (⟨a0, wrap64 (1 + t218)⟩ : S24) [.int .i64 a0, .int .i64 (wrap64 (1 + t218))] from (k24_mkM _ _ _ (⟨a0, wrap64 (1 + t218)⟩ : S24) )) (Reps.c2 (show Kd.M k24 _ _ _ (⟨wrap64 (t219 - 1099511627776), wrap64 (1 + t220)⟩ : S24) [.int .i64 (wrap64 (t219 - 1099511627776)), .int .i64 (wrap64 (1 + t220))] from (k24_mkM _ _ _ (⟨wrap64 (t219 - 1099511627776), wrap64 (1 + t220)⟩ : S24) )) (Reps.none _ _)))))); intro v222 w16 ho17 hb hg_ hnew_; clear hg_ hnew_; (first | rw [← Ny221.out] at ho17 | (simp only [Int.reduceToNat] at ho17; rw [← Ny221.out] at ho17)); have n0_ := Aside0.mk (Kd.R_lower ho17 (below_size (by repeat (first | (with_reducible first | exact HB.out | apply below_alloc | apply pw_below_drewN | apply below_drew1) | exact HB.out)))); have n1_ := Aside0.mk (below_step (by repeat (first | (with_reducible first | exact HB.out | apply below_alloc | apply pw_below_drewN | apply below_drew1) | exact HB.out)) hb); clear HB; have HO223 := n0_; have HB := n1_; clear n0_ n1_; clear hb ho17; obtain ⟨Ao18, co18, eo18⟩ := Kd.R_slice HO223.out; subst eo18))
      go_loopg [58] k (fun kq v58 w' => ∃ (x58_1 : Int), v58 = .int .i64 x58_1 ∧ Aside0 (omnibuslaw10_ClockTells.l0 kq a0 a1 a2 t214 (l3.take ((ji6) : Int).toNat) y221 (y221.length : Int) x58_1 = some r) ∧ Aside0 (kq ≤ k) ∧ Aside0 (Kd.R k24 24 w' w.heap.size (fun _ => True) (.slice Ao18 y221.length co18) y221) ∧ Aside0 (Below w.heap.size w w'))
      case atStart => exact ⟨(0), (by first | rfl | (simp; done) | (simp [*]; done)), H', ⟨Nat.le_refl _⟩, ⟨by (with_reducible repeat (first | apply Kd.R_alloc | apply Kd.R_drewN | apply Kd.R_drew)); exact HO223.out⟩, ⟨by repeat (first | (with_reducible first | exact HB.out | apply below_alloc | apply pw_below_drewN | apply below_drew1) | exact HB.out)⟩⟩
      case round =>
        clear H'
        try clear c1
        try clear c2
        try clear p2
        try clear c3
        try clear p6
        try clear c7
        try clear c7b0
        try clear c7b1
        try clear c8
        try clear c8b0
        try clear c8b1
        try clear c10
        try clear c11
        obtain ⟨x58_1, rfl, HA, HK1, HO_56, HB⟩ := hrel
        cases gk with
        | zero => exact absurd HA.out (by simp [omnibuslaw10_ClockTells.l0])
        | succ k1 =>
          have H := HA.out
          clear HA
          simp only [omnibuslaw10_ClockTells.l0] at H
          by_cases c19 : x58_1 < (y221.length : Int)
          · rw [if_pos c19] at H
            have c19b0 : decide (x58_1 < (y221.length : Int)) = true := decide_eq_true c19
            clear c19
            by_cases c20 : 0 ≤ x58_1
            · rw [if_pos c20] at H
              have c20b0 : decide (0 ≤ x58_1) = true := decide_eq_true c20
              clear c20
              by_cases c21 : x58_1 < (y221.length : Int)
              · rw [if_pos c21] at H
                have c21b0 : decide (x58_1 < (y221.length : Int)) = true := decide_eq_true c21
                clear c21
                replace H := Option.bind_eq_some_iff.mp H
                obtain ⟨⟨t226, t227⟩, A220, H⟩ := H
                replace H : ((omnibusref10_Elapsed.f ((rd_T24 y221 x58_1).f0) ((rd_T24 y221 x58_1).f1)).bind fun bt228 => ((clock_Macro.f ((rd_T24 y221 x58_1).f0) ((rd_T24 y221 x58_1).f1)).bind fun bt230 => ((omnibusref10_Macro.f ((rd_T24 y221 x58_1).f0) ((rd_T24 y221 x58_1).f1)).bind fun bt233 => (if t226 = bt228.1 then (if t227 = bt228.2 then (if bt230.1 = bt233.1 then (if bt230.2.1 = bt233.2.1 then (if bt230.2.2 = bt233.2.2 then (omnibuslaw10_ClockTells.l0 k1 a0 a1 a2 t214 (l3.take ((ji6) : Int).toNat) y221 (y221.length : Int) (wrap64 (x58_1 + 1))) else (some false)) else (some false)) else (some false)) else (some false)) else (some false))))) = some r := H
                have A22 := Aside0.mk A220
                clear A220
                replace H := Option.bind_eq_some_iff.mp H
                obtain ⟨⟨t228, t229⟩, A230, H⟩ := H
                replace H : ((clock_Macro.f ((rd_T24 y221 x58_1).f0) ((rd_T24 y221 x58_1).f1)).bind fun bt230 => ((omnibusref10_Macro.f ((rd_T24 y221 x58_1).f0) ((rd_T24 y221 x58_1).f1)).bind fun bt233 => (if t226 = t228 then (if t227 = t229 then (if bt230.1 = bt233.1 then (if bt230.2.1 = bt233.2.1 then (if bt230.2.2 = bt233.2.2 then (omnibuslaw10_ClockTells.l0 k1 a0 a1 a2 t214 (l3.take ((ji6) : Int).toNat) y221 (y221.length : Int) (wrap64 (x58_1 + 1))) else (some false)) else (some false)) else (some false)) else (some false)) else (some false)))) = some r := H
                have A23 := Aside0.mk A230
                clear A230
                replace H := Option.bind_eq_some_iff.mp H
                obtain ⟨⟨t230, t231, t232⟩, A240, H⟩ := H
                replace H : ((omnibusref10_Macro.f ((rd_T24 y221 x58_1).f0) ((rd_T24 y221 x58_1).f1)).bind fun bt233 => (if t226 = t228 then (if t227 = t229 then (if t230 = bt233.1 then (if t231 = bt233.2.1 then (if t232 = bt233.2.2 then (omnibuslaw10_ClockTells.l0 k1 a0 a1 a2 t214 (l3.take ((ji6) : Int).toNat) y221 (y221.length : Int) (wrap64 (x58_1 + 1))) else (some false)) else (some false)) else (some false)) else (some false)) else (some false))) = some r := H
                have A24 := Aside0.mk A240
                clear A240
                replace H := Option.bind_eq_some_iff.mp H
                obtain ⟨⟨t233, t234, t235⟩, A250, H⟩ := H
                replace H : (if t226 = t228 then (if t227 = t229 then (if t230 = t233 then (if t231 = t234 then (if t232 = t235 then (omnibuslaw10_ClockTells.l0 k1 a0 a1 a2 t214 (l3.take ((ji6) : Int).toNat) y221 (y221.length : Int) (wrap64 (x58_1 + 1))) else (some false)) else (some false)) else (some false)) else (some false)) else (some false)) = some r := H
                have A25 := Aside0.mk A250
                clear A250
                by_cases c26 : t226 = t228
                · rw [if_pos c26] at H
                  have c26b0 : (t226 == t228) = true := beq_iff_eq.mpr c26
                  have c26b1 : (t226 != t228) = false := bne_eq_false_iff_eq.mpr c26
                  clear c26
                  by_cases c27 : t227 = t229
                  · rw [if_pos c27] at H
                    have c27b0 : (t227 == t229) = true := beq_iff_eq.mpr c27
                    have c27b1 : (t227 != t229) = false := bne_eq_false_iff_eq.mpr c27
                    clear c27
                    by_cases c28 : t230 = t233
                    · rw [if_pos c28] at H
                      have c28b0 : (t230 == t233) = true := beq_iff_eq.mpr c28
                      have c28b1 : (t230 != t233) = false := bne_eq_false_iff_eq.mpr c28
                      clear c28
                      by_cases c29 : t231 = t234
                      · rw [if_pos c29] at H
                        have c29b0 : (t231 == t234) = true := beq_iff_eq.mpr c29
                        have c29b1 : (t231 != t234) = false := bne_eq_false_iff_eq.mpr c29
                        clear c29
                        by_cases c30 : t232 = t235
                        · rw [if_pos c30] at H
                          have c30b0 : (t232 == t235) = true := beq_iff_eq.mpr c30
                          have c30b1 : (t232 != t235) = false := bne_eq_false_iff_eq.mpr c30
                          clear c30
                          have H' := Aside0.mk H
                          clear H
                          have p224 : 0 ≤ (x58_1 : Int) := of_decide_eq_true (by first | (with_reducible assumption) | assumption)
                          have q224 : x58_1 < (y221.length : Int) := of_decide_eq_true (by first | (with_reducible assumption) | assumption)
                          obtain ⟨ad224, e224, hx224_0, hx224_1⟩ := at_T24 (Kd.R_reads' HO_56.out).2.2 x58_1 p224 q224
                          cases e224
                          replace p224 := eq_true p224
                          replace q224 := eq_true q224
                          go_wp2_with (first | ((with_reducible refine gate_dst (N := 12) rfl ?_); refine box_event ?hg (N := 12) ?hd (cs := #[.int .i64 0, .int .i64 0]) (t := 24) ?hr ?_; (case hd => rfl); (case hg => rfl); (case hr => first | (go_simp; done) | (go_simp; rfl)); intro gb225 hg w31 hbox hb; have n0_ := Aside0.mk (Kd.R_below (Kd.R_elderB (by (with_reducible repeat (first | apply Kd.R_alloc | apply Kd.R_drewN | apply Kd.R_drew)); exact HO_56.out) gb225 (Nat.le_of_eq hg.symm)) hb); have n1_ := Aside0.mk (below_step (by repeat (first | (with_reducible first | exact HB.out | apply below_alloc | apply pw_below_drewN | apply below_drew1) | exact HB.out)) hb); have n2_ := Aside0.mk (hbox); have n3_ := Aside0.mk ((by rw [hg]; exact (below_size (by repeat (first | (with_reducible first | exact HB.out | apply below_alloc | apply pw_below_drewN | apply below_drew1) | exact HB.out))) : w.heap.size ≤ gb225)); have n4_ := Aside0.mk ((by rw [hg]; exact (below_size (by repeat (first | (with_reducible first | exact HB.out | apply below_alloc | apply pw_below_drewN | apply below_drew1) | exact HB.out))) : w.heap.size ≤ gb225)); clear HO_56; clear HB; have HO_56 := n0_; have HB := n1_; have BK225 := n2_; have GW225 := n3_; have GE225 := n4_; clear n0_ n1_ n2_ n3_ n4_; clear hb hbox hg; have hcz32_0 : w31.cell? ⟨gb225, 0, none⟩ = some (.int .i64 0) := (blk_cell BK225.out 0).trans rfl; have hcz32_1 : w31.cell? ⟨gb225, 1, none⟩ = some (.int .i64 0) := (blk_cell BK225.out 1).trans rfl; have hfz32_0 := blk_frozen BK225.out 0; have hfz32_1 := blk_frozen BK225.out 1) | ((with_reducible refine gate_callee (f := 12) rfl ?_); refine goesL_ (some 67) rfl rfl Try.func12 (by kernel_rfl) rfl #[.int .i64 ((rd_T24 y221 x58_1).f0), .int .i64 ((rd_T24 y221 x58_1).f1)] rfl (by (try simp only [List.map_toArray, List.map_cons, List.map_nil]); first | done | rfl | (simp only [List.length_drop, List.length_take]; rfl)) ?_; (with_reducible refine (clock_Elapsed.calls ((rd_T24 y221 x58_1).f0) ((rd_T24 y221 x58_1).f1) t226 t227 _ A22.out).mono ?_); rintro e w' ⟨rfl, ⟨nd, rfl⟩⟩; refine ⟨_, rfl, ?_⟩) | ((with_reducible refine gate_callee (f := 13) rfl ?_); refine goesL_ (some 75) rfl rfl Try.func13 (by kernel_rfl) rfl #[.int .i64 ((rd_T24 y221 x58_1).f0), .int .i64 ((rd_T24 y221 x58_1).f1)] rfl (by (try simp only [List.map_toArray, List.map_cons, List.map_nil]); first | done | rfl | (simp only [List.length_drop, List.length_take]; rfl)) ?_; (with_reducible refine (omnibusref10_Elapsed.calls ((rd_T24 y221 x58_1).f0) ((rd_T24 y221 x58_1).f1) t228 t229 _ A23.out).mono ?_); rintro e w' ⟨rfl, ⟨nd, rfl⟩⟩; refine ⟨_, rfl, ?_⟩) | ((with_reducible refine gate_callee (f := 14) rfl ?_); refine goesL_ (some 83) rfl rfl Try.func14 (by kernel_rfl) rfl #[.int .i64 ((rd_T24 y221 x58_1).f0), .int .i64 ((rd_T24 y221 x58_1).f1)] rfl (by (try simp only [List.map_toArray, List.map_cons, List.map_nil]); first | done | rfl | (simp only [List.length_drop, List.length_take]; rfl)) ?_; (with_reducible refine (clock_Macro.calls ((rd_T24 y221 x58_1).f0) ((rd_T24 y221 x58_1).f1) t230 t231 t232 _ A24.out).mono ?_); rintro e w' ⟨rfl, ⟨nd, rfl⟩⟩; refine ⟨_, rfl, ?_⟩) | ((with_reducible refine gate_callee (f := 15) rfl ?_); refine goesL_ (some 92) rfl rfl Try.func15 (by kernel_rfl) rfl #[.int .i64 ((rd_T24 y221 x58_1).f0), .int .i64 ((rd_T24 y221 x58_1).f1)] rfl (by (try simp only [List.map_toArray, List.map_cons, List.map_nil]); first | done | rfl | (simp only [List.length_drop, List.length_take]; rfl)) ?_; (with_reducible refine (omnibusref10_Macro.calls ((rd_T24 y221 x58_1).f0) ((rd_T24 y221 x58_1).f1) t233 t234 t235 _ A25.out).mono ?_); rintro e w' ⟨rfl, ⟨nd, rfl⟩⟩; refine ⟨_, rfl, ?_⟩))
                          go_roundg k1
                          case measure => have := HK1.out; omega
                          case rel => exact ⟨(wrap64 (x58_1 + 1)), (by first | rfl | (simp; done) | (simp [*]; done)), H', ⟨by have := HK1.out; omega⟩, ⟨by (with_reducible repeat (first | apply Kd.R_alloc | apply Kd.R_drewN | apply Kd.R_drew)); exact Kd.R_mono (Kd.R_far (p := ⟨gb225, 1, none⟩) (Kd.R_far (p := ⟨gb225, 0, none⟩) (Kd.R_mono HO_56.out (fun k_ hk => (⟨hk, hk.2⟩ : _ ∧ k_ ≠ gb225))) (fun _ hk => hk.2) (.int .i64 ((rd_T24 y221 x58_1).f0))) (fun _ hk => hk.2) (.int .i64 ((rd_T24 y221 x58_1).f1))) (fun _ hk => trivial)⟩, ⟨by repeat (first | (with_reducible first | exact HB.out | apply below_alloc | apply pw_below_drewN | apply below_drew1 | refine below_set ?_ GE225.out) | exact HB.out)⟩⟩
                        · rw [if_neg c30] at H
                          have c30b0 : (t232 == t235) = false := beq_eq_false_iff_ne.mpr c30
                          have c30b1 : (t232 != t235) = true := bne_iff_ne.mpr c30
                          obtain rfl := Option.some.inj H
                          have p224 : 0 ≤ (x58_1 : Int) := of_decide_eq_true (by first | (with_reducible assumption) | assumption)
                          have q224 : x58_1 < (y221.length : Int) := of_decide_eq_true (by first | (with_reducible assumption) | assumption)
                          obtain ⟨ad224, e224, hx224_0, hx224_1⟩ := at_T24 (Kd.R_reads' HO_56.out).2.2 x58_1 p224 q224
                          cases e224
                          replace p224 := eq_true p224
                          replace q224 := eq_true q224
                          go_wp2_with (first | ((with_reducible refine gate_dst (N := 12) rfl ?_); refine box_event ?hg (N := 12) ?hd (cs := #[.int .i64 0, .int .i64 0]) (t := 24) ?hr ?_; (case hd => rfl); (case hg => rfl); (case hr => first | (go_simp; done) | (go_simp; rfl)); intro gb225 hg w33 hbox hb; have n0_ := Aside0.mk (Kd.R_below (Kd.R_elderB (by (with_reducible repeat (first | apply Kd.R_alloc | apply Kd.R_drewN | apply Kd.R_drew)); exact HO_56.out) gb225 (Nat.le_of_eq hg.symm)) hb); have n1_ := Aside0.mk (below_step (by repeat (first | (with_reducible first | exact HB.out | apply below_alloc | apply pw_below_drewN | apply below_drew1) | exact HB.out)) hb); have n2_ := Aside0.mk (hbox); have n3_ := Aside0.mk ((by rw [hg]; exact (below_size (by repeat (first | (with_reducible first | exact HB.out | apply below_alloc | apply pw_below_drewN | apply below_drew1) | exact HB.out))) : w.heap.size ≤ gb225)); have n4_ := Aside0.mk ((by rw [hg]; exact (below_size (by repeat (first | (with_reducible first | exact HB.out | apply below_alloc | apply pw_below_drewN | apply below_drew1) | exact HB.out))) : w.heap.size ≤ gb225)); clear HO_56; clear HB; have HO_56 := n0_; have HB := n1_; have BK225 := n2_; have GW225 := n3_; have GE225 := n4_; clear n0_ n1_ n2_ n3_ n4_; clear hb hbox hg; have hcz34_0 : w33.cell? ⟨gb225, 0, none⟩ = some (.int .i64 0) := (blk_cell BK225.out 0).trans rfl; have hcz34_1 : w33.cell? ⟨gb225, 1, none⟩ = some (.int .i64 0) := (blk_cell BK225.out 1).trans rfl; have hfz34_0 := blk_frozen BK225.out 0; have hfz34_1 := blk_frozen BK225.out 1) | ((with_reducible refine gate_callee (f := 12) rfl ?_); refine goesL_ (some 67) rfl rfl Try.func12 (by kernel_rfl) rfl #[.int .i64 ((rd_T24 y221 x58_1).f0), .int .i64 ((rd_T24 y221 x58_1).f1)] rfl (by (try simp only [List.map_toArray, List.map_cons, List.map_nil]); first | done | rfl | (simp only [List.length_drop, List.length_take]; rfl)) ?_; (with_reducible refine (clock_Elapsed.calls ((rd_T24 y221 x58_1).f0) ((rd_T24 y221 x58_1).f1) t226 t227 _ A22.out).mono ?_); rintro e w' ⟨rfl, ⟨nd, rfl⟩⟩; refine ⟨_, rfl, ?_⟩) | ((with_reducible refine gate_callee (f := 13) rfl ?_); refine goesL_ (some 75) rfl rfl Try.func13 (by kernel_rfl) rfl #[.int .i64 ((rd_T24 y221 x58_1).f0), .int .i64 ((rd_T24 y221 x58_1).f1)] rfl (by (try simp only [List.map_toArray, List.map_cons, List.map_nil]); first | done | rfl | (simp only [List.length_drop, List.length_take]; rfl)) ?_; (with_reducible refine (omnibusref10_Elapsed.calls ((rd_T24 y221 x58_1).f0) ((rd_T24 y221 x58_1).f1) t228 t229 _ A23.out).mono ?_); rintro e w' ⟨rfl, ⟨nd, rfl⟩⟩; refine ⟨_, rfl, ?_⟩) | ((with_reducible refine gate_callee (f := 14) rfl ?_); refine goesL_ (some 83) rfl rfl Try.func14 (by kernel_rfl) rfl #[.int .i64 ((rd_T24 y221 x58_1).f0), .int .i64 ((rd_T24 y221 x58_1).f1)] rfl (by (try simp only [List.map_toArray, List.map_cons, List.map_nil]); first | done | rfl | (simp only [List.length_drop, List.length_take]; rfl)) ?_; (with_reducible refine (clock_Macro.calls ((rd_T24 y221 x58_1).f0) ((rd_T24 y221 x58_1).f1) t230 t231 t232 _ A24.out).mono ?_); rintro e w' ⟨rfl, ⟨nd, rfl⟩⟩; refine ⟨_, rfl, ?_⟩) | ((with_reducible refine gate_callee (f := 15) rfl ?_); refine goesL_ (some 92) rfl rfl Try.func15 (by kernel_rfl) rfl #[.int .i64 ((rd_T24 y221 x58_1).f0), .int .i64 ((rd_T24 y221 x58_1).f1)] rfl (by (try simp only [List.map_toArray, List.map_cons, List.map_nil]); first | done | rfl | (simp only [List.length_drop, List.length_take]; rfl)) ?_; (with_reducible refine (omnibusref10_Macro.calls ((rd_T24 y221 x58_1).f0) ((rd_T24 y221 x58_1).f1) t233 t234 t235 _ A25.out).mono ?_); rintro e w' ⟨rfl, ⟨nd, rfl⟩⟩; refine ⟨_, rfl, ?_⟩))
                          go_ret
                          exact ⟨by first | rfl | (simp [errW_none, errW_some] <;> rfl) | (simp only [← hji6]; first | rfl | (simp [errW_none, errW_some] <;> rfl)) | (simp [*, errW_none, errW_some] <;> rfl), by repeat (first | (with_reducible first | exact HB.out | apply below_alloc | apply pw_below_drewN | apply below_drew1 | refine below_set ?_ GE225.out) | exact HB.out)⟩
                      · rw [if_neg c29] at H
                        have c29b0 : (t231 == t234) = false := beq_eq_false_iff_ne.mpr c29
                        have c29b1 : (t231 != t234) = true := bne_iff_ne.mpr c29
                        obtain rfl := Option.some.inj H
                        have p224 : 0 ≤ (x58_1 : Int) := of_decide_eq_true (by first | (with_reducible assumption) | assumption)
                        have q224 : x58_1 < (y221.length : Int) := of_decide_eq_true (by first | (with_reducible assumption) | assumption)
                        obtain ⟨ad224, e224, hx224_0, hx224_1⟩ := at_T24 (Kd.R_reads' HO_56.out).2.2 x58_1 p224 q224
                        cases e224
                        replace p224 := eq_true p224
                        replace q224 := eq_true q224
                        go_wp2_with (first | ((with_reducible refine gate_dst (N := 12) rfl ?_); refine box_event ?hg (N := 12) ?hd (cs := #[.int .i64 0, .int .i64 0]) (t := 24) ?hr ?_; (case hd => rfl); (case hg => rfl); (case hr => first | (go_simp; done) | (go_simp; rfl)); intro gb225 hg w35 hbox hb; have n0_ := Aside0.mk (Kd.R_below (Kd.R_elderB (by (with_reducible repeat (first | apply Kd.R_alloc | apply Kd.R_drewN | apply Kd.R_drew)); exact HO_56.out) gb225 (Nat.le_of_eq hg.symm)) hb); have n1_ := Aside0.mk (below_step (by repeat (first | (with_reducible first | exact HB.out | apply below_alloc | apply pw_below_drewN | apply below_drew1) | exact HB.out)) hb); have n2_ := Aside0.mk (hbox); have n3_ := Aside0.mk ((by rw [hg]; exact (below_size (by repeat (first | (with_reducible first | exact HB.out | apply below_alloc | apply pw_below_drewN | apply below_drew1) | exact HB.out))) : w.heap.size ≤ gb225)); have n4_ := Aside0.mk ((by rw [hg]; exact (below_size (by repeat (first | (with_reducible first | exact HB.out | apply below_alloc | apply pw_below_drewN | apply below_drew1) | exact HB.out))) : w.heap.size ≤ gb225)); clear HO_56; clear HB; have HO_56 := n0_; have HB := n1_; have BK225 := n2_; have GW225 := n3_; have GE225 := n4_; clear n0_ n1_ n2_ n3_ n4_; clear hb hbox hg; have hcz36_0 : w35.cell? ⟨gb225, 0, none⟩ = some (.int .i64 0) := (blk_cell BK225.out 0).trans rfl; have hcz36_1 : w35.cell? ⟨gb225, 1, none⟩ = some (.int .i64 0) := (blk_cell BK225.out 1).trans rfl; have hfz36_0 := blk_frozen BK225.out 0; have hfz36_1 := blk_frozen BK225.out 1) | ((with_reducible refine gate_callee (f := 12) rfl ?_); refine goesL_ (some 67) rfl rfl Try.func12 (by kernel_rfl) rfl #[.int .i64 ((rd_T24 y221 x58_1).f0), .int .i64 ((rd_T24 y221 x58_1).f1)] rfl (by (try simp only [List.map_toArray, List.map_cons, List.map_nil]); first | done | rfl | (simp only [List.length_drop, List.length_take]; rfl)) ?_; (with_reducible refine (clock_Elapsed.calls ((rd_T24 y221 x58_1).f0) ((rd_T24 y221 x58_1).f1) t226 t227 _ A22.out).mono ?_); rintro e w' ⟨rfl, ⟨nd, rfl⟩⟩; refine ⟨_, rfl, ?_⟩) | ((with_reducible refine gate_callee (f := 13) rfl ?_); refine goesL_ (some 75) rfl rfl Try.func13 (by kernel_rfl) rfl #[.int .i64 ((rd_T24 y221 x58_1).f0), .int .i64 ((rd_T24 y221 x58_1).f1)] rfl (by (try simp only [List.map_toArray, List.map_cons, List.map_nil]); first | done | rfl | (simp only [List.length_drop, List.length_take]; rfl)) ?_; (with_reducible refine (omnibusref10_Elapsed.calls ((rd_T24 y221 x58_1).f0) ((rd_T24 y221 x58_1).f1) t228 t229 _ A23.out).mono ?_); rintro e w' ⟨rfl, ⟨nd, rfl⟩⟩; refine ⟨_, rfl, ?_⟩) | ((with_reducible refine gate_callee (f := 14) rfl ?_); refine goesL_ (some 83) rfl rfl Try.func14 (by kernel_rfl) rfl #[.int .i64 ((rd_T24 y221 x58_1).f0), .int .i64 ((rd_T24 y221 x58_1).f1)] rfl (by (try simp only [List.map_toArray, List.map_cons, List.map_nil]); first | done | rfl | (simp only [List.length_drop, List.length_take]; rfl)) ?_; (with_reducible refine (clock_Macro.calls ((rd_T24 y221 x58_1).f0) ((rd_T24 y221 x58_1).f1) t230 t231 t232 _ A24.out).mono ?_); rintro e w' ⟨rfl, ⟨nd, rfl⟩⟩; refine ⟨_, rfl, ?_⟩) | ((with_reducible refine gate_callee (f := 15) rfl ?_); refine goesL_ (some 92) rfl rfl Try.func15 (by kernel_rfl) rfl #[.int .i64 ((rd_T24 y221 x58_1).f0), .int .i64 ((rd_T24 y221 x58_1).f1)] rfl (by (try simp only [List.map_toArray, List.map_cons, List.map_nil]); first | done | rfl | (simp only [List.length_drop, List.length_take]; rfl)) ?_; (with_reducible refine (omnibusref10_Macro.calls ((rd_T24 y221 x58_1).f0) ((rd_T24 y221 x58_1).f1) t233 t234 t235 _ A25.out).mono ?_); rintro e w' ⟨rfl, ⟨nd, rfl⟩⟩; refine ⟨_, rfl, ?_⟩))
                        go_ret
                        exact ⟨by first | rfl | (simp [errW_none, errW_some] <;> rfl) | (simp only [← hji6]; first | rfl | (simp [errW_none, errW_some] <;> rfl)) | (simp [*, errW_none, errW_some] <;> rfl), by repeat (first | (with_reducible first | exact HB.out | apply below_alloc | apply pw_below_drewN | apply below_drew1 | refine below_set ?_ GE225.out) | exact HB.out)⟩
                    · rw [if_neg c28] at H
                      have c28b0 : (t230 == t233) = false := beq_eq_false_iff_ne.mpr c28
                      have c28b1 : (t230 != t233) = true := bne_iff_ne.mpr c28
                      obtain rfl := Option.some.inj H
                      have p224 : 0 ≤ (x58_1 : Int) := of_decide_eq_true (by first | (with_reducible assumption) | assumption)
                      have q224 : x58_1 < (y221.length : Int) := of_decide_eq_true (by first | (with_reducible assumption) | assumption)
                      obtain ⟨ad224, e224, hx224_0, hx224_1⟩ := at_T24 (Kd.R_reads' HO_56.out).2.2 x58_1 p224 q224
                      cases e224
                      replace p224 := eq_true p224
                      replace q224 := eq_true q224
                      go_wp2_with (first | ((with_reducible refine gate_dst (N := 12) rfl ?_); refine box_event ?hg (N := 12) ?hd (cs := #[.int .i64 0, .int .i64 0]) (t := 24) ?hr ?_; (case hd => rfl); (case hg => rfl); (case hr => first | (go_simp; done) | (go_simp; rfl)); intro gb225 hg w37 hbox hb; have n0_ := Aside0.mk (Kd.R_below (Kd.R_elderB (by (with_reducible repeat (first | apply Kd.R_alloc | apply Kd.R_drewN | apply Kd.R_drew)); exact HO_56.out) gb225 (Nat.le_of_eq hg.symm)) hb); have n1_ := Aside0.mk (below_step (by repeat (first | (with_reducible first | exact HB.out | apply below_alloc | apply pw_below_drewN | apply below_drew1) | exact HB.out)) hb); have n2_ := Aside0.mk (hbox); have n3_ := Aside0.mk ((by rw [hg]; exact (below_size (by repeat (first | (with_reducible first | exact HB.out | apply below_alloc | apply pw_below_drewN | apply below_drew1) | exact HB.out))) : w.heap.size ≤ gb225)); have n4_ := Aside0.mk ((by rw [hg]; exact (below_size (by repeat (first | (with_reducible first | exact HB.out | apply below_alloc | apply pw_below_drewN | apply below_drew1) | exact HB.out))) : w.heap.size ≤ gb225)); clear HO_56; clear HB; have HO_56 := n0_; have HB := n1_; have BK225 := n2_; have GW225 := n3_; have GE225 := n4_; clear n0_ n1_ n2_ n3_ n4_; clear hb hbox hg; have hcz38_0 : w37.cell? ⟨gb225, 0, none⟩ = some (.int .i64 0) := (blk_cell BK225.out 0).trans rfl; have hcz38_1 : w37.cell? ⟨gb225, 1, none⟩ = some (.int .i64 0) := (blk_cell BK225.out 1).trans rfl; have hfz38_0 := blk_frozen BK225.out 0; have hfz38_1 := blk_frozen BK225.out 1) | ((with_reducible refine gate_callee (f := 12) rfl ?_); refine goesL_ (some 67) rfl rfl Try.func12 (by kernel_rfl) rfl #[.int .i64 ((rd_T24 y221 x58_1).f0), .int .i64 ((rd_T24 y221 x58_1).f1)] rfl (by (try simp only [List.map_toArray, List.map_cons, List.map_nil]); first | done | rfl | (simp only [List.length_drop, List.length_take]; rfl)) ?_; (with_reducible refine (clock_Elapsed.calls ((rd_T24 y221 x58_1).f0) ((rd_T24 y221 x58_1).f1) t226 t227 _ A22.out).mono ?_); rintro e w' ⟨rfl, ⟨nd, rfl⟩⟩; refine ⟨_, rfl, ?_⟩) | ((with_reducible refine gate_callee (f := 13) rfl ?_); refine goesL_ (some 75) rfl rfl Try.func13 (by kernel_rfl) rfl #[.int .i64 ((rd_T24 y221 x58_1).f0), .int .i64 ((rd_T24 y221 x58_1).f1)] rfl (by (try simp only [List.map_toArray, List.map_cons, List.map_nil]); first | done | rfl | (simp only [List.length_drop, List.length_take]; rfl)) ?_; (with_reducible refine (omnibusref10_Elapsed.calls ((rd_T24 y221 x58_1).f0) ((rd_T24 y221 x58_1).f1) t228 t229 _ A23.out).mono ?_); rintro e w' ⟨rfl, ⟨nd, rfl⟩⟩; refine ⟨_, rfl, ?_⟩) | ((with_reducible refine gate_callee (f := 14) rfl ?_); refine goesL_ (some 83) rfl rfl Try.func14 (by kernel_rfl) rfl #[.int .i64 ((rd_T24 y221 x58_1).f0), .int .i64 ((rd_T24 y221 x58_1).f1)] rfl (by (try simp only [List.map_toArray, List.map_cons, List.map_nil]); first | done | rfl | (simp only [List.length_drop, List.length_take]; rfl)) ?_; (with_reducible refine (clock_Macro.calls ((rd_T24 y221 x58_1).f0) ((rd_T24 y221 x58_1).f1) t230 t231 t232 _ A24.out).mono ?_); rintro e w' ⟨rfl, ⟨nd, rfl⟩⟩; refine ⟨_, rfl, ?_⟩) | ((with_reducible refine gate_callee (f := 15) rfl ?_); refine goesL_ (some 92) rfl rfl Try.func15 (by kernel_rfl) rfl #[.int .i64 ((rd_T24 y221 x58_1).f0), .int .i64 ((rd_T24 y221 x58_1).f1)] rfl (by (try simp only [List.map_toArray, List.map_cons, List.map_nil]); first | done | rfl | (simp only [List.length_drop, List.length_take]; rfl)) ?_; (with_reducible refine (omnibusref10_Macro.calls ((rd_T24 y221 x58_1).f0) ((rd_T24 y221 x58_1).f1) t233 t234 t235 _ A25.out).mono ?_); rintro e w' ⟨rfl, ⟨nd, rfl⟩⟩; refine ⟨_, rfl, ?_⟩))
                      go_ret
                      exact ⟨by first | rfl | (simp [errW_none, errW_some] <;> rfl) | (simp only [← hji6]; first | rfl | (simp [errW_none, errW_some] <;> rfl)) | (simp [*, errW_none, errW_some] <;> rfl), by repeat (first | (with_reducible first | exact HB.out | apply below_alloc | apply pw_below_drewN | apply below_drew1 | refine below_set ?_ GE225.out) | exact HB.out)⟩
                  · rw [if_neg c27] at H
                    have c27b0 : (t227 == t229) = false := beq_eq_false_iff_ne.mpr c27
                    have c27b1 : (t227 != t229) = true := bne_iff_ne.mpr c27
                    obtain rfl := Option.some.inj H
                    have p224 : 0 ≤ (x58_1 : Int) := of_decide_eq_true (by first | (with_reducible assumption) | assumption)
                    have q224 : x58_1 < (y221.length : Int) := of_decide_eq_true (by first | (with_reducible assumption) | assumption)
                    obtain ⟨ad224, e224, hx224_0, hx224_1⟩ := at_T24 (Kd.R_reads' HO_56.out).2.2 x58_1 p224 q224
                    cases e224
                    replace p224 := eq_true p224
                    replace q224 := eq_true q224
                    go_wp2_with (first | ((with_reducible refine gate_dst (N := 12) rfl ?_); refine box_event ?hg (N := 12) ?hd (cs := #[.int .i64 0, .int .i64 0]) (t := 24) ?hr ?_; (case hd => rfl); (case hg => rfl); (case hr => first | (go_simp; done) | (go_simp; rfl)); intro gb225 hg w39 hbox hb; have n0_ := Aside0.mk (Kd.R_below (Kd.R_elderB (by (with_reducible repeat (first | apply Kd.R_alloc | apply Kd.R_drewN | apply Kd.R_drew)); exact HO_56.out) gb225 (Nat.le_of_eq hg.symm)) hb); have n1_ := Aside0.mk (below_step (by repeat (first | (with_reducible first | exact HB.out | apply below_alloc | apply pw_below_drewN | apply below_drew1) | exact HB.out)) hb); have n2_ := Aside0.mk (hbox); have n3_ := Aside0.mk ((by rw [hg]; exact (below_size (by repeat (first | (with_reducible first | exact HB.out | apply below_alloc | apply pw_below_drewN | apply below_drew1) | exact HB.out))) : w.heap.size ≤ gb225)); have n4_ := Aside0.mk ((by rw [hg]; exact (below_size (by repeat (first | (with_reducible first | exact HB.out | apply below_alloc | apply pw_below_drewN | apply below_drew1) | exact HB.out))) : w.heap.size ≤ gb225)); clear HO_56; clear HB; have HO_56 := n0_; have HB := n1_; have BK225 := n2_; have GW225 := n3_; have GE225 := n4_; clear n0_ n1_ n2_ n3_ n4_; clear hb hbox hg; have hcz40_0 : w39.cell? ⟨gb225, 0, none⟩ = some (.int .i64 0) := (blk_cell BK225.out 0).trans rfl; have hcz40_1 : w39.cell? ⟨gb225, 1, none⟩ = some (.int .i64 0) := (blk_cell BK225.out 1).trans rfl; have hfz40_0 := blk_frozen BK225.out 0; have hfz40_1 := blk_frozen BK225.out 1) | ((with_reducible refine gate_callee (f := 12) rfl ?_); refine goesL_ (some 67) rfl rfl Try.func12 (by kernel_rfl) rfl #[.int .i64 ((rd_T24 y221 x58_1).f0), .int .i64 ((rd_T24 y221 x58_1).f1)] rfl (by (try simp only [List.map_toArray, List.map_cons, List.map_nil]); first | done | rfl | (simp only [List.length_drop, List.length_take]; rfl)) ?_; (with_reducible refine (clock_Elapsed.calls ((rd_T24 y221 x58_1).f0) ((rd_T24 y221 x58_1).f1) t226 t227 _ A22.out).mono ?_); rintro e w' ⟨rfl, ⟨nd, rfl⟩⟩; refine ⟨_, rfl, ?_⟩) | ((with_reducible refine gate_callee (f := 13) rfl ?_); refine goesL_ (some 75) rfl rfl Try.func13 (by kernel_rfl) rfl #[.int .i64 ((rd_T24 y221 x58_1).f0), .int .i64 ((rd_T24 y221 x58_1).f1)] rfl (by (try simp only [List.map_toArray, List.map_cons, List.map_nil]); first | done | rfl | (simp only [List.length_drop, List.length_take]; rfl)) ?_; (with_reducible refine (omnibusref10_Elapsed.calls ((rd_T24 y221 x58_1).f0) ((rd_T24 y221 x58_1).f1) t228 t229 _ A23.out).mono ?_); rintro e w' ⟨rfl, ⟨nd, rfl⟩⟩; refine ⟨_, rfl, ?_⟩) | ((with_reducible refine gate_callee (f := 14) rfl ?_); refine goesL_ (some 83) rfl rfl Try.func14 (by kernel_rfl) rfl #[.int .i64 ((rd_T24 y221 x58_1).f0), .int .i64 ((rd_T24 y221 x58_1).f1)] rfl (by (try simp only [List.map_toArray, List.map_cons, List.map_nil]); first | done | rfl | (simp only [List.length_drop, List.length_take]; rfl)) ?_; (with_reducible refine (clock_Macro.calls ((rd_T24 y221 x58_1).f0) ((rd_T24 y221 x58_1).f1) t230 t231 t232 _ A24.out).mono ?_); rintro e w' ⟨rfl, ⟨nd, rfl⟩⟩; refine ⟨_, rfl, ?_⟩) | ((with_reducible refine gate_callee (f := 15) rfl ?_); refine goesL_ (some 92) rfl rfl Try.func15 (by kernel_rfl) rfl #[.int .i64 ((rd_T24 y221 x58_1).f0), .int .i64 ((rd_T24 y221 x58_1).f1)] rfl (by (try simp only [List.map_toArray, List.map_cons, List.map_nil]); first | done | rfl | (simp only [List.length_drop, List.length_take]; rfl)) ?_; (with_reducible refine (omnibusref10_Macro.calls ((rd_T24 y221 x58_1).f0) ((rd_T24 y221 x58_1).f1) t233 t234 t235 _ A25.out).mono ?_); rintro e w' ⟨rfl, ⟨nd, rfl⟩⟩; refine ⟨_, rfl, ?_⟩))
                    go_ret
                    exact ⟨by first | rfl | (simp [errW_none, errW_some] <;> rfl) | (simp only [← hji6]; first | rfl | (simp [errW_none, errW_some] <;> rfl)) | (simp [*, errW_none, errW_some] <;> rfl), by repeat (first | (with_reducible first | exact HB.out | apply below_alloc | apply pw_below_drewN | apply below_drew1 | refine below_set ?_ GE225.out) | exact HB.out)⟩
                · rw [if_neg c26] at H
                  have c26b0 : (t226 == t228) = false := beq_eq_false_iff_ne.mpr c26
                  have c26b1 : (t226 != t228) = true := bne_iff_ne.mpr c26
                  obtain rfl := Option.some.inj H
                  have p224 : 0 ≤ (x58_1 : Int) := of_decide_eq_true (by first | (with_reducible assumption) | assumption)
                  have q224 : x58_1 < (y221.length : Int) := of_decide_eq_true (by first | (with_reducible assumption) | assumption)
                  obtain ⟨ad224, e224, hx224_0, hx224_1⟩ := at_T24 (Kd.R_reads' HO_56.out).2.2 x58_1 p224 q224
                  cases e224
                  replace p224 := eq_true p224
                  replace q224 := eq_true q224
                  go_wp2_with (first | ((with_reducible refine gate_dst (N := 12) rfl ?_); refine box_event ?hg (N := 12) ?hd (cs := #[.int .i64 0, .int .i64 0]) (t := 24) ?hr ?_; (case hd => rfl); (case hg => rfl); (case hr => first | (go_simp; done) | (go_simp; rfl)); intro gb225 hg w41 hbox hb; have n0_ := Aside0.mk (Kd.R_below (Kd.R_elderB (by (with_reducible repeat (first | apply Kd.R_alloc | apply Kd.R_drewN | apply Kd.R_drew)); exact HO_56.out) gb225 (Nat.le_of_eq hg.symm)) hb); have n1_ := Aside0.mk (below_step (by repeat (first | (with_reducible first | exact HB.out | apply below_alloc | apply pw_below_drewN | apply below_drew1) | exact HB.out)) hb); have n2_ := Aside0.mk (hbox); have n3_ := Aside0.mk ((by rw [hg]; exact (below_size (by repeat (first | (with_reducible first | exact HB.out | apply below_alloc | apply pw_below_drewN | apply below_drew1) | exact HB.out))) : w.heap.size ≤ gb225)); have n4_ := Aside0.mk ((by rw [hg]; exact (below_size (by repeat (first | (with_reducible first | exact HB.out | apply below_alloc | apply pw_below_drewN | apply below_drew1) | exact HB.out))) : w.heap.size ≤ gb225)); clear HO_56; clear HB; have HO_56 := n0_; have HB := n1_; have BK225 := n2_; have GW225 := n3_; have GE225 := n4_; clear n0_ n1_ n2_ n3_ n4_; clear hb hbox hg; have hcz42_0 : w41.cell? ⟨gb225, 0, none⟩ = some (.int .i64 0) := (blk_cell BK225.out 0).trans rfl; have hcz42_1 : w41.cell? ⟨gb225, 1, none⟩ = some (.int .i64 0) := (blk_cell BK225.out 1).trans rfl; have hfz42_0 := blk_frozen BK225.out 0; have hfz42_1 := blk_frozen BK225.out 1) | ((with_reducible refine gate_callee (f := 12) rfl ?_); refine goesL_ (some 67) rfl rfl Try.func12 (by kernel_rfl) rfl #[.int .i64 ((rd_T24 y221 x58_1).f0), .int .i64 ((rd_T24 y221 x58_1).f1)] rfl (by (try simp only [List.map_toArray, List.map_cons, List.map_nil]); first | done | rfl | (simp only [List.length_drop, List.length_take]; rfl)) ?_; (with_reducible refine (clock_Elapsed.calls ((rd_T24 y221 x58_1).f0) ((rd_T24 y221 x58_1).f1) t226 t227 _ A22.out).mono ?_); rintro e w' ⟨rfl, ⟨nd, rfl⟩⟩; refine ⟨_, rfl, ?_⟩) | ((with_reducible refine gate_callee (f := 13) rfl ?_); refine goesL_ (some 75) rfl rfl Try.func13 (by kernel_rfl) rfl #[.int .i64 ((rd_T24 y221 x58_1).f0), .int .i64 ((rd_T24 y221 x58_1).f1)] rfl (by (try simp only [List.map_toArray, List.map_cons, List.map_nil]); first | done | rfl | (simp only [List.length_drop, List.length_take]; rfl)) ?_; (with_reducible refine (omnibusref10_Elapsed.calls ((rd_T24 y221 x58_1).f0) ((rd_T24 y221 x58_1).f1) t228 t229 _ A23.out).mono ?_); rintro e w' ⟨rfl, ⟨nd, rfl⟩⟩; refine ⟨_, rfl, ?_⟩) | ((with_reducible refine gate_callee (f := 14) rfl ?_); refine goesL_ (some 83) rfl rfl Try.func14 (by kernel_rfl) rfl #[.int .i64 ((rd_T24 y221 x58_1).f0), .int .i64 ((rd_T24 y221 x58_1).f1)] rfl (by (try simp only [List.map_toArray, List.map_cons, List.map_nil]); first | done | rfl | (simp only [List.length_drop, List.length_take]; rfl)) ?_; (with_reducible refine (clock_Macro.calls ((rd_T24 y221 x58_1).f0) ((rd_T24 y221 x58_1).f1) t230 t231 t232 _ A24.out).mono ?_); rintro e w' ⟨rfl, ⟨nd, rfl⟩⟩; refine ⟨_, rfl, ?_⟩) | ((with_reducible refine gate_callee (f := 15) rfl ?_); refine goesL_ (some 92) rfl rfl Try.func15 (by kernel_rfl) rfl #[.int .i64 ((rd_T24 y221 x58_1).f0), .int .i64 ((rd_T24 y221 x58_1).f1)] rfl (by (try simp only [List.map_toArray, List.map_cons, List.map_nil]); first | done | rfl | (simp only [List.length_drop, List.length_take]; rfl)) ?_; (with_reducible refine (omnibusref10_Macro.calls ((rd_T24 y221 x58_1).f0) ((rd_T24 y221 x58_1).f1) t233 t234 t235 _ A25.out).mono ?_); rintro e w' ⟨rfl, ⟨nd, rfl⟩⟩; refine ⟨_, rfl, ?_⟩))
                  go_ret
                  exact ⟨by first | rfl | (simp [errW_none, errW_some] <;> rfl) | (simp only [← hji6]; first | rfl | (simp [errW_none, errW_some] <;> rfl)) | (simp [*, errW_none, errW_some] <;> rfl), by repeat (first | (with_reducible first | exact HB.out | apply below_alloc | apply pw_below_drewN | apply below_drew1 | refine below_set ?_ GE225.out) | exact HB.out)⟩
              · rw [if_neg c21] at H
                exact absurd H (by simp)
            · rw [if_neg c20] at H
              exact absurd H (by simp)
          · rw [if_neg c19] at H
            have c19b0 : decide (x58_1 < (y221.length : Int)) = false := decide_eq_false c19
            clear c19
            replace H := Option.bind_eq_some_iff.mp H
            obtain ⟨t236, A430, H⟩ := H
            replace H : ((some (([a2, t236] : List Int) : List Int)).bind fun y237 => (omnibuslaw10_ClockTells.l1 k1 a0 a1 t214 (l3.take ((ji6) : Int).toNat) y237 (y237.length : Int) 0)) = some r := H
            have A43 := Aside0.mk A430
            clear A430
            obtain ⟨y237, hy237⟩ : ∃ y_ : List Int, y_ = (([a2, t236] : List Int)) := ⟨_, rfl⟩
            replace H : (omnibuslaw10_ClockTells.l1 k1 a0 a1 t214 (l3.take ((ji6) : Int).toNat) y237 (y237.length : Int) 0) = some r := by first | (rw [hy237]; with_reducible exact H) | (have H2_ := (Option.bind_some _ _).symm.trans H; rw [hy237]; with_reducible exact H2_) | (have H2_ := (Option.bind_some _ _).symm.trans H; with_reducible exact H2_) | with_reducible exact H | (rw [hy237]; exact H) | exact H
            have Ny237 := Aside0.mk hy237
            clear hy237
            have H' := Aside0.mk H
            clear H
            go_wp2_with (first | ((with_reducible refine gate_callee (f := 11) rfl ?_); refine goesL_ (some 122) rfl rfl Try.func11 (by kernel_rfl) rfl #[.int .i64 a2, .int .i64 9] rfl (by (try simp only [List.map_toArray, List.map_cons, List.map_nil]); first | done | rfl | (simp only [List.length_drop, List.length_take]; rfl)) ?_; (with_reducible refine (omnibuslaw10_pick.calls a2 9 t236 _ A43.out).mono ?_); rintro e w' ⟨rfl, ⟨nd, rfl⟩⟩; refine ⟨_, rfl, ?_⟩) | ((with_reducible refine gate_dst (N := 123) rfl ?_); refine Kd.R_lit (Kd.int .i64) _ 3 ?hg (N := 123) ?hd (xs := ([a2, t236] : List Int)) (inner := [.int .i64 a2, .int .i64 t236]) (ok := fun _ => True) (okp := fun _ => True) ?hr ?hp (fun _ hk => hk) trivial (Below.refl _ _) (Nat.le_refl _) (by simp) ?_; (case hd => rfl); (case hg => rfl); (case hr => first | (go_simp; done) | (go_simp; rfl)); (case hp => exact (Reps.one (show Kd.M (Kd.int .i64) _ _ _ a2 [.int .i64 a2] from rfl) (Reps.one (show Kd.M (Kd.int .i64) _ _ _ t236 [.int .i64 t236] from rfl) (Reps.none _ _)))); intro v238 w44 ho45 hb hg_ hnew_; clear hg_ hnew_; (first | rw [← Ny237.out] at ho45 | (simp only [Int.reduceToNat] at ho45; rw [← Ny237.out] at ho45)); have n0_ := Aside0.mk (Kd.R_below (by (with_reducible repeat (first | apply Kd.R_alloc | apply Kd.R_drewN | apply Kd.R_drew)); exact HO_56.out) hb); have n1_ := Aside0.mk (Kd.R_lower ho45 (below_size (by repeat (first | (with_reducible first | exact HB.out | apply below_alloc | apply pw_below_drewN | apply below_drew1) | exact HB.out)))); have n2_ := Aside0.mk (below_step (by repeat (first | (with_reducible first | exact HB.out | apply below_alloc | apply pw_below_drewN | apply below_drew1) | exact HB.out)) hb); clear HO_56; clear HB; have HO_56 := n0_; have HO239 := n1_; have HB := n2_; clear n0_ n1_ n2_; clear hb ho45; obtain ⟨Ao46, co46, eo46⟩ := Kd.R_slice HO239.out; subst eo46))
            go_loopg [125] k1 (fun kq v125 w' => ∃ (x125_2 : Int), v125 = .int .i64 x125_2 ∧ Aside0 (omnibuslaw10_ClockTells.l1 kq a0 a1 t214 (l3.take ((ji6) : Int).toNat) y237 (y237.length : Int) x125_2 = some r) ∧ Aside0 (kq ≤ k1) ∧ Aside0 (Kd.R (Kd.int .i64) 3 w' w.heap.size (fun _ => True) (.slice Ao46 y237.length co46) y237) ∧ Aside0 (Below w.heap.size w w'))
            case atStart => exact ⟨(0), (by first | rfl | (simp; done) | (simp [*]; done)), H', ⟨Nat.le_refl _⟩, ⟨by (with_reducible repeat (first | apply Kd.R_alloc | apply Kd.R_drewN | apply Kd.R_drew)); exact HO239.out⟩, ⟨by repeat (first | (with_reducible first | exact HB.out | apply below_alloc | apply pw_below_drewN | apply below_drew1) | exact HB.out)⟩⟩
            case round =>
              clear H'
              try clear c1
              try clear c2
              try clear p2
              try clear q2
              try clear hx2
              try clear c3
              try clear p6
              try clear c7
              try clear c7b0
              try clear c7b1
              try clear c8
              try clear c8b0
              try clear c8b1
              try clear c10
              try clear c11
              try clear c12
              try clear c13
              try clear c14
              try clear c15
              try clear c19
              try clear c19b0
              try clear c20
              try clear c20b0
              try clear c21
              try clear c21b0
              try clear p22
              try clear q22
              try clear hx22
              try clear c26
              try clear c26b0
              try clear c26b1
              try clear c27
              try clear c27b0
              try clear c27b1
              try clear c28
              try clear c28b0
              try clear c28b1
              try clear c29
              try clear c29b0
              try clear c29b1
              try clear c30
              try clear c30b0
              try clear c30b1
              try clear hcz32_0
              try clear hcz32_1
              try clear hcz34_0
              try clear hcz34_1
              try clear hcz36_0
              try clear hcz36_1
              try clear hcz38_0
              try clear hcz38_1
              try clear hcz40_0
              try clear hcz40_1
              try clear hcz42_0
              try clear hcz42_1
              try clear hfz32_0
              try clear hfz32_1
              try clear hfz34_0
              try clear hfz34_1
              try clear hfz36_0
              try clear hfz36_1
              try clear hfz38_0
              try clear hfz38_1
              try clear hfz40_0
              try clear hfz40_1
              try clear hfz42_0
              try clear hfz42_1
              try clear hx224_0
              try clear hx224_1
              try clear p2
              try clear p224
              try clear p6
              try clear q224
              obtain ⟨x125_2, rfl, HA, HK2, HO_123, HB⟩ := hrel
              cases gk with
              | zero => exact absurd HA.out (by simp [omnibuslaw10_ClockTells.l1])
              | succ k2 =>
                have H := HA.out
                clear HA
                simp only [omnibuslaw10_ClockTells.l1] at H
                by_cases c47 : x125_2 < (y237.length : Int)
                · rw [if_pos c47] at H
                  have c47b0 : decide (x125_2 < (y237.length : Int)) = true := decide_eq_true c47
                  clear c47
                  by_cases c48 : 0 ≤ x125_2
                  · rw [if_pos c48] at H
                    have c48b0 : decide (0 ≤ x125_2) = true := decide_eq_true c48
                    clear c48
                    by_cases c49 : x125_2 < (y237.length : Int)
                    · rw [if_pos c49] at H
                      have c49b0 : decide (x125_2 < (y237.length : Int)) = true := decide_eq_true c49
                      clear c49
                      replace H := Option.bind_eq_some_iff.mp H
                      obtain ⟨⟨t243, t244⟩, A500, H⟩ := H
                      replace H : ((omnibusref10_Middle.f k2 (rd y237 x125_2) (l3.take ((ji6) : Int).toNat)).bind fun bt245 => (if t243 = bt245.1 then (if t244 = bt245.2 then ((clock_Correct.f k2 a0 (rd y237 x125_2) a1 (l3.take ((ji6) : Int).toNat)).bind fun t247 => ((omnibusref10_Correct.f k2 a0 (rd y237 x125_2) a1 (l3.take ((ji6) : Int).toNat)).bind fun t248 => (if t247 = t248 then ((omnibuslaw10_pick.f a1 50).bind fun t249 => ((clock_Correct.f k2 a0 (rd y237 x125_2) t249 (l3.take ((ji6) : Int).toNat)).bind fun t250 => ((omnibuslaw10_pick.f a1 50).bind fun t251 => ((omnibusref10_Correct.f k2 a0 (rd y237 x125_2) t251 (l3.take ((ji6) : Int).toNat)).bind fun t252 => (if t250 = t252 then (omnibuslaw10_ClockTells.l1 k2 a0 a1 t214 (l3.take ((ji6) : Int).toNat) y237 (y237.length : Int) (wrap64 (x125_2 + 1))) else (some false)))))) else (some false)))) else (some false)) else (some false))) = some r := H
                      have A50 := Aside0.mk A500
                      clear A500
                      replace H := Option.bind_eq_some_iff.mp H
                      obtain ⟨⟨t245, t246⟩, A510, H⟩ := H
                      replace H : (if t243 = t245 then (if t244 = t246 then ((clock_Correct.f k2 a0 (rd y237 x125_2) a1 (l3.take ((ji6) : Int).toNat)).bind fun t247 => ((omnibusref10_Correct.f k2 a0 (rd y237 x125_2) a1 (l3.take ((ji6) : Int).toNat)).bind fun t248 => (if t247 = t248 then ((omnibuslaw10_pick.f a1 50).bind fun t249 => ((clock_Correct.f k2 a0 (rd y237 x125_2) t249 (l3.take ((ji6) : Int).toNat)).bind fun t250 => ((omnibuslaw10_pick.f a1 50).bind fun t251 => ((omnibusref10_Correct.f k2 a0 (rd y237 x125_2) t251 (l3.take ((ji6) : Int).toNat)).bind fun t252 => (if t250 = t252 then (omnibuslaw10_ClockTells.l1 k2 a0 a1 t214 (l3.take ((ji6) : Int).toNat) y237 (y237.length : Int) (wrap64 (x125_2 + 1))) else (some false)))))) else (some false)))) else (some false)) else (some false)) = some r := H
                      have A51 := Aside0.mk A510
                      clear A510
                      by_cases c52 : t243 = t245
                      · rw [if_pos c52] at H
                        have c52b0 : (t243 == t245) = true := beq_iff_eq.mpr c52
                        have c52b1 : (t243 != t245) = false := bne_eq_false_iff_eq.mpr c52
                        clear c52
                        by_cases c53 : t244 = t246
                        · rw [if_pos c53] at H
                          have c53b0 : (t244 == t246) = true := beq_iff_eq.mpr c53
                          have c53b1 : (t244 != t246) = false := bne_eq_false_iff_eq.mpr c53
                          clear c53
                          replace H := Option.bind_eq_some_iff.mp H
                          obtain ⟨t247, A540, H⟩ := H
                          replace H : ((omnibusref10_Correct.f k2 a0 (rd y237 x125_2) a1 (l3.take ((ji6) : Int).toNat)).bind fun t248 => (if t247 = t248 then ((omnibuslaw10_pick.f a1 50).bind fun t249 => ((clock_Correct.f k2 a0 (rd y237 x125_2) t249 (l3.take ((ji6) : Int).toNat)).bind fun t250 => ((omnibuslaw10_pick.f a1 50).bind fun t251 => ((omnibusref10_Correct.f k2 a0 (rd y237 x125_2) t251 (l3.take ((ji6) : Int).toNat)).bind fun t252 => (if t250 = t252 then (omnibuslaw10_ClockTells.l1 k2 a0 a1 t214 (l3.take ((ji6) : Int).toNat) y237 (y237.length : Int) (wrap64 (x125_2 + 1))) else (some false)))))) else (some false))) = some r := H
                          have A54 := Aside0.mk A540
                          clear A540
                          replace H := Option.bind_eq_some_iff.mp H
                          obtain ⟨t248, A550, H⟩ := H
                          replace H : (if t247 = t248 then ((omnibuslaw10_pick.f a1 50).bind fun t249 => ((clock_Correct.f k2 a0 (rd y237 x125_2) t249 (l3.take ((ji6) : Int).toNat)).bind fun t250 => ((omnibuslaw10_pick.f a1 50).bind fun t251 => ((omnibusref10_Correct.f k2 a0 (rd y237 x125_2) t251 (l3.take ((ji6) : Int).toNat)).bind fun t252 => (if t250 = t252 then (omnibuslaw10_ClockTells.l1 k2 a0 a1 t214 (l3.take ((ji6) : Int).toNat) y237 (y237.length : Int) (wrap64 (x125_2 + 1))) else (some false)))))) else (some false)) = some r := H
                          have A55 := Aside0.mk A550
                          clear A550
                          by_cases c56 : t247 = t248
                          · rw [if_pos c56] at H
                            have c56b0 : (t247 == t248) = true := beq_iff_eq.mpr c56
                            have c56b1 : (t247 != t248) = false := bne_eq_false_iff_eq.mpr c56
                            clear c56
                            replace H := Option.bind_eq_some_iff.mp H
                            obtain ⟨t249, A570, H⟩ := H
                            replace H : ((clock_Correct.f k2 a0 (rd y237 x125_2) t249 (l3.take ((ji6) : Int).toNat)).bind fun t250 => ((omnibuslaw10_pick.f a1 50).bind fun t251 => ((omnibusref10_Correct.f k2 a0 (rd y237 x125_2) t251 (l3.take ((ji6) : Int).toNat)).bind fun t252 => (if t250 = t252 then (omnibuslaw10_ClockTells.l1 k2 a0 a1 t214 (l3.take ((ji6) : Int).toNat) y237 (y237.length : Int) (wrap64 (x125_2 + 1))) else (some false))))) = some r := H
                            have A57 := Aside0.mk A570
                            clear A570
                            replace H := Option.bind_eq_some_iff.mp H
                            obtain ⟨t250, A580, H⟩ := H
                            replace H : ((omnibuslaw10_pick.f a1 50).bind fun t251 => ((omnibusref10_Correct.f k2 a0 (rd y237 x125_2) t251 (l3.take ((ji6) : Int).toNat)).bind fun t252 => (if t250 = t252 then (omnibuslaw10_ClockTells.l1 k2 a0 a1 t214 (l3.take ((ji6) : Int).toNat) y237 (y237.length : Int) (wrap64 (x125_2 + 1))) else (some false)))) = some r := H
                            have A58 := Aside0.mk A580
                            clear A580
                            replace H := Option.bind_eq_some_iff.mp H
                            obtain ⟨t251, A590, H⟩ := H
                            have ht_ : t249 = t251 := Option.some.inj (A57.out.symm.trans A590)
                            subst ht_
                            replace H : ((omnibusref10_Correct.f k2 a0 (rd y237 x125_2) t249 (l3.take ((ji6) : Int).toNat)).bind fun t252 => (if t250 = t252 then (omnibuslaw10_ClockTells.l1 k2 a0 a1 t214 (l3.take ((ji6) : Int).toNat) y237 (y237.length : Int) (wrap64 (x125_2 + 1))) else (some false))) = some r := H
                            have A59 := Aside0.mk A590
                            clear A590
                            replace H := Option.bind_eq_some_iff.mp H
                            obtain ⟨t252, A600, H⟩ := H
                            replace H : (if t250 = t252 then (omnibuslaw10_ClockTells.l1 k2 a0 a1 t214 (l3.take ((ji6) : Int).toNat) y237 (y237.length : Int) (wrap64 (x125_2 + 1))) else (some false)) = some r := H
                            have A60 := Aside0.mk A600
                            clear A600
                            by_cases c61 : t250 = t252
                            · rw [if_pos c61] at H
                              have c61b0 : (t250 == t252) = true := beq_iff_eq.mpr c61
                              have c61b1 : (t250 != t252) = false := bne_eq_false_iff_eq.mpr c61
                              clear c61
                              have H' := Aside0.mk H
                              clear H
                              have p242 : 0 ≤ (x125_2 : Int) := of_decide_eq_true (by first | (with_reducible assumption) | assumption)
                              have q242 : x125_2 < (y237.length : Int) := of_decide_eq_true (by first | (with_reducible assumption) | assumption)
                              obtain ⟨ad242, e242, hx242_0⟩ := Kd.at_int (Kd.R_reads' HO_123.out).2.2 x125_2 p242 q242
                              cases e242
                              replace p242 := eq_true p242
                              replace q242 := eq_true q242
                              go_wp2_with (first | ((with_reducible refine gate_callee (f := 16) rfl ?_); refine goesL_ (some 132) rfl rfl Try.func16 (by kernel_rfl) rfl #[.int .i64 (rd y237 x125_2), .slice A3 (l3.take ((ji6) : Int).toNat).length c3] rfl (by (try simp only [List.map_toArray, List.map_cons, List.map_nil]); first | done | (rw [show (l3.take ((ji6) : Int).toNat).length = (ji6).toNat from (by rw [List.length_take]; have h_ : ((ji6) : Int) ≤ (l3.length : Int) := (by rw [← hji6]; unfold mn; (repeat' split) <;> omega); omega)] <;> rfl) | (simp only [hji6]; rfl) | rfl | (simp only [List.length_drop, List.length_take]; rfl)) ?_; (with_reducible refine (clock_Middle.calls k2 (rd y237 x125_2) _ _ (l3.take ((ji6) : Int).toNat) t243 t244 _ ?side1 ?side2 A50.out).mono ?_); (case side1 => repeat (first | exact (Kd.C_below HR215.out HB.out) | (with_reducible refine Kd.C_alloc ?_ _) | (with_reducible refine Kd.C_drewN ?_ _) | (with_reducible refine Kd.C_drew ?_))); (case side2 => exact HC215.out); rintro e w62 ⟨rfl, hb⟩; refine ⟨_, rfl, ?_⟩; have n0_ := Aside0.mk (Kd.R_below (by (with_reducible repeat (first | apply Kd.R_alloc | apply Kd.R_drewN | apply Kd.R_drew)); exact HO_123.out) hb); have n1_ := Aside0.mk (below_step (by repeat (first | (with_reducible first | exact HB.out | apply below_alloc | apply pw_below_drewN | apply below_drew1) | exact HB.out)) hb); clear HO_123; clear HB; have HO_123 := n0_; have HB := n1_; clear n0_ n1_; (try clear hb); (try clear hb2); (try clear hk); (try clear hi)) | ((with_reducible refine gate_callee (f := 17) rfl ?_); refine goesL_ (some 138) rfl rfl Try.func17 (by kernel_rfl) rfl #[.int .i64 (rd y237 x125_2), .slice A3 (l3.take ((ji6) : Int).toNat).length c3] rfl (by (try simp only [List.map_toArray, List.map_cons, List.map_nil]); first | done | (rw [show (l3.take ((ji6) : Int).toNat).length = (ji6).toNat from (by rw [List.length_take]; have h_ : ((ji6) : Int) ≤ (l3.length : Int) := (by rw [← hji6]; unfold mn; (repeat' split) <;> omega); omega)] <;> rfl) | (simp only [hji6]; rfl) | rfl | (simp only [List.length_drop, List.length_take]; rfl)) ?_; (with_reducible refine (omnibusref10_Middle.calls k2 (rd y237 x125_2) _ _ (l3.take ((ji6) : Int).toNat) t245 t246 _ ?side1 ?side2 A51.out).mono ?_); (case side1 => repeat (first | exact (Kd.C_below HR215.out HB.out) | (with_reducible refine Kd.C_alloc ?_ _) | (with_reducible refine Kd.C_drewN ?_ _) | (with_reducible refine Kd.C_drew ?_))); (case side2 => exact HC215.out); rintro e w63 ⟨rfl, hb⟩; refine ⟨_, rfl, ?_⟩; have n0_ := Aside0.mk (Kd.R_below (by (with_reducible repeat (first | apply Kd.R_alloc | apply Kd.R_drewN | apply Kd.R_drew)); exact HO_123.out) hb); have n1_ := Aside0.mk (below_step (by repeat (first | (with_reducible first | exact HB.out | apply below_alloc | apply pw_below_drewN | apply below_drew1) | exact HB.out)) hb); clear HO_123; clear HB; have HO_123 := n0_; have HB := n1_; clear n0_ n1_; (try clear hb); (try clear hb2); (try clear hk); (try clear hi)) | (go_at_call 18; (with_reducible refine (clock_Correct.calls_n (n := ((ji6) : Int).toNat) (hn := (by rw [List.length_take]; have h_ : ((ji6) : Int) ≤ (l3.length : Int) := (by rw [← hji6]; unfold mn; (repeat' split) <;> omega); omega)) k2 a0 (rd y237 x125_2) a1 _ _ (l3.take ((ji6) : Int).toNat) t247 _ ?side1 ?side2 A54.out).mono ?_); (case side1 => repeat (first | exact (Kd.C_below HR215.out HB.out) | (with_reducible refine Kd.C_alloc ?_ _) | (with_reducible refine Kd.C_drewN ?_ _) | (with_reducible refine Kd.C_drew ?_))); (case side2 => exact HC215.out); rintro e w64 ⟨rfl, hb⟩; have n0_ := Aside0.mk (Kd.R_below (by (with_reducible repeat (first | apply Kd.R_alloc | apply Kd.R_drewN | apply Kd.R_drew)); exact HO_123.out) hb); have n1_ := Aside0.mk (below_step (by repeat (first | (with_reducible first | exact HB.out | apply below_alloc | apply pw_below_drewN | apply below_drew1) | exact HB.out)) hb); clear HO_123; clear HB; have HO_123 := n0_; have HB := n1_; clear n0_ n1_; (try clear hb); (try clear hb2); (try clear hk); (try clear hi)) | (go_at_call 19; (with_reducible refine (omnibusref10_Correct.calls_n (n := ((ji6) : Int).toNat) (hn := (by rw [List.length_take]; have h_ : ((ji6) : Int) ≤ (l3.length : Int) := (by rw [← hji6]; unfold mn; (repeat' split) <;> omega); omega)) k2 a0 (rd y237 x125_2) a1 _ _ (l3.take ((ji6) : Int).toNat) t248 _ ?side1 ?side2 A55.out).mono ?_); (case side1 => repeat (first | exact (Kd.C_below HR215.out HB.out) | (with_reducible refine Kd.C_alloc ?_ _) | (with_reducible refine Kd.C_drewN ?_ _) | (with_reducible refine Kd.C_drew ?_))); (case side2 => exact HC215.out); rintro e w65 ⟨rfl, hb⟩; have n0_ := Aside0.mk (Kd.R_below (by (with_reducible repeat (first | apply Kd.R_alloc | apply Kd.R_drewN | apply Kd.R_drew)); exact HO_123.out) hb); have n1_ := Aside0.mk (below_step (by repeat (first | (with_reducible first | exact HB.out | apply below_alloc | apply pw_below_drewN | apply below_drew1) | exact HB.out)) hb); clear HO_123; clear HB; have HO_123 := n0_; have HB := n1_; clear n0_ n1_; (try clear hb); (try clear hb2); (try clear hk); (try clear hi)) | (go_at_call 11; (with_reducible refine (omnibuslaw10_pick.calls a1 50 t249 _ A57.out).mono ?_); rintro e w' ⟨rfl, ⟨nd, rfl⟩⟩) | (go_at_call 18; (with_reducible refine (clock_Correct.calls_n (n := ((ji6) : Int).toNat) (hn := (by rw [List.length_take]; have h_ : ((ji6) : Int) ≤ (l3.length : Int) := (by rw [← hji6]; unfold mn; (repeat' split) <;> omega); omega)) k2 a0 (rd y237 x125_2) t249 _ _ (l3.take ((ji6) : Int).toNat) t250 _ ?side1 ?side2 A58.out).mono ?_); (case side1 => repeat (first | exact (Kd.C_below HR215.out (by repeat (first | (with_reducible first | exact HB.out | apply below_alloc | apply pw_below_drewN | apply below_drew1) | exact HB.out))) | (with_reducible refine Kd.C_alloc ?_ _) | (with_reducible refine Kd.C_drewN ?_ _) | (with_reducible refine Kd.C_drew ?_))); (case side2 => exact HC215.out); rintro e w66 ⟨rfl, hb⟩; have n0_ := Aside0.mk (Kd.R_below (by (with_reducible repeat (first | apply Kd.R_alloc | apply Kd.R_drewN | apply Kd.R_drew)); exact HO_123.out) hb); have n1_ := Aside0.mk (below_step (by repeat (first | (with_reducible first | exact HB.out | apply below_alloc | apply pw_below_drewN | apply below_drew1) | exact HB.out)) hb); clear HO_123; clear HB; have HO_123 := n0_; have HB := n1_; clear n0_ n1_; (try clear hb); (try clear hb2); (try clear hk); (try clear hi)) | (go_at_call 11; (with_reducible refine (omnibuslaw10_pick.calls a1 50 t249 _ A59.out).mono ?_); rintro e w' ⟨rfl, ⟨nd, rfl⟩⟩) | (go_at_call 19; (with_reducible refine (omnibusref10_Correct.calls_n (n := ((ji6) : Int).toNat) (hn := (by rw [List.length_take]; have h_ : ((ji6) : Int) ≤ (l3.length : Int) := (by rw [← hji6]; unfold mn; (repeat' split) <;> omega); omega)) k2 a0 (rd y237 x125_2) t249 _ _ (l3.take ((ji6) : Int).toNat) t252 _ ?side1 ?side2 A60.out).mono ?_); (case side1 => repeat (first | exact (Kd.C_below HR215.out (by repeat (first | (with_reducible first | exact HB.out | apply below_alloc | apply pw_below_drewN | apply below_drew1) | exact HB.out))) | (with_reducible refine Kd.C_alloc ?_ _) | (with_reducible refine Kd.C_drewN ?_ _) | (with_reducible refine Kd.C_drew ?_))); (case side2 => exact HC215.out); rintro e w67 ⟨rfl, hb⟩; have n0_ := Aside0.mk (Kd.R_below (by (with_reducible repeat (first | apply Kd.R_alloc | apply Kd.R_drewN | apply Kd.R_drew)); exact HO_123.out) hb); have n1_ := Aside0.mk (below_step (by repeat (first | (with_reducible first | exact HB.out | apply below_alloc | apply pw_below_drewN | apply below_drew1) | exact HB.out)) hb); clear HO_123; clear HB; have HO_123 := n0_; have HB := n1_; clear n0_ n1_; (try clear hb); (try clear hb2); (try clear hk); (try clear hi)))
                              go_roundg k2
                              case measure => have := HK1.out; have := HK2.out; omega
                              case rel => exact ⟨(wrap64 (x125_2 + 1)), (by first | rfl | (simp; done) | (simp [*]; done)), H', ⟨by have := HK1.out; have := HK2.out; omega⟩, ⟨by (with_reducible repeat (first | apply Kd.R_alloc | apply Kd.R_drewN | apply Kd.R_drew)); exact HO_123.out⟩, ⟨by repeat (first | (with_reducible first | exact HB.out | apply below_alloc | apply pw_below_drewN | apply below_drew1) | exact HB.out)⟩⟩
                            · rw [if_neg c61] at H
                              have c61b0 : (t250 == t252) = false := beq_eq_false_iff_ne.mpr c61
                              have c61b1 : (t250 != t252) = true := bne_iff_ne.mpr c61
                              obtain rfl := Option.some.inj H
                              have p242 : 0 ≤ (x125_2 : Int) := of_decide_eq_true (by first | (with_reducible assumption) | assumption)
                              have q242 : x125_2 < (y237.length : Int) := of_decide_eq_true (by first | (with_reducible assumption) | assumption)
                              obtain ⟨ad242, e242, hx242_0⟩ := Kd.at_int (Kd.R_reads' HO_123.out).2.2 x125_2 p242 q242
                              cases e242
                              replace p242 := eq_true p242
                              replace q242 := eq_true q242
                              go_wp2_with (first | ((with_reducible refine gate_callee (f := 16) rfl ?_); refine goesL_ (some 132) rfl rfl Try.func16 (by kernel_rfl) rfl #[.int .i64 (rd y237 x125_2), .slice A3 (l3.take ((ji6) : Int).toNat).length c3] rfl (by (try simp only [List.map_toArray, List.map_cons, List.map_nil]); first | done | (rw [show (l3.take ((ji6) : Int).toNat).length = (ji6).toNat from (by rw [List.length_take]; have h_ : ((ji6) : Int) ≤ (l3.length : Int) := (by rw [← hji6]; unfold mn; (repeat' split) <;> omega); omega)] <;> rfl) | (simp only [hji6]; rfl) | rfl | (simp only [List.length_drop, List.length_take]; rfl)) ?_; (with_reducible refine (clock_Middle.calls k2 (rd y237 x125_2) _ _ (l3.take ((ji6) : Int).toNat) t243 t244 _ ?side1 ?side2 A50.out).mono ?_); (case side1 => repeat (first | exact (Kd.C_below HR215.out HB.out) | (with_reducible refine Kd.C_alloc ?_ _) | (with_reducible refine Kd.C_drewN ?_ _) | (with_reducible refine Kd.C_drew ?_))); (case side2 => exact HC215.out); rintro e w68 ⟨rfl, hb⟩; refine ⟨_, rfl, ?_⟩; have n0_ := Aside0.mk (Kd.R_below (by (with_reducible repeat (first | apply Kd.R_alloc | apply Kd.R_drewN | apply Kd.R_drew)); exact HO_123.out) hb); have n1_ := Aside0.mk (below_step (by repeat (first | (with_reducible first | exact HB.out | apply below_alloc | apply pw_below_drewN | apply below_drew1) | exact HB.out)) hb); clear HO_123; clear HB; have HO_123 := n0_; have HB := n1_; clear n0_ n1_; (try clear hb); (try clear hb2); (try clear hk); (try clear hi)) | ((with_reducible refine gate_callee (f := 17) rfl ?_); refine goesL_ (some 138) rfl rfl Try.func17 (by kernel_rfl) rfl #[.int .i64 (rd y237 x125_2), .slice A3 (l3.take ((ji6) : Int).toNat).length c3] rfl (by (try simp only [List.map_toArray, List.map_cons, List.map_nil]); first | done | (rw [show (l3.take ((ji6) : Int).toNat).length = (ji6).toNat from (by rw [List.length_take]; have h_ : ((ji6) : Int) ≤ (l3.length : Int) := (by rw [← hji6]; unfold mn; (repeat' split) <;> omega); omega)] <;> rfl) | (simp only [hji6]; rfl) | rfl | (simp only [List.length_drop, List.length_take]; rfl)) ?_; (with_reducible refine (omnibusref10_Middle.calls k2 (rd y237 x125_2) _ _ (l3.take ((ji6) : Int).toNat) t245 t246 _ ?side1 ?side2 A51.out).mono ?_); (case side1 => repeat (first | exact (Kd.C_below HR215.out HB.out) | (with_reducible refine Kd.C_alloc ?_ _) | (with_reducible refine Kd.C_drewN ?_ _) | (with_reducible refine Kd.C_drew ?_))); (case side2 => exact HC215.out); rintro e w69 ⟨rfl, hb⟩; refine ⟨_, rfl, ?_⟩; have n0_ := Aside0.mk (Kd.R_below (by (with_reducible repeat (first | apply Kd.R_alloc | apply Kd.R_drewN | apply Kd.R_drew)); exact HO_123.out) hb); have n1_ := Aside0.mk (below_step (by repeat (first | (with_reducible first | exact HB.out | apply below_alloc | apply pw_below_drewN | apply below_drew1) | exact HB.out)) hb); clear HO_123; clear HB; have HO_123 := n0_; have HB := n1_; clear n0_ n1_; (try clear hb); (try clear hb2); (try clear hk); (try clear hi)) | (go_at_call 18; (with_reducible refine (clock_Correct.calls_n (n := ((ji6) : Int).toNat) (hn := (by rw [List.length_take]; have h_ : ((ji6) : Int) ≤ (l3.length : Int) := (by rw [← hji6]; unfold mn; (repeat' split) <;> omega); omega)) k2 a0 (rd y237 x125_2) a1 _ _ (l3.take ((ji6) : Int).toNat) t247 _ ?side1 ?side2 A54.out).mono ?_); (case side1 => repeat (first | exact (Kd.C_below HR215.out HB.out) | (with_reducible refine Kd.C_alloc ?_ _) | (with_reducible refine Kd.C_drewN ?_ _) | (with_reducible refine Kd.C_drew ?_))); (case side2 => exact HC215.out); rintro e w70 ⟨rfl, hb⟩; have n0_ := Aside0.mk (Kd.R_below (by (with_reducible repeat (first | apply Kd.R_alloc | apply Kd.R_drewN | apply Kd.R_drew)); exact HO_123.out) hb); have n1_ := Aside0.mk (below_step (by repeat (first | (with_reducible first | exact HB.out | apply below_alloc | apply pw_below_drewN | apply below_drew1) | exact HB.out)) hb); clear HO_123; clear HB; have HO_123 := n0_; have HB := n1_; clear n0_ n1_; (try clear hb); (try clear hb2); (try clear hk); (try clear hi)) | (go_at_call 19; (with_reducible refine (omnibusref10_Correct.calls_n (n := ((ji6) : Int).toNat) (hn := (by rw [List.length_take]; have h_ : ((ji6) : Int) ≤ (l3.length : Int) := (by rw [← hji6]; unfold mn; (repeat' split) <;> omega); omega)) k2 a0 (rd y237 x125_2) a1 _ _ (l3.take ((ji6) : Int).toNat) t248 _ ?side1 ?side2 A55.out).mono ?_); (case side1 => repeat (first | exact (Kd.C_below HR215.out HB.out) | (with_reducible refine Kd.C_alloc ?_ _) | (with_reducible refine Kd.C_drewN ?_ _) | (with_reducible refine Kd.C_drew ?_))); (case side2 => exact HC215.out); rintro e w71 ⟨rfl, hb⟩; have n0_ := Aside0.mk (Kd.R_below (by (with_reducible repeat (first | apply Kd.R_alloc | apply Kd.R_drewN | apply Kd.R_drew)); exact HO_123.out) hb); have n1_ := Aside0.mk (below_step (by repeat (first | (with_reducible first | exact HB.out | apply below_alloc | apply pw_below_drewN | apply below_drew1) | exact HB.out)) hb); clear HO_123; clear HB; have HO_123 := n0_; have HB := n1_; clear n0_ n1_; (try clear hb); (try clear hb2); (try clear hk); (try clear hi)) | (go_at_call 11; (with_reducible refine (omnibuslaw10_pick.calls a1 50 t249 _ A57.out).mono ?_); rintro e w' ⟨rfl, ⟨nd, rfl⟩⟩) | (go_at_call 18; (with_reducible refine (clock_Correct.calls_n (n := ((ji6) : Int).toNat) (hn := (by rw [List.length_take]; have h_ : ((ji6) : Int) ≤ (l3.length : Int) := (by rw [← hji6]; unfold mn; (repeat' split) <;> omega); omega)) k2 a0 (rd y237 x125_2) t249 _ _ (l3.take ((ji6) : Int).toNat) t250 _ ?side1 ?side2 A58.out).mono ?_); (case side1 => repeat (first | exact (Kd.C_below HR215.out (by repeat (first | (with_reducible first | exact HB.out | apply below_alloc | apply pw_below_drewN | apply below_drew1) | exact HB.out))) | (with_reducible refine Kd.C_alloc ?_ _) | (with_reducible refine Kd.C_drewN ?_ _) | (with_reducible refine Kd.C_drew ?_))); (case side2 => exact HC215.out); rintro e w72 ⟨rfl, hb⟩; have n0_ := Aside0.mk (Kd.R_below (by (with_reducible repeat (first | apply Kd.R_alloc | apply Kd.R_drewN | apply Kd.R_drew)); exact HO_123.out) hb); have n1_ := Aside0.mk (below_step (by repeat (first | (with_reducible first | exact HB.out | apply below_alloc | apply pw_below_drewN | apply below_drew1) | exact HB.out)) hb); clear HO_123; clear HB; have HO_123 := n0_; have HB := n1_; clear n0_ n1_; (try clear hb); (try clear hb2); (try clear hk); (try clear hi)) | (go_at_call 11; (with_reducible refine (omnibuslaw10_pick.calls a1 50 t249 _ A59.out).mono ?_); rintro e w' ⟨rfl, ⟨nd, rfl⟩⟩) | (go_at_call 19; (with_reducible refine (omnibusref10_Correct.calls_n (n := ((ji6) : Int).toNat) (hn := (by rw [List.length_take]; have h_ : ((ji6) : Int) ≤ (l3.length : Int) := (by rw [← hji6]; unfold mn; (repeat' split) <;> omega); omega)) k2 a0 (rd y237 x125_2) t249 _ _ (l3.take ((ji6) : Int).toNat) t252 _ ?side1 ?side2 A60.out).mono ?_); (case side1 => repeat (first | exact (Kd.C_below HR215.out (by repeat (first | (with_reducible first | exact HB.out | apply below_alloc | apply pw_below_drewN | apply below_drew1) | exact HB.out))) | (with_reducible refine Kd.C_alloc ?_ _) | (with_reducible refine Kd.C_drewN ?_ _) | (with_reducible refine Kd.C_drew ?_))); (case side2 => exact HC215.out); rintro e w73 ⟨rfl, hb⟩; have n0_ := Aside0.mk (Kd.R_below (by (with_reducible repeat (first | apply Kd.R_alloc | apply Kd.R_drewN | apply Kd.R_drew)); exact HO_123.out) hb); have n1_ := Aside0.mk (below_step (by repeat (first | (with_reducible first | exact HB.out | apply below_alloc | apply pw_below_drewN | apply below_drew1) | exact HB.out)) hb); clear HO_123; clear HB; have HO_123 := n0_; have HB := n1_; clear n0_ n1_; (try clear hb); (try clear hb2); (try clear hk); (try clear hi)))
                              go_ret
                              exact ⟨by first | rfl | (simp [errW_none, errW_some] <;> rfl) | (simp only [← hji6]; first | rfl | (simp [errW_none, errW_some] <;> rfl)) | (simp [*, errW_none, errW_some] <;> rfl), by repeat (first | (with_reducible first | exact HB.out | apply below_alloc | apply pw_below_drewN | apply below_drew1) | exact HB.out)⟩
                          · rw [if_neg c56] at H
                            have c56b0 : (t247 == t248) = false := beq_eq_false_iff_ne.mpr c56
                            have c56b1 : (t247 != t248) = true := bne_iff_ne.mpr c56
                            obtain rfl := Option.some.inj H
                            have p242 : 0 ≤ (x125_2 : Int) := of_decide_eq_true (by first | (with_reducible assumption) | assumption)
                            have q242 : x125_2 < (y237.length : Int) := of_decide_eq_true (by first | (with_reducible assumption) | assumption)
                            obtain ⟨ad242, e242, hx242_0⟩ := Kd.at_int (Kd.R_reads' HO_123.out).2.2 x125_2 p242 q242
                            cases e242
                            replace p242 := eq_true p242
                            replace q242 := eq_true q242
                            go_wp2_with (first | ((with_reducible refine gate_callee (f := 16) rfl ?_); refine goesL_ (some 132) rfl rfl Try.func16 (by kernel_rfl) rfl #[.int .i64 (rd y237 x125_2), .slice A3 (l3.take ((ji6) : Int).toNat).length c3] rfl (by (try simp only [List.map_toArray, List.map_cons, List.map_nil]); first | done | (rw [show (l3.take ((ji6) : Int).toNat).length = (ji6).toNat from (by rw [List.length_take]; have h_ : ((ji6) : Int) ≤ (l3.length : Int) := (by rw [← hji6]; unfold mn; (repeat' split) <;> omega); omega)] <;> rfl) | (simp only [hji6]; rfl) | rfl | (simp only [List.length_drop, List.length_take]; rfl)) ?_; (with_reducible refine (clock_Middle.calls k2 (rd y237 x125_2) _ _ (l3.take ((ji6) : Int).toNat) t243 t244 _ ?side1 ?side2 A50.out).mono ?_); (case side1 => repeat (first | exact (Kd.C_below HR215.out HB.out) | (with_reducible refine Kd.C_alloc ?_ _) | (with_reducible refine Kd.C_drewN ?_ _) | (with_reducible refine Kd.C_drew ?_))); (case side2 => exact HC215.out); rintro e w74 ⟨rfl, hb⟩; refine ⟨_, rfl, ?_⟩; have n0_ := Aside0.mk (Kd.R_below (by (with_reducible repeat (first | apply Kd.R_alloc | apply Kd.R_drewN | apply Kd.R_drew)); exact HO_123.out) hb); have n1_ := Aside0.mk (below_step (by repeat (first | (with_reducible first | exact HB.out | apply below_alloc | apply pw_below_drewN | apply below_drew1) | exact HB.out)) hb); clear HO_123; clear HB; have HO_123 := n0_; have HB := n1_; clear n0_ n1_; (try clear hb); (try clear hb2); (try clear hk); (try clear hi)) | ((with_reducible refine gate_callee (f := 17) rfl ?_); refine goesL_ (some 138) rfl rfl Try.func17 (by kernel_rfl) rfl #[.int .i64 (rd y237 x125_2), .slice A3 (l3.take ((ji6) : Int).toNat).length c3] rfl (by (try simp only [List.map_toArray, List.map_cons, List.map_nil]); first | done | (rw [show (l3.take ((ji6) : Int).toNat).length = (ji6).toNat from (by rw [List.length_take]; have h_ : ((ji6) : Int) ≤ (l3.length : Int) := (by rw [← hji6]; unfold mn; (repeat' split) <;> omega); omega)] <;> rfl) | (simp only [hji6]; rfl) | rfl | (simp only [List.length_drop, List.length_take]; rfl)) ?_; (with_reducible refine (omnibusref10_Middle.calls k2 (rd y237 x125_2) _ _ (l3.take ((ji6) : Int).toNat) t245 t246 _ ?side1 ?side2 A51.out).mono ?_); (case side1 => repeat (first | exact (Kd.C_below HR215.out HB.out) | (with_reducible refine Kd.C_alloc ?_ _) | (with_reducible refine Kd.C_drewN ?_ _) | (with_reducible refine Kd.C_drew ?_))); (case side2 => exact HC215.out); rintro e w75 ⟨rfl, hb⟩; refine ⟨_, rfl, ?_⟩; have n0_ := Aside0.mk (Kd.R_below (by (with_reducible repeat (first | apply Kd.R_alloc | apply Kd.R_drewN | apply Kd.R_drew)); exact HO_123.out) hb); have n1_ := Aside0.mk (below_step (by repeat (first | (with_reducible first | exact HB.out | apply below_alloc | apply pw_below_drewN | apply below_drew1) | exact HB.out)) hb); clear HO_123; clear HB; have HO_123 := n0_; have HB := n1_; clear n0_ n1_; (try clear hb); (try clear hb2); (try clear hk); (try clear hi)) | (go_at_call 18; (with_reducible refine (clock_Correct.calls_n (n := ((ji6) : Int).toNat) (hn := (by rw [List.length_take]; have h_ : ((ji6) : Int) ≤ (l3.length : Int) := (by rw [← hji6]; unfold mn; (repeat' split) <;> omega); omega)) k2 a0 (rd y237 x125_2) a1 _ _ (l3.take ((ji6) : Int).toNat) t247 _ ?side1 ?side2 A54.out).mono ?_); (case side1 => repeat (first | exact (Kd.C_below HR215.out HB.out) | (with_reducible refine Kd.C_alloc ?_ _) | (with_reducible refine Kd.C_drewN ?_ _) | (with_reducible refine Kd.C_drew ?_))); (case side2 => exact HC215.out); rintro e w76 ⟨rfl, hb⟩; have n0_ := Aside0.mk (Kd.R_below (by (with_reducible repeat (first | apply Kd.R_alloc | apply Kd.R_drewN | apply Kd.R_drew)); exact HO_123.out) hb); have n1_ := Aside0.mk (below_step (by repeat (first | (with_reducible first | exact HB.out | apply below_alloc | apply pw_below_drewN | apply below_drew1) | exact HB.out)) hb); clear HO_123; clear HB; have HO_123 := n0_; have HB := n1_; clear n0_ n1_; (try clear hb); (try clear hb2); (try clear hk); (try clear hi)) | (go_at_call 19; (with_reducible refine (omnibusref10_Correct.calls_n (n := ((ji6) : Int).toNat) (hn := (by rw [List.length_take]; have h_ : ((ji6) : Int) ≤ (l3.length : Int) := (by rw [← hji6]; unfold mn; (repeat' split) <;> omega); omega)) k2 a0 (rd y237 x125_2) a1 _ _ (l3.take ((ji6) : Int).toNat) t248 _ ?side1 ?side2 A55.out).mono ?_); (case side1 => repeat (first | exact (Kd.C_below HR215.out HB.out) | (with_reducible refine Kd.C_alloc ?_ _) | (with_reducible refine Kd.C_drewN ?_ _) | (with_reducible refine Kd.C_drew ?_))); (case side2 => exact HC215.out); rintro e w77 ⟨rfl, hb⟩; have n0_ := Aside0.mk (Kd.R_below (by (with_reducible repeat (first | apply Kd.R_alloc | apply Kd.R_drewN | apply Kd.R_drew)); exact HO_123.out) hb); have n1_ := Aside0.mk (below_step (by repeat (first | (with_reducible first | exact HB.out | apply below_alloc | apply pw_below_drewN | apply below_drew1) | exact HB.out)) hb); clear HO_123; clear HB; have HO_123 := n0_; have HB := n1_; clear n0_ n1_; (try clear hb); (try clear hb2); (try clear hk); (try clear hi)))
                            go_ret
                            exact ⟨by first | rfl | (simp [errW_none, errW_some] <;> rfl) | (simp only [← hji6]; first | rfl | (simp [errW_none, errW_some] <;> rfl)) | (simp [*, errW_none, errW_some] <;> rfl), by repeat (first | (with_reducible first | exact HB.out | apply below_alloc | apply pw_below_drewN | apply below_drew1) | exact HB.out)⟩
                        · rw [if_neg c53] at H
                          have c53b0 : (t244 == t246) = false := beq_eq_false_iff_ne.mpr c53
                          have c53b1 : (t244 != t246) = true := bne_iff_ne.mpr c53
                          obtain rfl := Option.some.inj H
                          have p242 : 0 ≤ (x125_2 : Int) := of_decide_eq_true (by first | (with_reducible assumption) | assumption)
                          have q242 : x125_2 < (y237.length : Int) := of_decide_eq_true (by first | (with_reducible assumption) | assumption)
                          obtain ⟨ad242, e242, hx242_0⟩ := Kd.at_int (Kd.R_reads' HO_123.out).2.2 x125_2 p242 q242
                          cases e242
                          replace p242 := eq_true p242
                          replace q242 := eq_true q242
                          go_wp2_with (first | ((with_reducible refine gate_callee (f := 16) rfl ?_); refine goesL_ (some 132) rfl rfl Try.func16 (by kernel_rfl) rfl #[.int .i64 (rd y237 x125_2), .slice A3 (l3.take ((ji6) : Int).toNat).length c3] rfl (by (try simp only [List.map_toArray, List.map_cons, List.map_nil]); first | done | (rw [show (l3.take ((ji6) : Int).toNat).length = (ji6).toNat from (by rw [List.length_take]; have h_ : ((ji6) : Int) ≤ (l3.length : Int) := (by rw [← hji6]; unfold mn; (repeat' split) <;> omega); omega)] <;> rfl) | (simp only [hji6]; rfl) | rfl | (simp only [List.length_drop, List.length_take]; rfl)) ?_; (with_reducible refine (clock_Middle.calls k2 (rd y237 x125_2) _ _ (l3.take ((ji6) : Int).toNat) t243 t244 _ ?side1 ?side2 A50.out).mono ?_); (case side1 => repeat (first | exact (Kd.C_below HR215.out HB.out) | (with_reducible refine Kd.C_alloc ?_ _) | (with_reducible refine Kd.C_drewN ?_ _) | (with_reducible refine Kd.C_drew ?_))); (case side2 => exact HC215.out); rintro e w78 ⟨rfl, hb⟩; refine ⟨_, rfl, ?_⟩; have n0_ := Aside0.mk (Kd.R_below (by (with_reducible repeat (first | apply Kd.R_alloc | apply Kd.R_drewN | apply Kd.R_drew)); exact HO_123.out) hb); have n1_ := Aside0.mk (below_step (by repeat (first | (with_reducible first | exact HB.out | apply below_alloc | apply pw_below_drewN | apply below_drew1) | exact HB.out)) hb); clear HO_123; clear HB; have HO_123 := n0_; have HB := n1_; clear n0_ n1_; (try clear hb); (try clear hb2); (try clear hk); (try clear hi)) | ((with_reducible refine gate_callee (f := 17) rfl ?_); refine goesL_ (some 138) rfl rfl Try.func17 (by kernel_rfl) rfl #[.int .i64 (rd y237 x125_2), .slice A3 (l3.take ((ji6) : Int).toNat).length c3] rfl (by (try simp only [List.map_toArray, List.map_cons, List.map_nil]); first | done | (rw [show (l3.take ((ji6) : Int).toNat).length = (ji6).toNat from (by rw [List.length_take]; have h_ : ((ji6) : Int) ≤ (l3.length : Int) := (by rw [← hji6]; unfold mn; (repeat' split) <;> omega); omega)] <;> rfl) | (simp only [hji6]; rfl) | rfl | (simp only [List.length_drop, List.length_take]; rfl)) ?_; (with_reducible refine (omnibusref10_Middle.calls k2 (rd y237 x125_2) _ _ (l3.take ((ji6) : Int).toNat) t245 t246 _ ?side1 ?side2 A51.out).mono ?_); (case side1 => repeat (first | exact (Kd.C_below HR215.out HB.out) | (with_reducible refine Kd.C_alloc ?_ _) | (with_reducible refine Kd.C_drewN ?_ _) | (with_reducible refine Kd.C_drew ?_))); (case side2 => exact HC215.out); rintro e w79 ⟨rfl, hb⟩; refine ⟨_, rfl, ?_⟩; have n0_ := Aside0.mk (Kd.R_below (by (with_reducible repeat (first | apply Kd.R_alloc | apply Kd.R_drewN | apply Kd.R_drew)); exact HO_123.out) hb); have n1_ := Aside0.mk (below_step (by repeat (first | (with_reducible first | exact HB.out | apply below_alloc | apply pw_below_drewN | apply below_drew1) | exact HB.out)) hb); clear HO_123; clear HB; have HO_123 := n0_; have HB := n1_; clear n0_ n1_; (try clear hb); (try clear hb2); (try clear hk); (try clear hi)))
                          go_ret
                          exact ⟨by first | rfl | (simp [errW_none, errW_some] <;> rfl) | (simp only [← hji6]; first | rfl | (simp [errW_none, errW_some] <;> rfl)) | (simp [*, errW_none, errW_some] <;> rfl), by repeat (first | (with_reducible first | exact HB.out | apply below_alloc | apply pw_below_drewN | apply below_drew1) | exact HB.out)⟩
                      · rw [if_neg c52] at H
                        have c52b0 : (t243 == t245) = false := beq_eq_false_iff_ne.mpr c52
                        have c52b1 : (t243 != t245) = true := bne_iff_ne.mpr c52
                        obtain rfl := Option.some.inj H
                        have p242 : 0 ≤ (x125_2 : Int) := of_decide_eq_true (by first | (with_reducible assumption) | assumption)
                        have q242 : x125_2 < (y237.length : Int) := of_decide_eq_true (by first | (with_reducible assumption) | assumption)
                        obtain ⟨ad242, e242, hx242_0⟩ := Kd.at_int (Kd.R_reads' HO_123.out).2.2 x125_2 p242 q242
                        cases e242
                        replace p242 := eq_true p242
                        replace q242 := eq_true q242
                        go_wp2_with (first | ((with_reducible refine gate_callee (f := 16) rfl ?_); refine goesL_ (some 132) rfl rfl Try.func16 (by kernel_rfl) rfl #[.int .i64 (rd y237 x125_2), .slice A3 (l3.take ((ji6) : Int).toNat).length c3] rfl (by (try simp only [List.map_toArray, List.map_cons, List.map_nil]); first | done | (rw [show (l3.take ((ji6) : Int).toNat).length = (ji6).toNat from (by rw [List.length_take]; have h_ : ((ji6) : Int) ≤ (l3.length : Int) := (by rw [← hji6]; unfold mn; (repeat' split) <;> omega); omega)] <;> rfl) | (simp only [hji6]; rfl) | rfl | (simp only [List.length_drop, List.length_take]; rfl)) ?_; (with_reducible refine (clock_Middle.calls k2 (rd y237 x125_2) _ _ (l3.take ((ji6) : Int).toNat) t243 t244 _ ?side1 ?side2 A50.out).mono ?_); (case side1 => repeat (first | exact (Kd.C_below HR215.out HB.out) | (with_reducible refine Kd.C_alloc ?_ _) | (with_reducible refine Kd.C_drewN ?_ _) | (with_reducible refine Kd.C_drew ?_))); (case side2 => exact HC215.out); rintro e w80 ⟨rfl, hb⟩; refine ⟨_, rfl, ?_⟩; have n0_ := Aside0.mk (Kd.R_below (by (with_reducible repeat (first | apply Kd.R_alloc | apply Kd.R_drewN | apply Kd.R_drew)); exact HO_123.out) hb); have n1_ := Aside0.mk (below_step (by repeat (first | (with_reducible first | exact HB.out | apply below_alloc | apply pw_below_drewN | apply below_drew1) | exact HB.out)) hb); clear HO_123; clear HB; have HO_123 := n0_; have HB := n1_; clear n0_ n1_; (try clear hb); (try clear hb2); (try clear hk); (try clear hi)) | ((with_reducible refine gate_callee (f := 17) rfl ?_); refine goesL_ (some 138) rfl rfl Try.func17 (by kernel_rfl) rfl #[.int .i64 (rd y237 x125_2), .slice A3 (l3.take ((ji6) : Int).toNat).length c3] rfl (by (try simp only [List.map_toArray, List.map_cons, List.map_nil]); first | done | (rw [show (l3.take ((ji6) : Int).toNat).length = (ji6).toNat from (by rw [List.length_take]; have h_ : ((ji6) : Int) ≤ (l3.length : Int) := (by rw [← hji6]; unfold mn; (repeat' split) <;> omega); omega)] <;> rfl) | (simp only [hji6]; rfl) | rfl | (simp only [List.length_drop, List.length_take]; rfl)) ?_; (with_reducible refine (omnibusref10_Middle.calls k2 (rd y237 x125_2) _ _ (l3.take ((ji6) : Int).toNat) t245 t246 _ ?side1 ?side2 A51.out).mono ?_); (case side1 => repeat (first | exact (Kd.C_below HR215.out HB.out) | (with_reducible refine Kd.C_alloc ?_ _) | (with_reducible refine Kd.C_drewN ?_ _) | (with_reducible refine Kd.C_drew ?_))); (case side2 => exact HC215.out); rintro e w81 ⟨rfl, hb⟩; refine ⟨_, rfl, ?_⟩; have n0_ := Aside0.mk (Kd.R_below (by (with_reducible repeat (first | apply Kd.R_alloc | apply Kd.R_drewN | apply Kd.R_drew)); exact HO_123.out) hb); have n1_ := Aside0.mk (below_step (by repeat (first | (with_reducible first | exact HB.out | apply below_alloc | apply pw_below_drewN | apply below_drew1) | exact HB.out)) hb); clear HO_123; clear HB; have HO_123 := n0_; have HB := n1_; clear n0_ n1_; (try clear hb); (try clear hb2); (try clear hk); (try clear hi)))
                        go_ret
                        exact ⟨by first | rfl | (simp [errW_none, errW_some] <;> rfl) | (simp only [← hji6]; first | rfl | (simp [errW_none, errW_some] <;> rfl)) | (simp [*, errW_none, errW_some] <;> rfl), by repeat (first | (with_reducible first | exact HB.out | apply below_alloc | apply pw_below_drewN | apply below_drew1) | exact HB.out)⟩
                    · rw [if_neg c49] at H
                      exact absurd H (by simp)
                  · rw [if_neg c48] at H
                    exact absurd H (by simp)
                · rw [if_neg c47] at H
                  have c47b0 : decide (x125_2 < (y237.length : Int)) = false := decide_eq_false c47
                  clear c47
                  by_cases c82 : t214 = true
                  · subst c82
                    have H1 : ((clock_Spread.f k2 (l3.take ((ji6) : Int).toNat)).bind fun t240 => ((omnibusref10_Spread.f k2 (l3.take ((ji6) : Int).toNat)).bind fun t241 => (some (t240 == t241)))) = some r := by rw [if_pos rfl] at H; exact H
                    clear H
                    have H := H1
                    clear H1
                    replace H := Option.bind_eq_some_iff.mp H
                    obtain ⟨t240, A830, H⟩ := H
                    replace H : ((omnibusref10_Spread.f k2 (l3.take ((ji6) : Int).toNat)).bind fun t241 => (some (t240 == t241))) = some r := H
                    have A83 := Aside0.mk A830
                    clear A830
                    replace H := Option.bind_eq_some_iff.mp H
                    obtain ⟨t241, A840, H⟩ := H
                    replace H : (some (t240 == t241)) = some r := H
                    have A84 := Aside0.mk A840
                    clear A840
                    obtain rfl := Option.some.inj H
                    go_wp2_with (first | (go_at_call 20; (with_reducible refine (clock_Spread.calls_n (n := ((ji6) : Int).toNat) (hn := (by rw [List.length_take]; have h_ : ((ji6) : Int) ≤ (l3.length : Int) := (by rw [← hji6]; unfold mn; (repeat' split) <;> omega); omega)) k2 _ _ (l3.take ((ji6) : Int).toNat) t240 _ ?side1 ?side2 A83.out).mono ?_); (case side1 => repeat (first | exact (Kd.C_below HR215.out HB.out) | (with_reducible refine Kd.C_alloc ?_ _) | (with_reducible refine Kd.C_drewN ?_ _) | (with_reducible refine Kd.C_drew ?_))); (case side2 => exact HC215.out); rintro e w85 ⟨rfl, hb⟩; have n0_ := Aside0.mk (Kd.R_below (by (with_reducible repeat (first | apply Kd.R_alloc | apply Kd.R_drewN | apply Kd.R_drew)); exact HO_123.out) hb); have n1_ := Aside0.mk (below_step (by repeat (first | (with_reducible first | exact HB.out | apply below_alloc | apply pw_below_drewN | apply below_drew1) | exact HB.out)) hb); clear HO_123; clear HB; have HO_123 := n0_; have HB := n1_; clear n0_ n1_; (try clear hb); (try clear hb2); (try clear hk); (try clear hi)) | (go_at_call 21; (with_reducible refine (omnibusref10_Spread.calls_n (n := ((ji6) : Int).toNat) (hn := (by rw [List.length_take]; have h_ : ((ji6) : Int) ≤ (l3.length : Int) := (by rw [← hji6]; unfold mn; (repeat' split) <;> omega); omega)) k2 _ _ (l3.take ((ji6) : Int).toNat) t241 _ ?side1 ?side2 A84.out).mono ?_); (case side1 => repeat (first | exact (Kd.C_below HR215.out HB.out) | (with_reducible refine Kd.C_alloc ?_ _) | (with_reducible refine Kd.C_drewN ?_ _) | (with_reducible refine Kd.C_drew ?_))); (case side2 => exact HC215.out); rintro e w86 ⟨rfl, hb⟩; have n0_ := Aside0.mk (Kd.R_below (by (with_reducible repeat (first | apply Kd.R_alloc | apply Kd.R_drewN | apply Kd.R_drew)); exact HO_123.out) hb); have n1_ := Aside0.mk (below_step (by repeat (first | (with_reducible first | exact HB.out | apply below_alloc | apply pw_below_drewN | apply below_drew1) | exact HB.out)) hb); clear HO_123; clear HB; have HO_123 := n0_; have HB := n1_; clear n0_ n1_; (try clear hb); (try clear hb2); (try clear hk); (try clear hi)))
                    go_ret
                    exact ⟨by first | rfl | (simp [errW_none, errW_some] <;> rfl) | (simp only [← hji6]; first | rfl | (simp [errW_none, errW_some] <;> rfl)) | (simp [*, errW_none, errW_some] <;> rfl), by repeat (first | (with_reducible first | exact HB.out | apply below_alloc | apply pw_below_drewN | apply below_drew1) | exact HB.out)⟩
                  · replace c82 := Bool.eq_false_iff.mpr c82
                    subst c82
                    have H1 : (some false) = some r := by rw [if_neg (show ¬ (false = true) by decide)] at H; exact H
                    clear H
                    have H := H1
                    clear H1
                    obtain rfl := Option.some.inj H
                    go_wp2
                    go_ret
                    exact ⟨by first | rfl | (simp [errW_none, errW_some] <;> rfl) | (simp only [← hji6]; first | rfl | (simp [errW_none, errW_some] <;> rfl)) | (simp [*, errW_none, errW_some] <;> rfl), by repeat (first | (with_reducible first | exact HB.out | apply below_alloc | apply pw_below_drewN | apply below_drew1) | exact HB.out)⟩
    · rw [if_neg c8] at H
      exact absurd H (by simp)
  · rw [if_neg c7] at H
    exact absurd H (by simp)

/-- THE ONE PURE STATEMENT of omnibuslaw10_ClockTells: yours. -/
def omnibuslaw10_ClockTells.Pure : Prop := ∀ (a0 : Int) (a1 : Int) (a2 : Int) (l3 : List Int), (Lit.int .i64 a0).wf = true → (Lit.int .i64 a1).wf = true → (Lit.int .i64 a2).wf = true → l3.length ≤ maxLen → l3.length * 8 ≤ 140737488351232 → (∀ x ∈ l3, (Lit.int .i64 x).wf = true) → ∃ k, omnibuslaw10_ClockTells.f k a0 a1 a2 l3 = some true
theorem omnibuslaw10_ClockTells.walk (P : omnibuslaw10_ClockTells.Pure) (a0 : Int) (a1 : Int) (a2 : Int) (a3 : Option Addr) (len3 cap3 : Nat) (z3 : List Int) (w : World) (w0 : (Lit.int .i64 a0).wf = true) (w1 : (Lit.int .i64 a1).wf = true) (w2 : (Lit.int .i64 a2).wf = true) (w3 : (a3 = none ∧ len3 = 0 ∧ cap3 = 0 ∧ z3 = []) ∨ ∃ x, a3 = some x ∧ len3 ≤ cap3 ∧ cap3 ≤ maxLen ∧ z3.length = cap3 ∧ (∀ i, i < z3.length → w.cell? (x.add i) = some (.int .i64 (z3.getD i 0))) ∧ ∀ n ∈ z3, (Lit.int .i64 n).wf = true) (y3 : len3 * 8 ≤ 140737488351232) :
    Calls Try.prog 3 #[.int .i64 a0, .int .i64 a1, .int .i64 a2, .slice a3 len3 cap3] w fun e w' => e = .returned (.bool true) ∧ Below w.heap.size w w' := by
  obtain ⟨l3, rfl, hr3, hm3, hw3, hc3⟩ := ReadsInt.ofRowC w3
  obtain ⟨k, h⟩ := P a0 a1 a2 l3 w0 w1 w2 hm3 y3 hw3
  refine (omnibuslaw10_ClockTells.calls k a0 a1 a2 _ _ l3 true w (Kd.C_of_reads (d := (0 : Int)) (h1 := fun _ => rfl) hr3) hc3 h).mono ?_
  rintro e w' ⟨rfl, hd⟩
  exact ⟨rfl, hd⟩

end Go.Proofs.Ytbcbkokpbobngaa.PT
