/- The law ClockTells (what clocks count, and how they are put right, is as the document says) as a statement on numbers and lists alone; no conditions. -/
import Derived.Test.YtbcbkokpbobngaaPTx6
import Derived.Test.YtbcbkokpbobngaaClkT
namespace Go.Proofs.Ytbcbkokpbobngaa.Pure
open Go.RowKit Go.Proofs.Ytbcbkokpbobngaa.PT Go.Proofs.YtbcbkokpbobngaaW.PrintWords Go.Proofs.YtbcbkokpbobngaaW.PrintLast
theorem tells_l1 (a b : Int) (l drops : List Int) (hn : l.length ≤ 80) (hd : drops.length ≤ 9) (hb : -9223372036854775808 ≤ b ∧ b ≤ 9223372036854775807) : ∀ (d i : Nat), i + d = drops.length →
    Ev (fun k => omnibuslaw10_ClockTells.l1 k a b true l drops (drops.length : Int) (i : Int)) true
  | 0, i, hd' => by
    refine Ev.step (f := fun k => (clock_Spread.f k l).bind fun t240 => ((omnibusref10_Spread.f k l).bind fun t241 => (some (t240 == t241)))) (fun k => ?_) ?_
    · simp only [omnibuslaw10_ClockTells.l1]
      rw [if_neg (by omega), if_pos trivial]
    · refine Ev.bind (f := fun k t240 => ((omnibusref10_Spread.f k l).bind fun t241 => (some (t240 == t241)))) (Spread_ev l (by omega)) ?_
      refine Ev.bind (f := fun _ t241 => (some (wrap64 (hi l - lo l) == t241))) (rSpread_ev l (by omega)) ?_
      exact Ev.congr (fun _ => by rw [beq_self_eq_true]) (Ev.now true)
  | d + 1, i, hd' => by
    have hw : wrap64 ((i : Int) + 1) = ((i + 1 : Nat) : Int) := by rw [w64 (by omega) (by omega)]; rfl
    generalize hx : rd drops (i : Int) = x
    obtain ⟨m, m1, m2⟩ := Middle_same x l hn
    obtain ⟨c, c1, c2⟩ := Correct_same a x b l hn hb.2
    have hp := pk_range b 50 (by omega)
    have ep := pick_eq b 50 hb (by omega)
    generalize pk b 50 = p at *
    obtain ⟨q, q1, q2⟩ := Correct_same a x p l hn (by omega)
    have ih := tells_l1 a b l drops hn hd hb d (i + 1) (by omega)
    refine Ev.step (f := fun k => ((clock_Middle.f k x l).bind fun bt243 => ((omnibusref10_Middle.f k x l).bind fun bt245 => (if bt243.1 = bt245.1 then (if bt243.2 = bt245.2 then ((clock_Correct.f k a x b l).bind fun t247 => ((omnibusref10_Correct.f k a x b l).bind fun t248 => (if t247 = t248 then ((clock_Correct.f k a x p l).bind fun t250 => ((omnibusref10_Correct.f k a x p l).bind fun t252 => (if t250 = t252 then (omnibuslaw10_ClockTells.l1 k a b true l drops (drops.length : Int) ((i + 1 : Nat) : Int)) else (some false)))) else (some false)))) else (some false)) else (some false))))) (fun k => ?_) ?_
    · simp only [omnibuslaw10_ClockTells.l1]
      rw [if_pos (by omega), if_pos (by omega), if_pos (by omega), hx, ep, hw]
      simp only [Option.bind_some]
    · refine Ev.bind (f := fun k (bt243 : Int × Int) => ((omnibusref10_Middle.f k x l).bind fun bt245 => (if bt243.1 = bt245.1 then (if bt243.2 = bt245.2 then ((clock_Correct.f k a x b l).bind fun t247 => ((omnibusref10_Correct.f k a x b l).bind fun t248 => (if t247 = t248 then ((clock_Correct.f k a x p l).bind fun t250 => ((omnibusref10_Correct.f k a x p l).bind fun t252 => (if t250 = t252 then (omnibuslaw10_ClockTells.l1 k a b true l drops (drops.length : Int) ((i + 1 : Nat) : Int)) else (some false)))) else (some false)))) else (some false)) else (some false)))) m1 ?_
      refine Ev.bind (f := fun k (bt245 : Int × Int) => (if m.1 = bt245.1 then (if m.2 = bt245.2 then ((clock_Correct.f k a x b l).bind fun t247 => ((omnibusref10_Correct.f k a x b l).bind fun t248 => (if t247 = t248 then ((clock_Correct.f k a x p l).bind fun t250 => ((omnibusref10_Correct.f k a x p l).bind fun t252 => (if t250 = t252 then (omnibuslaw10_ClockTells.l1 k a b true l drops (drops.length : Int) ((i + 1 : Nat) : Int)) else (some false)))) else (some false)))) else (some false)) else (some false))) m2 ?_
      refine Ev.congr (f := fun k => ((clock_Correct.f k a x b l).bind fun t247 => ((omnibusref10_Correct.f k a x b l).bind fun t248 => (if t247 = t248 then ((clock_Correct.f k a x p l).bind fun t250 => ((omnibusref10_Correct.f k a x p l).bind fun t252 => (if t250 = t252 then (omnibuslaw10_ClockTells.l1 k a b true l drops (drops.length : Int) ((i + 1 : Nat) : Int)) else (some false)))) else (some false))))) (fun k => by rw [if_pos rfl, if_pos rfl]) ?_
      refine Ev.bind (f := fun k (t247 : Int) => ((omnibusref10_Correct.f k a x b l).bind fun t248 => (if t247 = t248 then ((clock_Correct.f k a x p l).bind fun t250 => ((omnibusref10_Correct.f k a x p l).bind fun t252 => (if t250 = t252 then (omnibuslaw10_ClockTells.l1 k a b true l drops (drops.length : Int) ((i + 1 : Nat) : Int)) else (some false)))) else (some false)))) c1 ?_
      refine Ev.bind (f := fun k (t248 : Int) => (if c = t248 then ((clock_Correct.f k a x p l).bind fun t250 => ((omnibusref10_Correct.f k a x p l).bind fun t252 => (if t250 = t252 then (omnibuslaw10_ClockTells.l1 k a b true l drops (drops.length : Int) ((i + 1 : Nat) : Int)) else (some false)))) else (some false))) c2 ?_
      refine Ev.congr (f := fun k => ((clock_Correct.f k a x p l).bind fun t250 => ((omnibusref10_Correct.f k a x p l).bind fun t252 => (if t250 = t252 then (omnibuslaw10_ClockTells.l1 k a b true l drops (drops.length : Int) ((i + 1 : Nat) : Int)) else (some false))))) (fun k => by rw [if_pos rfl]) ?_
      refine Ev.bind (f := fun k (t250 : Int) => ((omnibusref10_Correct.f k a x p l).bind fun t252 => (if t250 = t252 then (omnibuslaw10_ClockTells.l1 k a b true l drops (drops.length : Int) ((i + 1 : Nat) : Int)) else (some false)))) q1 ?_
      refine Ev.bind (f := fun k (t252 : Int) => (if q = t252 then (omnibuslaw10_ClockTells.l1 k a b true l drops (drops.length : Int) ((i + 1 : Nat) : Int)) else (some false))) q2 ?_
      exact Ev.congr (fun k => by rw [if_pos rfl]) ih
theorem tells_l0 (a b c : Int) (l : List Int) (ys : List S24) (hn : l.length ≤ 80) (hy : ys.length ≤ 9) (hb : -9223372036854775808 ≤ b ∧ b ≤ 9223372036854775807) (hc : -9223372036854775808 ≤ c ∧ c ≤ 9223372036854775807) : ∀ (d i : Nat), i + d = ys.length →
    Ev (fun k => omnibuslaw10_ClockTells.l0 k a b c true l ys (ys.length : Int) (i : Int)) true
  | 0, i, hd' => by
    refine Ev.step (f := fun k => omnibuslaw10_ClockTells.l1 k a b true l [c, pk c 9] (([c, pk c 9] : List Int).length : Int) ((0 : Nat) : Int)) (fun k => ?_) (tells_l1 a b l [c, pk c 9] hn (by simp) hb 2 0 rfl)
    simp only [omnibuslaw10_ClockTells.l0]
    rw [if_neg (by omega), pick_eq c 9 hc (by omega)]
    simp only [Option.bind_some]
    rfl
  | d + 1, i, hd' => by
    have hw : wrap64 ((i : Int) + 1) = ((i + 1 : Nat) : Int) := by rw [w64 (by omega) (by omega)]; rfl
    generalize hx : rd_T24 ys (i : Int) = x
    obtain ⟨p, p1, p2⟩ := Elapsed_same x.f0 x.f1
    obtain ⟨q, q1, q2⟩ := Macro_same x.f0 x.f1
    refine Ev.step (fun k => ?_) (tells_l0 a b c l ys hn hy hb hc d (i + 1) (by omega))
    simp only [omnibuslaw10_ClockTells.l0]
    rw [if_pos (by omega), if_pos (by omega), if_pos (by omega), hx, hw, p1, p2, q1, q2]
    simp only [Option.bind_some, if_true]
theorem ClockTells : omnibuslaw10_ClockTells.Pure := by
  intro a b c l hwa hwb hwc hm hl hx
  have wa := wf_i64 hwa
  have wb := wf_i64 hwb
  have wc := wf_i64 hwc
  suffices h : Ev (fun k => omnibuslaw10_ClockTells.f k a b c l) true from h.rounds
  have e0 : mn (l.length : Int) 80 = ((min l.length 80 : Nat) : Int) := by
    unfold mn
    split <;> omega
  have hn : (l.take (min l.length 80)).length ≤ 80 := by
    rw [List.length_take]
    omega
  obtain ⟨ys, hys⟩ : ∃ ys : List S24, ys = [(⟨a, b⟩ : S24), (⟨pk a 1099511627776, wrap64 (pk b 2001 - 1000)⟩ : S24), (⟨a, wrap64 (1 + pk b 1048576)⟩ : S24), (⟨wrap64 (pk a 2199023255552 - 1099511627776), wrap64 (1 + pk b 100)⟩ : S24)] := ⟨_, rfl⟩
  have hyl : ys.length = 4 := by rw [hys]; rfl
  have h := tells_l0 a b c (l.take (min l.length 80)) ys hn (by omega) wb wc 4 0 (by omega)
  unfold omnibuslaw10_ClockTells.f
  refine Ev.bind (f := fun k (t214 : Bool) => (if 0 ≤ (mn (l.length : Int) 80) then (if (mn (l.length : Int) 80) ≤ (l.length : Int) then ((omnibuslaw10_pick.f a 1099511627776).bind fun t216 => ((omnibuslaw10_pick.f b 2001).bind fun t217 => ((omnibuslaw10_pick.f b 1048576).bind fun t218 => ((omnibuslaw10_pick.f a 2199023255552).bind fun t219 => ((omnibuslaw10_pick.f b 100).bind fun t220 => ((some (([(⟨a, b⟩ : S24), (⟨t216, wrap64 (t217 - 1000)⟩ : S24), (⟨a, wrap64 (1 + t218)⟩ : S24), (⟨wrap64 (t219 - 1099511627776), wrap64 (1 + t220)⟩ : S24)] : List (S24)) : List (S24))).bind fun y221 => (omnibuslaw10_ClockTells.l0 k a b c t214 (l.take ((mn (l.length : Int) 80) : Int).toNat) y221 (y221.length : Int) 0))))))) else (none)) else (none))) awake_ev ?_
  refine Ev.congr (fun k => ?_) h
  rw [e0, if_pos (by omega), if_pos (by omega), pick_eq a _ wa (by omega), pick_eq b _ wb (by omega), pick_eq b _ wb (by omega), pick_eq a _ wa (by omega), pick_eq b _ wb (by omega)]
  simp only [Option.bind_some]
  rw [← hys, Int.toNat_natCast]
  rfl
end Go.Proofs.Ytbcbkokpbobngaa.Pure
