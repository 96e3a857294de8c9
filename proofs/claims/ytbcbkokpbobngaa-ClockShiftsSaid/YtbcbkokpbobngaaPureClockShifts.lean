/- The law ClockShifts (all devs, so much more, have a Middle so much more, and as great a spread; each a little more it is no less) as a statement on numbers and lists alone; no conditions. -/
import Derived.Test.YtbcbkokpbobngaaPAx6
import Derived.Test.YtbcbkokpbobngaaClkC
namespace Go.Proofs.Ytbcbkokpbobngaa.Pure
open Go.RowKit Go.Proofs.Ytbcbkokpbobngaa.PA Go.Proofs.YtbcbkokpbobngaaW.PrintWords Go.Proofs.YtbcbkokpbobngaaW.PrintLast Go.Proofs.YtbcbkokpbobngaaW.PrintMore
def grow (l more : List Int) (i : Nat) : Int := l.getD i 0 + (if i < more.length then pk (more.getD i 0) 1000 else 0)
def grown (l more : List Int) (n : Nat) : List Int := (List.range n).map (grow l more)
theorem grown_succ (l more : List Int) (n : Nat) : grown l more (n + 1) = grown l more n ++ [grow l more n] := by
  unfold grown
  rw [List.range_succ, List.map_append]
  rfl
theorem grown_getD (l more : List Int) (n i : Nat) (h : i < n) : (grown l more n).getD i 0 = grow l more i := by
  unfold grown
  rw [List.getD_eq_getElem?_getD, List.getElem?_map, List.getElem?_range h]
  rfl
theorem shifts_end (l more : List Int) (k : Nat) (b : Int) (hk : k ≤ 7) (hl : ∀ x ∈ l, -1000000 ≤ x ∧ x ≤ 1000000) (hn : l.length ≤ 30) (hb : -1000000 ≤ b ∧ b ≤ 1000000) :
    Ev (fun n => (clock_Middle.f n (k : Int) l).bind fun bt264 => ((clock_Middle.f n (k : Int) (l.map (· + b))).bind fun bt266 => ((clock_Middle.f n (k : Int) (grown l more l.length)).bind fun bt268 => (if (l.length : Int) ≤ (wrap64 (2 * (k : Int))) then (if true = true then (if bt264.2 = 3 then (if bt266.2 = 3 then (some (bt268.2 == 3)) else (some false)) else (some false)) else (some false)) else (if true = true then (if bt264.2 = 0 then (if bt266.2 = 0 then (if bt268.2 = 0 then (if bt266.1 = (wrap64 (bt264.1 + b)) then (if bt268.1 ≥ bt264.1 then ((clock_Spread.f n (l.map (· + b))).bind fun t270 => ((clock_Spread.f n l).bind fun t271 => (some (t270 == t271)))) else (some false)) else (some false)) else (some false)) else (some false)) else (some false)) else (some false)))))) true := by
  have r1 : ∀ x ∈ l, -1073741824 ≤ x ∧ x ≤ 1073741824 := fun x hx => by have := hl x hx; omega
  have r2 : ∀ x ∈ l.map (· + b), -1073741824 ≤ x ∧ x ≤ 1073741824 := fun x hx => by
    obtain ⟨y, hy, rfl⟩ := List.mem_map.1 hx
    have := hl y hy
    omega
  have hg0 : ∀ i, i < l.length → l.getD i 0 ≤ grow l more i ∧ grow l more i ≤ l.getD i 0 + 1000 := fun i _ => by
    have := pk_range (more.getD i 0) 1000 (by omega)
    unfold grow
    split <;> omega
  have r3 : ∀ x ∈ grown l more l.length, -1073741824 ≤ x ∧ x ≤ 1073741824 := fun x hx => by
    obtain ⟨i, hi, rfl⟩ := List.mem_map.1 hx
    have hi' := List.mem_range.1 hi
    have h1 := hg0 i hi'
    have h2 : l.getD i 0 ∈ l := by
      rw [List.getD_eq_getElem?_getD, List.getElem?_eq_getElem hi']
      exact List.getElem_mem hi'
    have := hl _ h2
    omega
  have n2 : (l.map (· + b)).length = l.length := List.length_map _
  have n3 : (grown l more l.length).length = l.length := by unfold grown; rw [List.length_map, List.length_range]
  have ew : wrap64 (2 * (k : Int)) = 2 * (k : Int) := w64 (by omega) (by omega)
  by_cases hs : l.length ≤ 2 * k
  · obtain ⟨K1, e1⟩ := Middle_short k l hk r1 hs
    obtain ⟨K2, e2⟩ := Middle_short k (l.map (· + b)) hk r2 (by omega)
    obtain ⟨K3, e3⟩ := Middle_short k (grown l more l.length) hk r3 (by omega)
    dsimp only at e1 e2 e3
    refine ⟨K1 + K2 + K3, fun n hn => ?_⟩
    dsimp only
    rw [e1 n (by omega), Option.bind_some, e2 n (by omega), Option.bind_some, e3 n (by omega), Option.bind_some]
    rw [if_pos (by rw [ew]; omega)]
    simp
  · obtain ⟨K1, e1⟩ := Middle_ev k l hk r1 (by omega) (by omega)
    obtain ⟨K2, e2⟩ := Middle_ev k (l.map (· + b)) hk r2 (by omega) (by omega)
    obtain ⟨K3, e3⟩ := Middle_ev k (grown l more l.length) hk r3 (by omega) (by omega)
    obtain ⟨K4, e4⟩ := Spread_ev (l.map (· + b)) (by omega)
    obtain ⟨K5, e5⟩ := Spread_ev l (by omega)
    have hne : l ≠ [] := by
      intro e
      have : l.length = 0 := by rw [e]; rfl
      omega
    have hm := mid_range k l 1000000 hl (by omega)
    have hgr : mid k l ≤ mid k (grown l more l.length) := mid_grown k l _ (by omega) n3.symm (fun i hi => by rw [grown_getD l more _ i hi]; exact (hg0 i hi).1)
    rw [mid_map_add k l b (by omega)] at e2
    rw [lo_map_add l b hne, hi_map_add l b hne, show hi l + b - (lo l + b) = hi l - lo l by omega] at e4
    dsimp only at e1 e2 e3 e4 e5
    refine ⟨K1 + K2 + K3 + K4 + K5, fun n hn => ?_⟩
    dsimp only
    rw [e1 n (by omega), Option.bind_some, e2 n (by omega), Option.bind_some, e3 n (by omega), Option.bind_some]
    rw [if_neg (by rw [ew]; omega)]
    simp only [if_true]
    rw [if_pos (by rw [w64 (by omega) (by omega)]), if_pos hgr, e4 n (by omega), e5 n (by omega)]
    simp
theorem shifts_l0 (l more : List Int) (k : Nat) (b : Int) (hk : k ≤ 7) (hl : ∀ x ∈ l, -1000000 ≤ x ∧ x ≤ 1000000) (hn : l.length ≤ 30) (hb : -1000000 ≤ b ∧ b ≤ 1000000) (hm : ∀ x ∈ more, (Lit.int .i64 x).wf = true) :
    ∀ (d i : Nat), i + d = l.length → Ev (fun n => omnibuslaw10_ClockShifts.l0 n more true (k : Int) l b ((l.take i).map (· + b)) (grown l more i) (i : Int)) true
  | 0, i, hd => by
    obtain rfl : i = l.length := by omega
    refine Ev.step (fun n => ?_) (shifts_end l more k b hk hl hn hb)
    simp only [omnibuslaw10_ClockShifts.l0]
    rw [if_neg (by omega), List.take_of_length_le (Nat.le_refl _)]
  | d + 1, i, hd => by
    have hlt : i < l.length := by omega
    have hx := hl _ (List.getElem_mem hlt)
    have e := rd_nat l i hlt
    have n1 : ((l.take i).map (· + b)).length = i := by rw [List.length_map, List.length_take]; omega
    have n2 : (grown l more i).length = i := by unfold grown; rw [List.length_map, List.length_range]
    refine Ev.step (fun n => ?_) (shifts_l0 l more k b hk hl hn hb hm d (i + 1) (by omega))
    have e2 : (l.take (i + 1)).map (· + b) = (l.take i).map (· + b) ++ [l[i] + b] := by
      rw [List.take_succ_eq_append_getElem hlt, List.map_append]
      rfl
    have e3 : l.getD i 0 = l[i] := e
    simp only [omnibuslaw10_ClockShifts.l0]
    rw [if_pos (by omega), if_pos (by omega), if_pos (by omega), e, w64 (x := l[i] + b) (by omega) (by omega)]
    simp only [Option.bind_some]
    rw [e2, grown_succ, w64 (x := (i : Int) + 1) (by omega) (by omega)]
    by_cases hmore : i < more.length
    · have hw := wf_i64 (hm _ (List.getElem_mem hmore))
      have hp := pk_range more[i] 1000 (by omega)
      have em := rd_nat more i hmore
      have em2 : more.getD i 0 = more[i] := em
      rw [if_pos (by omega), em, pick_eq _ _ hw (by omega)]
      simp only [Option.bind_some]
      rw [if_pos (by omega), w64 (by omega) (by omega)]
      unfold grow
      rw [if_pos hmore, e3, em2]
      rfl
    · rw [if_neg (by omega), if_pos (by omega), w64 (by omega) (by omega)]
      unfold grow
      rw [if_neg hmore, e3]
      rfl
theorem ClockShifts : omnibuslaw10_ClockShifts.Pure := by
  intro a0 l1 a2 l3 h0 _ s1 r1 h2 _ _ r3
  have w0 := wf_i64 h0
  have w2 := wf_i64 h2
  have rk := pk_range a0 8 (by omega)
  have rb := pk_range a2 2000001 (by omega)
  obtain ⟨k, hk⟩ : ∃ k : Nat, pk a0 8 = (k : Int) := ⟨(pk a0 8).toNat, by omega⟩
  obtain ⟨l, hl⟩ : ∃ l, dvs l1 30 1000000 = l := ⟨_, rfl⟩
  have ln : l.length ≤ 30 := by rw [← hl, dvs_length]; omega
  have lr : ∀ x ∈ l, -1000000 ≤ x ∧ x ≤ 1000000 := fun x hx => by rw [← hl] at hx; exact dvs_range (by omega) hx
  obtain ⟨K1, e1⟩ := awake_ev
  obtain ⟨K2, e2⟩ := devs_ev l1 30 1000000 r1 s1 (by omega) (by omega)
  obtain ⟨K3, e3⟩ := shifts_l0 l l3 k (pk a2 2000001 - 1000000) (by omega) lr ln (by omega) r3 l.length 0 (by omega)
  rw [hl] at e2
  dsimp only at e1 e2 e3
  refine ⟨K1 + K2 + K3, ?_⟩
  unfold omnibuslaw10_ClockShifts.f
  rw [e1 _ (by omega), pick_eq a0 _ w0 (by omega), hk]
  simp only [Option.bind_some]
  rw [show ((30 : Int)) = ((30 : Nat) : Int) from rfl, e2 _ (by omega), Option.bind_some, pick_eq a2 _ w2 (by omega), Option.bind_some, w64 (by omega) (by omega)]
  exact e3 _ (by omega)
end Go.Proofs.Ytbcbkokpbobngaa.Pure
