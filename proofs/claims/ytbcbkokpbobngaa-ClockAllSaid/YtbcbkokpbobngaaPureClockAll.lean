/- The law ClockAll (where all nodes see all clocks as they are, and go by the middle of all, all come to one time) as a statement on numbers and lists alone; no conditions. -/
import Derived.Test.YtbcbkokpbobngaaPAx7
import Derived.Test.YtbcbkokpbobngaaClkC
namespace Go.Proofs.Ytbcbkokpbobngaa.Pure
open Go.RowKit Go.Proofs.Ytbcbkokpbobngaa.PA Go.Proofs.YtbcbkokpbobngaaW.PrintWords Go.Proofs.YtbcbkokpbobngaaW.PrintLast Go.Proofs.YtbcbkokpbobngaaW.PrintMore
theorem all_l1_end (l : List Int) (k i : Nat) (hk : k ≤ 7) (hl : ∀ x ∈ l, -1000 ≤ x ∧ x ≤ 1000) (hn : l.length ≤ 16) (hlt : 2 * k < l.length) (hi : i < l.length)
    (hc : Ev (fun n => omnibuslaw10_ClockAll.l0 n true l (k : Int) ((i : Int) + 1)) true) :
    Ev (fun n => omnibuslaw10_ClockAll.l1 n true l (k : Int) (i : Int) (l.map (· + -l[i])) (l.length : Int)) true := by
  have hx := hl _ (List.getElem_mem hi)
  have r1 : ∀ x ∈ l, -1073741824 ≤ x ∧ x ≤ 1073741824 := fun x hx => by have := hl x hx; omega
  have r2 : ∀ x ∈ l.map (· + -l[i]), -1073741824 ≤ x ∧ x ≤ 1073741824 := fun x hx => by
    obtain ⟨y, hy, rfl⟩ := List.mem_map.1 hx
    have := hl y hy
    omega
  have n2 : (l.map (· + -l[i])).length = l.length := List.length_map _
  have hm := mid_range k l 1000 hl hlt
  obtain ⟨K1, e1⟩ := Middle_ev k l hk r1 (by omega) hlt
  obtain ⟨K2, e2⟩ := Correct_ev l[i] k 3000 (l.map (· + -l[i])) (by omega) hk r2 (by omega) (by omega)
  obtain ⟨K3, e3⟩ := hc
  dsimp only at e1 e2 e3
  rw [mid_map_add k l _ hlt, if_neg (by omega), if_neg (by omega), w64 (by omega) (by omega), show l[i] + (mid k l + -l[i]) = mid k l by omega] at e2
  refine ⟨K1 + K2 + K3 + 1, fun n hn' => ?_⟩
  obtain ⟨n, rfl⟩ : ∃ m, n = m + 1 := ⟨n - 1, by omega⟩
  simp only [omnibuslaw10_ClockAll.l1]
  rw [if_neg (by omega), e1 n (by omega), Option.bind_some, if_pos rfl, if_pos (by omega), if_pos (by omega), rd_nat l i hi, e2 n (by omega), Option.bind_some, if_pos rfl, w64 (by omega) (by omega)]
  exact e3 n (by omega)
theorem all_l1 (l : List Int) (k i : Nat) (hk : k ≤ 7) (hl : ∀ x ∈ l, -1000 ≤ x ∧ x ≤ 1000) (hn : l.length ≤ 16) (hlt : 2 * k < l.length) (hi : i < l.length)
    (hc : Ev (fun n => omnibuslaw10_ClockAll.l0 n true l (k : Int) ((i : Int) + 1)) true) :
    ∀ (d j : Nat), j + d = l.length → Ev (fun n => omnibuslaw10_ClockAll.l1 n true l (k : Int) (i : Int) ((l.take j).map (· + -l[i])) (j : Int)) true
  | 0, j, hd => by
    obtain rfl : j = l.length := by omega
    rw [List.take_of_length_le (Nat.le_refl _)]
    exact all_l1_end l k i hk hl hn hlt hi hc
  | d + 1, j, hd => by
    have hj : j < l.length := by omega
    have hx := hl _ (List.getElem_mem hi)
    have hy := hl _ (List.getElem_mem hj)
    have n1 : ((l.take j).map (· + -l[i])).length = j := by rw [List.length_map, List.length_take]; omega
    refine Ev.step (fun n => ?_) (all_l1 l k i hk hl hn hlt hi hc d (j + 1) (by omega))
    have e2 : (l.take (j + 1)).map (· + -l[i]) = (l.take j).map (· + -l[i]) ++ [l[j] + -l[i]] := by
      rw [List.take_succ_eq_append_getElem hj, List.map_append]
      rfl
    simp only [omnibuslaw10_ClockAll.l1]
    rw [if_pos (by omega), if_pos (by omega), if_pos (by omega), if_pos (by omega), if_pos (by omega), rd_nat l i hi, rd_nat l j hj, w64 (x := l[j] - l[i]) (by omega) (by omega), w64 (x := (j : Int) + 1) (by omega) (by omega), e2, Int.sub_eq_add_neg]
    rfl
theorem all_l0 (l : List Int) (k : Nat) (hk : k ≤ 7) (hl : ∀ x ∈ l, -1000 ≤ x ∧ x ≤ 1000) (hn : l.length ≤ 16) (hlt : 2 * k < l.length) :
    ∀ (d i : Nat), i + d = l.length → Ev (fun n => omnibuslaw10_ClockAll.l0 n true l (k : Int) (i : Int)) true
  | 0, i, hd => by
    refine Ev.step (f := fun _ => some true) (fun n => ?_) (Ev.now true)
    simp only [omnibuslaw10_ClockAll.l0]
    rw [if_neg (by omega)]
  | d + 1, i, hd => by
    have h := all_l1 l k i hk hl hn hlt (by omega) (all_l0 l k hk hl hn hlt d (i + 1) (by omega)) l.length 0 (by omega)
    refine Ev.step (fun n => ?_) h
    simp only [omnibuslaw10_ClockAll.l0]
    rw [if_pos (by omega)]
    rfl
theorem ClockAll : omnibuslaw10_ClockAll.Pure := by
  intro l0 a1 _ s0 r0 h1
  have w1 := wf_i64 h1
  have rk := pk_range a1 6 (by omega)
  obtain ⟨k, hk⟩ : ∃ k : Nat, pk a1 6 = (k : Int) := ⟨(pk a1 6).toNat, by omega⟩
  obtain ⟨l, hl⟩ : ∃ l, dvs l0 16 1000 = l := ⟨_, rfl⟩
  have ln : l.length ≤ 16 := by rw [← hl, dvs_length]; omega
  have lr : ∀ x ∈ l, -1000 ≤ x ∧ x ≤ 1000 := fun x hx => by rw [← hl] at hx; exact dvs_range (by omega) hx
  obtain ⟨K1, e1⟩ := awake_ev
  obtain ⟨K2, e2⟩ := devs_ev l0 16 1000 r0 s0 (by omega) (by omega)
  rw [hl] at e2
  dsimp only at e1 e2
  by_cases hs : l.length ≤ 2 * k
  · refine ⟨K1 + K2, ?_⟩
    unfold omnibuslaw10_ClockAll.f
    rw [e1 _ (by omega), Option.bind_some, show ((16 : Int)) = ((16 : Nat) : Int) from rfl, e2 _ (by omega), Option.bind_some, pick_eq a1 _ w1 (by omega), hk, Option.bind_some, if_pos (by rw [w64 (by omega) (by omega)]; omega)]
  · obtain ⟨K3, e3⟩ := all_l0 l k (by omega) lr ln (by omega) l.length 0 (by omega)
    dsimp only at e3
    refine ⟨K1 + K2 + K3, ?_⟩
    unfold omnibuslaw10_ClockAll.f
    rw [e1 _ (by omega), Option.bind_some, show ((16 : Int)) = ((16 : Nat) : Int) from rfl, e2 _ (by omega), Option.bind_some, pick_eq a1 _ w1 (by omega), hk, Option.bind_some, if_neg (by rw [w64 (by omega) (by omega)]; omega)]
    exact e3 _ (by omega)
end Go.Proofs.Ytbcbkokpbobngaa.Pure
