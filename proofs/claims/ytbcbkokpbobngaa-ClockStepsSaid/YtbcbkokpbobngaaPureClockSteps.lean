/- The law ClockSteps (what is put right goes by most at the most, to where the middle is) as a statement on numbers and lists alone; no conditions. -/
import Derived.Test.YtbcbkokpbobngaaPSx4
import Derived.Test.YtbcbkokpbobngaaClkSB
namespace Go.Proofs.Ytbcbkokpbobngaa.Pure
open Go.RowKit Go.Proofs.Ytbcbkokpbobngaa.PS Go.Proofs.YtbcbkokpbobngaaW.PrintWords Go.Proofs.YtbcbkokpbobngaaW.PrintLast
theorem mid_bound (k : Nat) (l : List Int) (m : Int) (hl : ∀ x ∈ l, -m ≤ x ∧ x ≤ m) (hlt : 2 * k < l.length) : -m ≤ mid k l ∧ mid k l ≤ m := by
  have b1 := hl _ (srt_mem (srt_is l) (k := k) (by omega))
  have b2 := hl _ (srt_mem (srt_is l) (k := l.length - 1 - k) (by omega))
  unfold mid
  omega
theorem mid_zero : mid 0 [0, 0] = 0 := by
  have h : ∀ i, i < 2 → (srt [0, 0]).getD i 0 = 0 := by
    intro i hi
    have := srt_mem (srt_is [0, 0]) (k := i) hi
    simpa using this
  unfold mid
  rw [h 0 (by omega)]
  have h1 := h 1 (by omega)
  show (0 + (srt [0, 0]).getD 1 0) / 2 = 0
  rw [h1]
  rfl
/-- The law's last words, of numbers alone. -/
theorem steps_num (o b m c : Int) (ho : -549755813888 ≤ o ∧ o ≤ 549755813888) (hb : 0 ≤ b ∧ b < 500) (hm : -1000 ≤ m ∧ m ≤ 1000)
    (hc : c = wrap64 (o + (if b < (if m < -b then -b else m) then b else (if m < -b then -b else m)))) :
    wrap64 (c - o) ≤ b ∧ wrap64 (o - c) ≤ b ∧ ((m > b ∧ c = wrap64 (o + b)) ∨ (¬ m > b ∧ m < wrap64 (-b) ∧ c = wrap64 (o - b)) ∨ (¬ m > b ∧ ¬ m < wrap64 (-b) ∧ m ≥ wrap64 (-b) ∧ m ≤ b ∧ c = wrap64 (o + m))) := by
  have e : c = o + (if b < (if m < -b then -b else m) then b else (if m < -b then -b else m)) := by
    rw [hc]
    (repeat' split) <;> exact w64 (by omega) (by omega)
  rw [w64 (x := o + b) (by omega) (by omega), w64 (x := -b) (by omega) (by omega), w64 (x := o - b) (by omega) (by omega), w64 (x := o + m) (by omega) (by omega)]
  have hr : o - b ≤ c ∧ c ≤ o + b := by
    rw [e]
    (repeat' split) <;> omega
  rw [w64 (x := c - o) (by omega) (by omega), w64 (x := o - c) (by omega) (by omega)]
  refine ⟨by omega, by omega, ?_⟩
  by_cases h1 : m > b
  · refine .inl ⟨h1, ?_⟩
    rw [e, if_neg (show ¬ m < -b by omega), if_pos (by omega)]
  · by_cases h2 : m < -b
    · refine .inr (.inl ⟨h1, h2, ?_⟩)
      rw [e, if_pos h2, if_neg (by omega)]
      omega
    · refine .inr (.inr ⟨h1, h2, by omega, by omega, ?_⟩)
      rw [e, if_neg h2, if_neg (by omega)]
theorem ClockSteps : omnibuslaw10_ClockSteps.Pure := by
  intro a0 a1 a2 l3 h0 h1 h2 hm hl hx
  have w0 := wf_i64 h0
  have w1 := wf_i64 h1
  have w2 := wf_i64 h2
  have ro := pk_range a0 1099511627776 (by omega)
  have rk := pk_range a1 4 (by omega)
  have rb := pk_range a2 500 (by omega)
  obtain ⟨K1, e1⟩ := awake_ev
  obtain ⟨K2, e2⟩ := devs_ev l3 30 1000 hx hl (by omega) (by omega)
  obtain ⟨l, hl'⟩ : ∃ l, dvs l3 30 1000 = l := ⟨_, rfl⟩
  have hin : ∀ x ∈ l, -1000 ≤ x ∧ x ≤ 1000 := fun x hx => by rw [← hl'] at hx; exact dvs_range (by omega) hx
  have hin' : ∀ x ∈ l, -1073741824 ≤ x ∧ x ≤ 1073741824 := fun x hx => by have := hin x hx; omega
  have hn : l.length ≤ 30 := by rw [← hl', dvs_length]; omega
  rw [hl'] at e2
  obtain ⟨k, hk⟩ : ∃ k : Nat, pk a1 4 = (k : Int) := ⟨(pk a1 4).toNat, by omega⟩
  obtain ⟨o, ho⟩ : ∃ o, pk a0 1099511627776 - 549755813888 = o := ⟨_, rfl⟩
  have wo : wrap64 (pk a0 1099511627776 - 549755813888) = o := by rw [w64 (by omega) (by omega), ho]
  obtain ⟨b, hb⟩ : ∃ b, pk a2 500 = b := ⟨_, rfl⟩
  by_cases hs : l.length ≤ 2 * k
  · obtain ⟨K3, e3⟩ := Correct_short o k b l (by omega) hin' hs
    obtain ⟨K4, e4⟩ := Middle_short k l (by omega) hin' hs
    refine ⟨K1 + K2 + K3 + K4, ?_⟩
    have e1' := e1 (K1 + K2 + K3 + K4) (by omega)
    have e2' := e2 (K1 + K2 + K3 + K4) (by omega)
    have e3' := e3 (K1 + K2 + K3 + K4) (by omega)
    have e4' := e4 (K1 + K2 + K3 + K4) (by omega)
    dsimp only at e1' e2' e3' e4'
    rw [show ((30 : Nat) : Int) = 30 from rfl] at e2'
    unfold omnibuslaw10_ClockSteps.f
    rw [e1', Option.bind_some, pick_eq a0 _ w0 (by omega), Option.bind_some, pick_eq a1 _ w1 (by omega), Option.bind_some, pick_eq a2 _ w2 (by omega), Option.bind_some, e2', Option.bind_some, wo, hk, hb, e3', Option.bind_some, e4', Option.bind_some, if_neg (by decide), if_pos rfl, beq_self_eq_true]
  · have hmr := mid_bound k l 1000 hin (by omega)
    obtain ⟨K3, e3⟩ := Correct_ev o k b l (by omega) (by omega) hin' (by omega) (by omega)
    obtain ⟨K4, e4⟩ := Middle_ev k l (by omega) hin' (by omega) (by omega)
    obtain ⟨K5, e5⟩ := Correct_ev o 0 b [0, 0] (by omega) (by omega) (by simp) (by simp) (by simp)
    obtain ⟨K6, e6⟩ := Correct_below o k (wrap64 (-1 - b)) l (by rw [w64 (by omega) (by omega)]; omega) (by omega) hin' (by omega)
    have z5 : wrap64 (o + (if b < (if mid 0 [0, 0] < -b then -b else mid 0 [0, 0]) then b else (if mid 0 [0, 0] < -b then -b else mid 0 [0, 0]))) = o := by
      rw [mid_zero, if_neg (show ¬ (0 : Int) < -b by omega), if_neg (by omega), Int.add_zero, w64 (by omega) (by omega)]
    obtain ⟨c, hc⟩ : ∃ c, c = wrap64 (o + (if b < (if mid k l < -b then -b else mid k l) then b else (if mid k l < -b then -b else mid k l))) := ⟨_, rfl⟩
    obtain ⟨n1, n2, n3⟩ := steps_num o b (mid k l) c (by omega) (by omega) hmr hc
    obtain ⟨m, hm'⟩ : ∃ m, mid k l = m := ⟨_, rfl⟩
    refine ⟨K1 + K2 + K3 + K4 + K5 + K6, ?_⟩
    have e2' := e2 (K1 + K2 + K3 + K4 + K5 + K6) (by omega)
    have e3' := e3 (K1 + K2 + K3 + K4 + K5 + K6) (by omega)
    have e4' := e4 (K1 + K2 + K3 + K4 + K5 + K6) (by omega)
    have e5' := e5 (K1 + K2 + K3 + K4 + K5 + K6) (by omega)
    have e6' := e6 (K1 + K2 + K3 + K4 + K5 + K6) (by omega)
    have e1' := e1 (K1 + K2 + K3 + K4 + K5 + K6) (by omega)
    dsimp only at e1' e2' e3' e4' e5' e6'
    rw [show ((30 : Nat) : Int) = 30 from rfl] at e2'
    rw [show ((0 : Nat) : Int) = 0 from rfl, z5] at e5'
    rw [← hc] at e3'
    rw [hm'] at e4' n3
    unfold omnibuslaw10_ClockSteps.f
    rw [e1', Option.bind_some, pick_eq a0 _ w0 (by omega), Option.bind_some, pick_eq a1 _ w1 (by omega), Option.bind_some, pick_eq a2 _ w2 (by omega), Option.bind_some, e2', Option.bind_some, wo, hk, hb, e3', Option.bind_some, e4', Option.bind_some, if_pos rfl, if_pos rfl, if_pos n1, if_pos n2, e5', e6']
    simp only [Option.bind_some, if_true, beq_self_eq_true]
    rcases n3 with ⟨c1, c2⟩ | ⟨c1, c2, c3⟩ | ⟨c1, c2, c3, c4, c5⟩
    · rw [if_pos c1, if_pos c2]
    · rw [if_neg c1, if_pos c2, if_pos c3]
    · rw [if_neg c1, if_neg c2, if_pos c3, if_pos c4, if_pos c5]
end Go.Proofs.Ytbcbkokpbobngaa.Pure
