/- The law ClockTicks (a clock that does not drift counts what there is; of a time the great tick and what is left over come to it) as a statement on numbers alone; no conditions. -/
import Derived.Test.YtbcbkokpbobngaaPAx3
import Derived.Test.YtbcbkokpbobngaaClkB
namespace Go.Proofs.Ytbcbkokpbobngaa.Pure
open Go.RowKit Go.Proofs.Ytbcbkokpbobngaa.PA Go.Proofs.YtbcbkokpbobngaaW.PrintWords Go.Proofs.YtbcbkokpbobngaaW.PrintLast Go.Proofs.YtbcbkokpbobngaaW.PrintMore
theorem ClockTicks : omnibuslaw10_ClockTicks.Pure := by
  intro a0 a1 a2 a3 h0 h1 h2 h3
  have w0 := wf_i64 h0
  have w1 := wf_i64 h1
  have w2 := wf_i64 h2
  have w3 := wf_i64 h3
  obtain ⟨K, hK⟩ := awake_ev.rounds
  refine ⟨K, ?_⟩
  have rt := pk_range a0 549755813888 (by omega)
  have rm := pk_range a1 549755813888 (by omega)
  have rd := pk_range a2 2001 (by omega)
  have rs := pk_range a3 1048576 (by omega)
  unfold omnibuslaw10_ClockTicks.f
  rw [hK, pick_eq a0 _ w0 (by omega), pick_eq a1 _ w1 (by omega), pick_eq a2 _ w2 (by omega), pick_eq a3 _ w3 (by omega)]
  simp only [Option.bind_some, if_true]
  generalize pk a0 549755813888 = t at *
  generalize pk a1 549755813888 = m at *
  generalize pk a2 2001 = d0 at *
  generalize pk a3 1048576 = s0 at *
  obtain ⟨d, hd⟩ : ∃ d, d0 - 1000 = d := ⟨_, rfl⟩
  obtain ⟨s, hs⟩ : ∃ s, 1 + s0 = s := ⟨_, rfl⟩
  obtain ⟨x, hx⟩ : ∃ x, t - 274877906944 = x := ⟨_, rfl⟩
  rw [w64 (x := d0 - 1000) (by omega) (by omega), w64 (x := t + m) (by omega) (by omega), w64 (x := 1 + s0) (by omega) (by omega), w64 (x := t - 274877906944) (by omega) (by omega), hd, hs, hx]
  obtain ⟨e1, b1, b2⟩ := Elapsed_eq t d (by omega) (by omega)
  obtain ⟨e2, b3, b4⟩ := Elapsed_eq (t + m) d (by omega) (by omega)
  obtain ⟨e3, _, _⟩ := Elapsed_eq t 0 (by omega) (by omega)
  rw [e1, e2, e3, Macro_eq x s (by omega) (by omega)]
  simp only [Option.bind_some, if_true]
  have hq : -1000 * m ≤ m * d := by
    have a := Int.mul_le_mul_of_nonneg_left (show -1000 ≤ d by omega) (show 0 ≤ m by omega)
    omega
  have hp : -1000 * t ≤ t * d ∧ t * d ≤ 1000 * t := by
    have a := Int.mul_le_mul_of_nonneg_left (show -1000 ≤ d by omega) (show 0 ≤ t by omega)
    have b := Int.mul_le_mul_of_nonneg_left (show d ≤ 1000 by omega) (show 0 ≤ t by omega)
    omega
  rw [Int.add_mul] at b3 b4 ⊢
  generalize t * d = P at *
  generalize m * d = Q at *
  have hr0 := Int.emod_nonneg x (show s ≠ 0 by omega)
  have hr1 := Int.emod_lt_of_pos x (show 0 < s by omega)
  have hr2 := Int.mul_ediv_add_emod x s
  rw [Int.mul_comm] at hr2
  generalize x / s = n at *
  generalize x % s = r at *
  generalize n * s = ns at *
  have hmx : mx (wrap64 (t + P / 1000000 - t)) (wrap64 (t - (t + P / 1000000))) = (if P / 1000000 < -(P / 1000000) then -(P / 1000000) else P / 1000000) := by
    rw [w64 (by omega) (by omega), w64 (by omega) (by omega)]
    unfold mx
    have e4 : t + P / 1000000 - t = P / 1000000 := by omega
    have e5 : t - (t + P / 1000000) = -(P / 1000000) := by omega
    rw [e4, e5]
  rw [hmx]
  have hb : 1000 * (if P / 1000000 < -(P / 1000000) then -(P / 1000000) else P / 1000000) ≤ t + 1000 ∧ 0 ≤ (if P / 1000000 < -(P / 1000000) then -(P / 1000000) else P / 1000000) := by
    split <;> omega
  generalize (if P / 1000000 < -(P / 1000000) then -(P / 1000000) else P / 1000000) = z at *
  rw [if_pos (by omega), if_pos (by omega), w64 (x := 1000 * z) (by omega) (by omega), w64 (x := t + 1000) (by omega) (by omega), if_pos hb.1]
  rw [w64 (x := ns) (by omega) (by omega), w64 (x := ns + r) (by omega) (by omega), if_pos hr2, if_pos (by omega)]
  simp only [hr1, decide_true]
end Go.Proofs.Ytbcbkokpbobngaa.Pure
