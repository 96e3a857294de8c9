/- The law CliqueMost (who is heard by all is acknowledged, in any number of nodes; who is heard by nobody is not, but where it is alone; a node that there may not be never is) as a statement on numbers and lists alone; no conditions. -/
import Derived.Test.YtmbmpcjlddnpcaaPAx6
import Derived.Test.YtmbmpcjlddnpcaaClqB
set_option linter.unusedVariables false
set_option linter.unusedSimpArgs false
namespace Go.Proofs.Ytmbmpcjlddnpcaa.Pure
open Go.RowKit Go.Proofs.Ytmbmpcjlddnpcaa Go.Proofs.Ytmbmpcjlddnpcaa.PA Go.Proofs.YtmbmpcjlddnpcaaW.PrintWords Go.Proofs.YtmbmpcjlddnpcaaW.PrintLast

theorem most_end (a2 : Int) (n : Nat) (kk : Int) (hn : 2 ≤ n ∧ n ≤ 16) (hk : 0 ≤ kk ∧ kk < n) :
    Ev (fun k => omnibuslaw12_CliqueMost.l0 k a2 true (n : Int) kk (List.replicate (n - 1) 65535) (List.replicate n 0) ((n : Int) - 1)) true := by
  have hk16 : 0 ≤ kk ∧ kk < 16 := by omega
  have c1 : cntB (List.replicate (n - 1) 65535) kk = n - 1 := by rw [cntB_replicate, if_pos (hasB_all kk hk16)]
  have c2 : cntB (List.replicate n 0) kk = 0 := by rw [cntB_replicate, if_neg (by rw [hasB_zero kk hk16]; decide)]
  obtain ⟨K1, e1⟩ := Clear_ev kk n (List.replicate (n - 1) 65535) (by rw [List.length_replicate]; omega) hk16 (by omega)
  obtain ⟨K2, e2⟩ := Clear_ev kk n (List.replicate n 0) (by rw [List.length_replicate]; omega) hk16 (by omega)
  obtain ⟨K3, e3⟩ := Clear_ev kk 1 (List.replicate n 0) (by rw [List.length_replicate]; omega) hk16 (by omega)
  obtain ⟨K4, e4⟩ := Acked_ev kk (List.replicate (n - 1) 65535) (by rw [List.length_replicate]; omega)
  obtain ⟨K5, e5⟩ := Acked_ev kk (List.replicate n 0) (by rw [List.length_replicate]; omega)
  obtain ⟨K6, e6⟩ := Acked_ev a2 (List.replicate (n - 1) 65535) (by rw [List.length_replicate]; omega)
  refine ⟨K1 + K2 + K3 + K4 + K5 + K6 + 1, fun k hk' => ?_⟩
  obtain ⟨m, rfl⟩ : ∃ m, k = m + 1 := ⟨k - 1, by omega⟩
  have f1 := e1 m (by omega)
  have f2 := e2 m (by omega)
  have f3 := e3 m (by omega)
  have f4 := e4 m (by omega)
  have f5 := e5 m (by omega)
  have f6 := e6 m (by omega)
  dsimp only at f1 f2 f3 f4 f5 f6 ⊢
  rw [c1] at f1 f4
  rw [c2] at f2 f3 f5
  have w1 : wrap64 ((n : Int) - 1) = (n : Int) - 1 := w64 (by omega) (by omega)
  rw [omnibuslaw12_CliqueMost.l0, w1, if_neg (by omega), if_pos rfl, f1, Option.bind_some, if_pos (decide_eq_true (by omega)), f2, Option.bind_some, if_neg (by simp; omega), f3, Option.bind_some, if_pos (decide_eq_true (by omega)), f4, Option.bind_some, if_pos (by omega), f5, Option.bind_some, if_pos (by rfl)]
  by_cases h0 : a2 ≥ 0
  · rw [if_pos h0]
    by_cases h1 : a2 ≤ 15
    · rw [if_pos h1]
    · rw [if_neg h1, Clear_out _ _ _ _ (by omega), Option.bind_some, if_neg (by decide), f6, Option.bind_some, cntB_out _ _ (by omega)]
      rfl
  · rw [if_neg h0, Clear_out _ _ _ _ (by omega), Option.bind_some, if_neg (by decide), f6, Option.bind_some, cntB_out _ _ (by omega)]
    rfl
theorem most_loop (a2 : Int) (n : Nat) (kk : Int) (hn : 2 ≤ n ∧ n ≤ 16) (hk : 0 ≤ kk ∧ kk < n) : ∀ (m i : Nat), i + m = n - 1 →
    Ev (fun k => omnibuslaw12_CliqueMost.l0 k a2 true (n : Int) kk (List.replicate i 65535) (List.replicate n 0) (i : Int)) true
  | 0, i, h => by
    have hi : i = n - 1 := by omega
    subst hi
    have := most_end a2 n kk hn hk
    rwa [show ((n - 1 : Nat) : Int) = (n : Int) - 1 by omega]
  | m + 1, i, h => by
    have ih := most_loop a2 n kk hn hk m (i + 1) (by omega)
    have w1 : wrap64 ((n : Int) - 1) = (n : Int) - 1 := w64 (by omega) (by omega)
    refine Ev.step (fun k => ?_) ih
    rw [omnibuslaw12_CliqueMost.l0, w1, if_pos (by omega), List.length_replicate, if_pos (by omega), w64 (x := (i : Int) + 1) (by omega) (by omega), List.replicate_succ']
    rfl
theorem CliqueMost : omnibuslaw12_CliqueMost.Pure := by
  intro a0 a1 a2 w0 w1 w2
  have b0 := wf_i64 w0
  have b1 := wf_i64 w1
  have b2 := wf_i64 w2
  have r0 := pk_range a0 15 (by omega)
  obtain ⟨q, hq⟩ : ∃ q : Nat, pk a0 15 = (q : Int) := ⟨(pk a0 15).toNat, by omega⟩
  have wn : wrap64 (2 + pk a0 15) = ((q + 2 : Nat) : Int) := by
    rw [w64 (by omega) (by omega), hq]
    push_cast
    omega
  have r1 := pk_range a1 ((q + 2 : Nat) : Int) (by omega)
  obtain ⟨K1, e1⟩ := awake_ev
  obtain ⟨K2, e2⟩ := most_loop a2 (q + 2) (pk a1 ((q + 2 : Nat) : Int)) (by omega) r1 (q + 1) 0 (by omega)
  refine ⟨K1 + K2, ?_⟩
  have f1 := e1 (K1 + K2) (by omega)
  have f2 := e2 (K1 + K2) (by omega)
  dsimp only at f1 f2
  unfold omnibuslaw12_CliqueMost.f
  rw [f1, Option.bind_some, pick_eq a0 15 b0 (by omega), Option.bind_some, wn, pick_eq a1 _ b1 (by omega), Option.bind_some, if_pos (by omega), Int.toNat_natCast, if_pos (by omega)]
  exact f2

end Go.Proofs.Ytmbmpcjlddnpcaa.Pure
