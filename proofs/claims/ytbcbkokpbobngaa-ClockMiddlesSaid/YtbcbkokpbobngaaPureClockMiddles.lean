/- The law ClockMiddles (Middle is not below the least one and not above the greatest one of the right devs, if at most drop are wrong; it does not hang on the order) as a statement on numbers and lists alone; no conditions. -/
import Derived.Test.YtbcbkokpbobngaaPAx5
import Derived.Test.YtbcbkokpbobngaaClkB
namespace Go.Proofs.Ytbcbkokpbobngaa.Pure
open Go.RowKit Go.Proofs.Ytbcbkokpbobngaa.PA Go.Proofs.YtbcbkokpbobngaaW.PrintWords Go.Proofs.YtbcbkokpbobngaaW.PrintLast Go.Proofs.YtbcbkokpbobngaaW.PrintMore
theorem mid_perm (k : Nat) {l l' : List Int} (h : l'.Perm l) : mid k l' = mid k l := by
  unfold mid
  rw [srt_eq (srt_is l') (srt_is l) h, h.length_eq]
/-- The stage's theorem on lists. -/
theorem mid_between (k : Nat) (a b : List Int) (hb : b.length ≤ k) (hlt : 2 * k < (a ++ b).length) : lo a ≤ mid k (a ++ b) ∧ mid k (a ++ b) ≤ hi a := by
  have hla : (a ++ b).length = a.length + b.length := List.length_append
  have hs := srt_is (a ++ b)
  have h1 : lo a ≤ (srt (a ++ b)).getD k 0 := by
    refine kth_ge hs (by omega) ?_
    rw [cnt_append, cnt_zero (fun x hx => by have := lo_le hx; omega)]
    have := cnt_le_length (lo a - 1) b
    omega
  have h2 : (srt (a ++ b)).getD ((a ++ b).length - 1 - k) 0 ≤ hi a := by
    refine kth_le hs (by omega) ?_
    rw [cnt_append, cnt_all (fun x hx => le_hi hx)]
    omega
  have h3 := srt_mono hs (i := k) (j := (a ++ b).length - 1 - k) (by omega) (by omega)
  unfold mid
  omega
theorem middles_l0 (a : List Int) (m : Int) (hn : a.length ≤ 1000000) (hm : lo a ≤ m ∧ m ≤ hi a) : ∀ (d i : Nat) (x y : Int), i + d = a.length →
    (a.drop i).foldl (fun x y => if y < x then y else x) x = lo a → (a.drop i).foldl (fun x y => if x < y then y else x) y = hi a →
    Ev (fun k => omnibuslaw10_ClockMiddles.l0 k true a m x y (i : Int)) true
  | 0, i, x, y, hd, hx, hy => by
    rw [List.drop_of_length_le (by omega)] at hx hy
    simp only [List.foldl_nil] at hx hy
    refine Ev.step (f := fun k => (clock_Spread.f k a).bind fun t218 => (some ((wrap64 (y - x)) == t218))) (fun k => ?_) ?_
    · simp only [omnibuslaw10_ClockMiddles.l0]
      rw [if_neg (by omega), if_pos trivial, if_pos (by omega), if_pos (by omega)]
    · refine Ev.bind (f := fun _ t218 => (some ((wrap64 (y - x)) == t218))) (Spread_ev a (by omega)) ?_
      rw [hx, hy]
      exact Ev.congr (fun _ => by simp) (Ev.now true)
  | d + 1, i, x, y, hd, hx, hy => by
    have hlt : i < a.length := by omega
    have e : rd a (i : Int) = a[i] := by
      show a.getD i 0 = _
      rw [List.getD_eq_getElem?_getD, List.getElem?_eq_getElem hlt]
      rfl
    rw [List.drop_eq_getElem_cons hlt, List.foldl_cons] at hx hy
    refine Ev.step (fun k => ?_) (middles_l0 a m hn hm d (i + 1) _ _ (by omega) hx hy)
    simp only [omnibuslaw10_ClockMiddles.l0]
    rw [if_pos (by omega), if_pos (by omega), w64 (by omega) (by omega), e]
    rfl
theorem middles_j0 (a : List Int) (m : Int) (hn : a.length ≤ 1000000) (h0 : a ≠ []) (hm : lo a ≤ m ∧ m ≤ hi a) : Ev (fun k => omnibuslaw10_ClockMiddles.j0 k true a m ((a.length : Int) == 0)) true := by
  cases a with
  | nil => exact absurd rfl h0
  | cons z t =>
    refine Ev.step (fun k => ?_) (middles_l0 (z :: t) m hn hm (z :: t).length 0 z z (by omega) ?_ ?_)
    · simp only [omnibuslaw10_ClockMiddles.j0]
      rw [if_neg (by simp; omega), if_pos (by simp)]
      rfl
    · simp [lo]
    · simp [hi]
theorem ClockMiddles : omnibuslaw10_ClockMiddles.Pure := by
  intro a0 l1 l2 a3 h0 _ s1 r1 _ s2 r2 h3
  have w0 := wf_i64 h0
  have w3 := wf_i64 h3
  have rk := pk_range a0 8 (by omega)
  obtain ⟨k, hk⟩ : ∃ k : Nat, pk a0 8 = (k : Int) := ⟨(pk a0 8).toNat, by omega⟩
  obtain ⟨a, ha⟩ : ∃ a, dvs l1 20 1000 = a := ⟨_, rfl⟩
  obtain ⟨b, hb⟩ : ∃ b, dvs l2 k 1073741824 = b := ⟨_, rfl⟩
  have la : a.length ≤ 20 := by rw [← ha, dvs_length]; omega
  have lb : b.length ≤ k := by rw [← hb, dvs_length]; omega
  have hr : ∀ x ∈ a ++ b, -1073741824 ≤ x ∧ x ≤ 1073741824 := by
    intro x hx
    rcases List.mem_append.1 hx with hx | hx
    · rw [← ha] at hx
      have := dvs_range (by omega) hx
      omega
    · rw [← hb] at hx
      have := dvs_range (by omega) hx
      omega
  have hlen : (a ++ b).length = a.length + b.length := List.length_append
  obtain ⟨K1, e1⟩ := awake_ev
  obtain ⟨K2, e2⟩ := devs_ev l1 20 1000 r1 s1 (by omega) (by omega)
  obtain ⟨K3, e3⟩ := devs_ev l2 k 1073741824 r2 s2 (by omega) (by omega)
  rw [ha] at e2
  rw [hb] at e3
  by_cases hs : (a ++ b).length ≤ 2 * k
  · obtain ⟨K4, e4⟩ := Middle_short k (a ++ b) (by omega) hr hs
    refine ⟨K1 + K2 + K3 + K4, ?_⟩
    dsimp only at e1 e2 e3 e4
    unfold omnibuslaw10_ClockMiddles.f
    rw [e1 _ (by omega), pick_eq a0 _ w0 (by omega), hk]
    simp only [Option.bind_some]
    rw [show ((20 : Int)) = ((20 : Nat) : Int) from rfl, e2 _ (by omega), Option.bind_some, e3 _ (by omega), Option.bind_some]
    rw [if_pos (by rw [w64 (by omega) (by omega), w64 (by omega) (by omega)]; omega), if_pos (by simp only [List.length_nil]; omega)]
    rw [List.nil_append, if_pos (by omega), e4 _ (by omega)]
    rfl
  · have hlt : 2 * k < (a ++ b).length := by omega
    obtain ⟨K4, e4⟩ := Middle_ev k (a ++ b) (by omega) hr (by omega) hlt
    have rn := pk_range a3 ((a ++ b).length + 1) (by omega)
    obtain ⟨n, hn⟩ : ∃ n : Nat, pk a3 ((a ++ b).length + 1) = (n : Int) := ⟨(pk a3 ((a ++ b).length + 1)).toNat, by omega⟩
    have hp : ((a ++ b).drop n ++ (a ++ b).take n).Perm (a ++ b) := by
      refine List.perm_append_comm.trans ?_
      rw [List.take_append_drop]
    have hpl := hp.length_eq
    have hdl : ((a ++ b).drop n).length + ((a ++ b).take n).length = (a ++ b).length := by rw [← hpl, List.length_append]
    obtain ⟨K5, e5⟩ := Middle_ev k ((a ++ b).drop n ++ (a ++ b).take n) (by omega) (fun x hx => hr x (hp.mem_iff.1 hx)) (by omega) (by omega)
    rw [mid_perm k hp] at e5
    have hne : a ≠ [] := by
      intro e
      have : a.length = 0 := by rw [e]; rfl
      omega
    obtain ⟨K6, e6⟩ := middles_j0 a (mid k (a ++ b)) (by omega) hne (mid_between k a b lb hlt)
    refine ⟨K1 + K2 + K3 + K4 + K5 + K6, ?_⟩
    dsimp only at e1 e2 e3 e4 e5 e6
    unfold omnibuslaw10_ClockMiddles.f
    rw [e1 _ (by omega), pick_eq a0 _ w0 (by omega), hk]
    simp only [Option.bind_some]
    rw [show ((20 : Int)) = ((20 : Nat) : Int) from rfl, e2 _ (by omega), Option.bind_some, e3 _ (by omega), Option.bind_some]
    rw [if_neg (by rw [w64 (by omega) (by omega), w64 (by omega) (by omega)]; omega), if_pos (by simp only [List.length_nil]; omega)]
    rw [List.nil_append, if_pos (by omega), w64 (x := ((a ++ b).length : Int) + 1) (by omega) (by omega), pick_eq a3 _ w3 (by omega), hn]
    simp only [Option.bind_some]
    rw [e4 _ (by omega)]
    simp only [Option.bind_some]
    rw [if_pos (by omega), if_pos (by omega), Int.toNat_natCast, if_pos (by simp only [List.length_nil]; omega), List.nil_append, if_pos (by omega), e5 _ (by omega)]
    simp only [Option.bind_some, if_true]
    exact e6 _ (by omega)
end Go.Proofs.Ytbcbkokpbobngaa.Pure
