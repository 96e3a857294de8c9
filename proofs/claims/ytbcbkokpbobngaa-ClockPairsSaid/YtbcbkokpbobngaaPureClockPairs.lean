/- The law ClockPairs (two nodes that see the same right devs, more than twice drop of them, and drop wrong ones at most each, tell Middles that are apart by no more than half of how far the right ones are, rounded up) as a statement on numbers and lists alone; no conditions. -/
import Derived.Test.YtbcbkokpbobngaaPAx6
import Derived.Test.YtbcbkokpbobngaaClkB
namespace Go.Proofs.Ytbcbkokpbobngaa.Pure
open Go.RowKit Go.Proofs.Ytbcbkokpbobngaa.PA Go.Proofs.YtbcbkokpbobngaaW.PrintWords Go.Proofs.YtbcbkokpbobngaaW.PrintLast Go.Proofs.YtbcbkokpbobngaaW.PrintMore
/-- What is right bounds the two of which the middle is taken. -/
theorem two_bounds (k : Nat) (a l : List Int) (j : Nat) (hj : j ≤ k) (hc : ∀ v, cnt v a ≤ cnt v l ∧ cnt v l ≤ cnt v a + j) (hl : l.length = a.length + j) (hlt : 2 * k < a.length) :
    lo a ≤ (srt l).getD k 0 ∧ (srt l).getD k 0 ≤ (srt a).getD k 0 ∧ (srt a).getD (a.length - 1 - k) 0 ≤ (srt l).getD (l.length - 1 - k) 0 ∧ (srt l).getD (l.length - 1 - k) 0 ≤ hi a := by
  have hs := srt_is l
  have ha := srt_is a
  refine ⟨?_, ?_, ?_, ?_⟩
  · refine kth_ge hs (by omega) ?_
    have h1 := (hc (lo a - 1)).2
    have h2 : cnt (lo a - 1) a = 0 := cnt_zero (fun x hx => by have := lo_le hx; omega)
    omega
  · refine kth_le hs (by omega) ?_
    have h1 := (hc ((srt a).getD k 0)).1
    have h2 := (srt_le_iff ha (k := k) (by omega) ((srt a).getD k 0)).1 (Int.le_refl _)
    omega
  · refine kth_ge hs (by omega) ?_
    have h1 := (hc ((srt a).getD (a.length - 1 - k) 0 - 1)).2
    have h2 := mt (srt_le_iff ha (k := a.length - 1 - k) (by omega) ((srt a).getD (a.length - 1 - k) 0 - 1)).2 (by omega)
    omega
  · refine kth_le hs (by omega) ?_
    have h1 := (hc (hi a)).1
    have h2 : cnt (hi a) a = a.length := cnt_all (fun x hx => le_hi hx)
    omega
theorem ClockPairs : omnibuslaw10_ClockPairs.Pure := by
  intro a0 l1 l2 l3 h0 _ s1 r1 _ s2 r2 _ s3 r3
  have w0 := wf_i64 h0
  have rk := pk_range a0 8 (by omega)
  obtain ⟨k, hk⟩ : ∃ k : Nat, pk a0 8 = (k : Int) := ⟨(pk a0 8).toNat, by omega⟩
  obtain ⟨a, ha⟩ : ∃ a, dvs l1 30 1000 = a := ⟨_, rfl⟩
  obtain ⟨b, hb⟩ : ∃ b, dvs l2 k 1073741824 = b := ⟨_, rfl⟩
  obtain ⟨c, hc⟩ : ∃ c, dvs l3 k 1073741824 = c := ⟨_, rfl⟩
  have la : a.length ≤ 30 := by rw [← ha, dvs_length]; omega
  have lb : b.length ≤ k := by rw [← hb, dvs_length]; omega
  have lc : c.length ≤ k := by rw [← hc, dvs_length]; omega
  have ra : ∀ x ∈ a, -1000 ≤ x ∧ x ≤ 1000 := fun x hx => by rw [← ha] at hx; exact dvs_range (by omega) hx
  have rb : ∀ x ∈ b, -1073741824 ≤ x ∧ x ≤ 1073741824 := fun x hx => by rw [← hb] at hx; exact dvs_range (by omega) hx
  have rc : ∀ x ∈ c, -1073741824 ≤ x ∧ x ≤ 1073741824 := fun x hx => by rw [← hc] at hx; exact dvs_range (by omega) hx
  obtain ⟨K1, e1⟩ := awake_ev
  obtain ⟨K2, e2⟩ := devs_ev l1 30 1000 r1 s1 (by omega) (by omega)
  obtain ⟨K3, e3⟩ := devs_ev l2 k 1073741824 r2 s2 (by omega) (by omega)
  obtain ⟨K4, e4⟩ := devs_ev l3 k 1073741824 r3 s3 (by omega) (by omega)
  rw [ha] at e2
  rw [hb] at e3
  rw [hc] at e4
  dsimp only at e1 e2 e3 e4
  have hab : (a ++ b).length = a.length + b.length := List.length_append
  have hca : (c ++ a).length = c.length + a.length := List.length_append
  by_cases hs : a.length ≤ 2 * k
  · refine ⟨K1 + K2 + K3 + K4, ?_⟩
    unfold omnibuslaw10_ClockPairs.f
    rw [e1 _ (by omega), pick_eq a0 _ w0 (by omega), hk]
    simp only [Option.bind_some]
    rw [show ((30 : Int)) = ((30 : Nat) : Int) from rfl, e2 _ (by omega), Option.bind_some, if_pos (by rw [w64 (by omega) (by omega)]; omega)]
  · have r1' : ∀ x ∈ a ++ b, -1073741824 ≤ x ∧ x ≤ 1073741824 := fun x hx => by
      rcases List.mem_append.1 hx with hx | hx
      · have := ra x hx; omega
      · exact rb x hx
    have r2' : ∀ x ∈ c ++ a, -1073741824 ≤ x ∧ x ≤ 1073741824 := fun x hx => by
      rcases List.mem_append.1 hx with hx | hx
      · exact rc x hx
      · have := ra x hx; omega
    obtain ⟨K5, e5⟩ := Middle_ev k (a ++ b) (by omega) r1' (by omega) (by omega)
    obtain ⟨K6, e6⟩ := Middle_ev k (c ++ a) (by omega) r2' (by omega) (by omega)
    obtain ⟨K7, e7⟩ := Spread_ev a (by omega)
    refine ⟨K1 + K2 + K3 + K4 + K5 + K6 + K7, ?_⟩
    dsimp only at e5 e6 e7
    have hne : a ≠ [] := by
      intro e
      have : a.length = 0 := by rw [e]; rfl
      omega
    have b1 := two_bounds k a (a ++ b) b.length lb (fun v => by rw [cnt_append]; have := cnt_le_length v b; omega) hab (by omega)
    have b2 := two_bounds k a (c ++ a) c.length lc (fun v => by rw [cnt_append]; have := cnt_le_length v c; omega) (by omega) (by omega)
    have b3 := srt_mono (srt_is a) (i := k) (j := a.length - 1 - k) (by omega) (by omega)
    have b4 := ra _ (lo_mem hne)
    have b5 := ra _ (hi_mem hne)
    have hm1 : mid k (a ++ b) = ((srt (a ++ b)).getD k 0 + (srt (a ++ b)).getD ((a ++ b).length - 1 - k) 0) / 2 := rfl
    have hm2 : mid k (c ++ a) = ((srt (c ++ a)).getD k 0 + (srt (c ++ a)).getD ((c ++ a).length - 1 - k) 0) / 2 := rfl
    unfold omnibuslaw10_ClockPairs.f
    rw [e1 _ (by omega), pick_eq a0 _ w0 (by omega), hk]
    simp only [Option.bind_some]
    rw [show ((30 : Int)) = ((30 : Nat) : Int) from rfl, e2 _ (by omega), Option.bind_some, if_neg (by rw [w64 (by omega) (by omega)]; omega)]
    rw [if_pos (by simp only [List.length_nil]; omega), List.nil_append, e3 _ (by omega), Option.bind_some, if_pos (by omega), e5 _ (by omega), Option.bind_some, e4 _ (by omega), Option.bind_some, if_pos (by omega), e6 _ (by omega), Option.bind_some]
    simp only [if_true]
    rw [e7 _ (by omega), Option.bind_some]
    generalize mid k (a ++ b) = m at *
    generalize mid k (c ++ a) = n at *
    have hm : -1000 ≤ m ∧ m ≤ 1000 ∧ -1000 ≤ n ∧ n ≤ 1000 := by omega
    rw [w64 (x := m - n) (by omega) (by omega), w64 (x := n - m) (by omega) (by omega), w64 (x := hi a - lo a) (by omega) (by omega), w64 (x := hi a - lo a + 1) (by omega) (by omega)]
    have hx : mx (m - n) (n - m) ≤ 2000 ∧ -2000 ≤ mx (m - n) (n - m) ∧ 2 * mx (m - n) (n - m) ≤ hi a - lo a + 1 := by
      unfold mx
      split <;> omega
    rw [w64 (by omega) (by omega), decide_eq_true hx.2.2]
end Go.Proofs.Ytbcbkokpbobngaa.Pure
