/- What the document's own down, Elapsed, Macro, sorted, Middle, Correct and Spread come to: as the program's. Plain laws on numbers and lists. -/
import Derived.Test.YtbcbkokpbobngaaPTx5
import Derived.Test.YtbcbkokpbobngaaClkTB
namespace Go.Proofs.Ytbcbkokpbobngaa
open Go.RowKit Go.Proofs.Ytbcbkokpbobngaa.PT Go.Proofs.YtbcbkokpbobngaaW.PrintWords Go.Proofs.YtbcbkokpbobngaaW.PrintLast Go.Proofs.YtbcbkokpbobngaaW.PrintMore
theorem rdown_eq (a b : Int) (ha : -2305843009213693952 ≤ a ∧ a ≤ 2305843009213693952) (hb : 0 < b) (hb2 : b ≤ 2305843009213693952) : omnibusref10_down.f a b = some (a / b) := by
  have h1 : -b < a.tmod b ∧ a.tmod b < b := by
    have := Int.tmod_lt_of_pos a hb
    have h2 := Int.tmod_lt_of_pos (-a) hb
    rw [Int.neg_tmod] at h2
    omega
  have h2 := Int.mul_tdiv_add_tmod a b
  have h5 : -4611686018427387904 ≤ a / b ∧ a / b ≤ 2305843009213693952 := by
    have := Int.mul_ediv_add_emod a b
    have h3 := Int.emod_nonneg a (show b ≠ 0 by omega)
    have h4 := Int.emod_lt_of_pos a hb
    constructor
    · by_cases hq : a / b ≤ -1
      · have h6 : b * (a / b) ≤ 1 * (a / b) := Int.mul_le_mul_of_nonpos_right (by omega) (by omega)
        omega
      · omega
    · by_cases hq : 0 ≤ a / b
      · have h6 : 1 * (a / b) ≤ b * (a / b) := Int.mul_le_mul_of_nonneg_right (by omega) hq
        omega
      · omega
  unfold omnibusref10_down.f
  rw [if_neg (by omega)]
  by_cases h : a.tmod b < 0
  · have e : a / b = a.tdiv b - 1 := by
      have e3 : a = (a.tmod b + b) + b * (a.tdiv b - 1) := by rw [Int.mul_sub]; omega
      rw [e3, Int.add_mul_ediv_left _ _ (by omega), Int.ediv_eq_zero_of_lt (by omega) (by omega), ← e3]
      omega
    rw [if_pos h, w64 (x := a.tdiv b) (by omega) (by omega), w64 (by omega) (by omega), e]
  · have e : a / b = a.tdiv b := by
      have e3 : a = a.tmod b + b * a.tdiv b := by omega
      rw [e3, Int.add_mul_ediv_left _ _ (by omega), Int.ediv_eq_zero_of_lt (by omega) (by omega), ← e3]
      omega
    rw [if_neg h, w64 (by omega) (by omega), e]
theorem Elapsed_same (t d : Int) : ∃ p, clock_Elapsed.f t d = some p ∧ omnibusref10_Elapsed.f t d = some p := by
  unfold clock_Elapsed.f omnibusref10_Elapsed.f
  by_cases h1 : t < 0
  · exact ⟨_, by rw [if_pos h1], by rw [if_pos h1]⟩
  · by_cases h2 : t > 1099511627776
    · exact ⟨_, by rw [if_neg h1, if_pos h2], by rw [if_neg h1, if_pos h2]⟩
    · by_cases h3 : d < -1000
      · exact ⟨_, by rw [if_neg h1, if_neg h2, if_pos h3], by rw [if_neg h1, if_neg h2, if_pos h3]⟩
      · by_cases h4 : d > 1000
        · exact ⟨_, by rw [if_neg h1, if_neg h2, if_neg h3, if_pos h4], by rw [if_neg h1, if_neg h2, if_neg h3, if_pos h4]⟩
        · obtain ⟨_, b1, b2⟩ := Elapsed_eq t d (by omega) (by omega)
          rw [if_neg h1, if_neg h2, if_neg h3, if_neg h4, if_neg h1, if_neg h2, if_neg h3, if_neg h4, w64 (x := t * d) (by omega) (by omega), down_eq _ _ (by omega) (by omega) (by omega), rdown_eq _ _ (by omega) (by omega) (by omega)]
          exact ⟨_, rfl, rfl⟩
theorem Macro_same (t s : Int) : ∃ p, clock_Macro.f t s = some p ∧ omnibusref10_Macro.f t s = some p := by
  unfold clock_Macro.f omnibusref10_Macro.f
  by_cases h1 : t < -1099511627776
  · exact ⟨_, by rw [if_pos h1], by rw [if_pos h1]⟩
  · by_cases h2 : t > 1099511627776
    · exact ⟨_, by rw [if_neg h1, if_pos h2], by rw [if_neg h1, if_pos h2]⟩
    · by_cases h3 : s < 1
      · exact ⟨_, by rw [if_neg h1, if_neg h2, if_pos h3], by rw [if_neg h1, if_neg h2, if_pos h3]⟩
      · by_cases h4 : s > 1048576
        · exact ⟨_, by rw [if_neg h1, if_neg h2, if_neg h3, if_pos h4], by rw [if_neg h1, if_neg h2, if_neg h3, if_pos h4]⟩
        · rw [if_neg h1, if_neg h2, if_neg h3, if_neg h4, if_neg h1, if_neg h2, if_neg h3, if_neg h4, down_eq _ _ (by omega) (by omega) (by omega), rdown_eq _ _ (by omega) (by omega) (by omega)]
          exact ⟨_, rfl, rfl⟩
/-! ### sorted -/
/-- A new thing is put at its place. -/
theorem ins_is {xs l : List Int} {v : Int} {m : Nat} (h : IsSrt xs l) (hm : m ≤ xs.length) (hge : ∀ j, m ≤ j → j < xs.length → v < xs.getD j 0) (hle : m = 0 ∨ xs.getD (m - 1) 0 ≤ v) : IsSrt (xs.take m ++ [v] ++ xs.drop m) (l ++ [v]) := by
  have gd : ∀ i (hi : i < xs.length), xs.getD i 0 = xs[i] := fun i hi => by rw [List.getD_eq_getElem?_getD, List.getElem?_eq_getElem hi]; rfl
  constructor
  · have p1 : (xs.take m ++ [v] ++ xs.drop m).Perm (v :: xs) := by
      rw [List.append_assoc]
      refine List.perm_middle.trans ?_
      show (v :: (xs.take m ++ xs.drop m)).Perm _
      rw [List.take_append_drop]
    exact p1.trans ((List.Perm.cons v h.1).trans (List.perm_append_singleton v l).symm)
  · have hp := h.2
    rw [List.pairwise_append, List.pairwise_append]
    have hle' : ∀ x ∈ xs.take m, x ≤ v := by
      intro x hx
      obtain ⟨i, hi, rfl⟩ := List.mem_iff_getElem.1 hx
      rw [List.length_take] at hi
      rw [List.getElem_take]
      rcases hle with e | e
      · omega
      · rw [gd (m - 1) (by omega)] at e
        have : xs[i] ≤ xs[m - 1] := by
          by_cases hc : i = m - 1
          · subst hc
            exact Int.le_refl _
          · exact List.pairwise_iff_getElem.1 hp i (m - 1) _ _ (by omega)
        omega
    have hge' : ∀ x ∈ xs.drop m, v < x := by
      intro x hx
      obtain ⟨i, hi, rfl⟩ := List.mem_iff_getElem.1 hx
      rw [List.length_drop] at hi
      rw [List.getElem_drop]
      have := hge (m + i) (by omega) (by omega)
      rwa [gd (m + i) (by omega)] at this
    refine ⟨⟨hp.sublist (List.take_sublist _ _), List.pairwise_singleton _ _, ?_⟩, hp.sublist (List.drop_sublist _ _), ?_⟩
    · intro a ha b hb
      rw [List.mem_singleton.1 hb]
      exact hle' a ha
    · intro a ha b hb
      have hb' := hge' b hb
      rcases List.mem_append.1 ha with ha | ha
      · have := hle' a ha
        omega
      · rw [List.mem_singleton.1 ha]
        omega
theorem sorted_l1 (l : List Int) (i : Nat) (hi : i < l.length) (hn : l.length < 17592186044416) (s xs : List Int) (hx : IsSrt xs (l.take i)) :
    ∀ (m : Nat), m ≤ xs.length → (∀ j, m ≤ j → j < xs.length → l.getD i 0 < xs.getD j 0) →
    (∀ ys : List Int, IsSrt ys (l.take (i + 1)) → Ev (fun k => omnibusref10_sorted.l0 k l ys ((i + 1 : Nat) : Int)) s) →
    Ev (fun k => omnibusref10_sorted.l1 k l xs (i : Int) (m : Int)) s
  | m, hm, hge, hc => by
    have hxl : xs.length = i := by rw [hx.1.length_eq, List.length_take]; omega
    have e2 : rd l ((i : Nat) : Int) = l.getD i 0 := rfl
    have hins : (m = 0 ∨ xs.getD (m - 1) 0 ≤ l.getD i 0) → IsSrt (xs.take m ++ [l.getD i 0] ++ xs.drop m) (l.take (i + 1)) := by
      intro h
      have := ins_is hx hm hge h
      rwa [show l.take i ++ [l.getD i 0] = l.take (i + 1) by rw [List.take_succ_eq_append_getElem hi, List.getD_eq_getElem?_getD, List.getElem?_eq_getElem hi]; rfl] at this
    by_cases h0 : m = 0
    · refine Ev.step (fun k => ?_) (hc _ (hins (.inl h0)))
      simp only [omnibusref10_sorted.l1]
      rw [if_neg (by omega), if_pos (by omega), if_pos (by omega), Option.bind_some, if_pos (by simp only [List.length_nil, List.length_take]; omega), Option.bind_some, if_pos (by omega), if_pos (by omega), Option.bind_some, if_pos (by simp only [List.nil_append, List.length_take, List.length_cons, List.length_nil]; omega), Option.bind_some, Option.bind_some,
        if_pos (by simp only [List.nil_append, List.length_append, List.length_take, List.length_cons, List.length_nil, List.length_drop]; omega), w64 (by omega) (by omega), Int.toNat_natCast, List.nil_append, e2]
      rfl
    · have hw : wrap64 ((m : Int) - 1) = ((m - 1 : Nat) : Int) := by rw [w64 (by omega) (by omega)]; omega
      have e1 : rd xs ((m - 1 : Nat) : Int) = xs.getD (m - 1) 0 := rfl
      by_cases hgt : xs.getD (m - 1) 0 > l.getD i 0
      · refine Ev.step (f := fun k => omnibusref10_sorted.l1 k l xs (i : Int) ((m - 1 : Nat) : Int)) (fun k => ?_) (sorted_l1 l i hi hn s xs hx (m - 1) (by omega) (fun j hj hj' => ?_) hc)
        · simp only [omnibusref10_sorted.l1]
          rw [if_pos (by omega), hw, if_pos (by omega), if_pos (by omega), if_pos (by omega), if_pos (by omega), e1, e2, if_pos hgt]
        · by_cases he : j = m - 1
          · subst he
            exact hgt
          · exact hge j (by omega) hj'
      · refine Ev.step (fun k => ?_) (hc _ (hins (.inr (by omega))))
        simp only [omnibusref10_sorted.l1]
        rw [if_pos (by omega), hw, if_pos (by omega), if_pos (by omega), if_pos (by omega), if_pos (by omega), e1, e2, if_neg hgt, if_pos (by omega), if_pos (by omega), Option.bind_some, if_pos (by simp only [List.length_nil, List.length_take]; omega), Option.bind_some, Option.bind_some, if_pos (by simp only [List.nil_append, List.length_take, List.length_cons, List.length_nil]; omega), Option.bind_some, Option.bind_some,
          if_pos (by simp only [List.nil_append, List.length_append, List.length_take, List.length_cons, List.length_nil, List.length_drop]; omega), w64 (by omega) (by omega), Int.toNat_natCast, List.nil_append]
        rfl
  termination_by m => m
theorem sorted_l0 (l : List Int) (hn : l.length < 17592186044416) : ∀ (d i : Nat) (xs : List Int), i + d = l.length → IsSrt xs (l.take i) → Ev (fun k => omnibusref10_sorted.l0 k l xs (i : Int)) (srt l)
  | 0, i, xs, hd, hx => by
    have e : xs = srt l := srt_eq hx (srt_is l) (by rw [List.take_of_length_le (by omega)])
    refine Ev.step (f := fun _ => some (srt l)) (fun k => ?_) (Ev.now _)
    simp only [omnibusref10_sorted.l0]
    rw [if_neg (by omega), e]
  | d + 1, i, xs, hd, hx => by
    refine Ev.step (f := fun k => omnibusref10_sorted.l1 k l xs (i : Int) (xs.length : Int)) (fun k => ?_) (sorted_l1 l i (by omega) hn (srt l) xs hx xs.length (Nat.le_refl _) (fun j h1 h2 => by omega) (fun ys hy => sorted_l0 l hn d (i + 1) ys (by omega) hy))
    simp only [omnibusref10_sorted.l0]
    rw [if_pos (by omega)]
theorem sorted_ev (l : List Int) (hn : l.length < 17592186044416) : Ev (fun k => omnibusref10_sorted.f k l) (srt l) := by
  unfold omnibusref10_sorted.f
  exact sorted_l0 l hn l.length 0 [] (by omega) ⟨by simp, List.Pairwise.nil⟩
/-! ### Middle -/
theorem clock_Middle_start (a : Int) (l : List Int) (hn : l.length ≤ 80) (r : Int × Int)
    (h : Ev (fun n => clock_Middle.j0 n a l (decide (a < 0 ∨ a > 7 ∨ lo l < -1073741824 ∨ hi l > 1073741824))) r) : Ev (fun n => clock_Middle.f n a l) r := by
  unfold clock_Middle.f
  refine Ev.bind (f := fun n (bt113 : Int × Int) => (if a < 0 then (clock_Middle.j0 n a l (decide (a < 0))) else (if a > 7 then (clock_Middle.j0 n a l (decide (a > 7))) else (if bt113.1 < (-1073741824) then (clock_Middle.j0 n a l (decide (bt113.1 < (-1073741824)))) else (clock_Middle.j0 n a l (decide (bt113.2 > 1073741824))))))) (ends_ev l (by omega)) ?_
  refine Ev.congr (fun n => ?_) h
  by_cases h1 : a < 0
  · rw [if_pos h1, decide_eq_true h1, decide_eq_true (.inl h1)]
  · by_cases h2 : a > 7
    · rw [if_neg h1, if_pos h2, decide_eq_true h2, decide_eq_true (.inr (.inl h2))]
    · by_cases h3 : lo l < -1073741824
      · rw [if_neg h1, if_neg h2, if_pos h3, decide_eq_true h3, decide_eq_true (.inr (.inr (.inl h3)))]
      · rw [if_neg h1, if_neg h2, if_neg h3]
        congr 1
        simp [h1, h2, h3]
theorem clock_Middle_bad (a : Int) (l : List Int) (hn : l.length ≤ 80) (h : a < 0 ∨ a > 7 ∨ lo l < -1073741824 ∨ hi l > 1073741824) : Ev (fun n => clock_Middle.f n a l) (0, 1) := by
  refine clock_Middle_start a l hn _ ?_
  rw [decide_eq_true h]
  refine Ev.step (f := fun _ => some (0, 1)) (fun n => ?_) (Ev.now _)
  simp only [clock_Middle.j0]
  rw [if_pos trivial]
theorem ends_in {l : List Int} : (∀ x ∈ l, -1073741824 ≤ x ∧ x ≤ 1073741824) ↔ ¬ (lo l < -1073741824 ∨ hi l > 1073741824) := by
  constructor
  · intro hl
    by_cases e : l = []
    · subst e
      simp [lo, hi]
    · have a := (hl _ (lo_mem e)).1
      have b := (hl _ (hi_mem e)).2
      omega
  · intro h x hx
    have a := lo_le hx
    have b := le_hi hx
    omega
theorem clock_Middle_long (a : Int) (l : List Int) (hn : l.length ≤ 80) (h0 : 0 ≤ a) (h7 : a ≤ 7) (hl : ∀ x ∈ l, -1073741824 ≤ x ∧ x ≤ 1073741824) (h : 64 < l.length) : Ev (fun n => clock_Middle.f n a l) (0, 4) := by
  have := ends_in.1 hl
  refine clock_Middle_start a l hn _ ?_
  rw [decide_eq_false (by omega)]
  refine Ev.step (f := fun _ => some (0, 4)) (fun n => ?_) (Ev.now _)
  simp only [clock_Middle.j0]
  rw [if_neg (by simp), if_pos (by omega)]
theorem rMiddle_start (a : Int) (l : List Int) (r : Int × Int) (h : Ev (fun n => omnibusref10_Middle.j0 n a l (decide (a < 0 ∨ a > 7))) r) : Ev (fun n => omnibusref10_Middle.f n a l) r := by
  refine Ev.congr (fun n => ?_) h
  unfold omnibusref10_Middle.f
  by_cases h1 : a < 0
  · rw [if_pos h1, decide_eq_true (.inl h1)]
  · rw [if_neg h1]
    congr 1
    simp [h1]
theorem rMiddle_bad (a : Int) (l : List Int) (h : a < 0 ∨ a > 7) : Ev (fun n => omnibusref10_Middle.f n a l) (0, 1) := by
  refine rMiddle_start a l _ ?_
  rw [decide_eq_true h]
  refine Ev.step (f := fun _ => some (0, 1)) (fun n => ?_) (Ev.now _)
  simp only [omnibusref10_Middle.j0]
  rw [if_pos trivial]
theorem rMiddle_l0 (a : Int) (l : List Int) (hn : l.length ≤ 80) (r : Int × Int)
    (hin : (∀ x ∈ l, -1073741824 ≤ x ∧ x ≤ 1073741824) → Ev (fun n => omnibusref10_Middle.l0 n a l (l.length : Int)) r) (hout : ¬ (∀ x ∈ l, -1073741824 ≤ x ∧ x ≤ 1073741824) → r = (0, 1)) :
    ∀ (d i : Nat), i + d = l.length → (∀ j, j < i → -1073741824 ≤ l.getD j 0 ∧ l.getD j 0 ≤ 1073741824) → Ev (fun n => omnibusref10_Middle.l0 n a l (i : Int)) r
  | 0, i, hd, hj => by
    have e : i = l.length := by omega
    subst e
    refine hin (fun x hx => ?_)
    obtain ⟨j, hj', rfl⟩ := List.mem_iff_getElem.1 hx
    have := hj j hj'
    rwa [List.getD_eq_getElem?_getD, List.getElem?_eq_getElem hj'] at this
  | d + 1, i, hd, hj => by
    have hi : i < l.length := by omega
    have hm : l.getD i 0 ∈ l := by
      rw [List.getD_eq_getElem?_getD, List.getElem?_eq_getElem hi]
      exact List.getElem_mem hi
    have e1 : rd l (i : Int) = l.getD i 0 := rfl
    by_cases h1 : l.getD i 0 < -1073741824
    · rw [hout (fun h => by have := h _ hm; omega)]
      refine Ev.step (f := fun _ => some (0, 1)) (fun n => ?_) (Ev.now _)
      simp only [omnibusref10_Middle.l0]
      rw [if_pos (by omega), if_pos (by omega), e1, if_pos h1]
    · by_cases h2 : l.getD i 0 > 1073741824
      · rw [hout (fun h => by have := h _ hm; omega)]
        refine Ev.step (f := fun _ => some (0, 1)) (fun n => ?_) (Ev.now _)
        simp only [omnibusref10_Middle.l0]
        rw [if_pos (by omega), if_pos (by omega), e1, if_neg h1, if_pos h2]
      · refine Ev.step (f := fun n => omnibusref10_Middle.l0 n a l ((i + 1 : Nat) : Int)) (fun n => ?_) (rMiddle_l0 a l hn r hin hout d (i + 1) (by omega) (fun j hj' => ?_))
        · simp only [omnibusref10_Middle.l0]
          rw [if_pos (by omega), if_pos (by omega), e1, if_neg h1, if_neg h2, w64 (by omega) (by omega)]
          rfl
        · by_cases e : j = i
          · subst e
            omega
          · exact hj j (by omega)
theorem rMiddle_good (a : Int) (l : List Int) (hn : l.length ≤ 80) (h0 : 0 ≤ a) (h7 : a ≤ 7) (r : Int × Int)
    (hin : (∀ x ∈ l, -1073741824 ≤ x ∧ x ≤ 1073741824) → Ev (fun n => omnibusref10_Middle.l0 n a l (l.length : Int)) r) (hout : ¬ (∀ x ∈ l, -1073741824 ≤ x ∧ x ≤ 1073741824) → r = (0, 1)) : Ev (fun n => omnibusref10_Middle.f n a l) r := by
  refine rMiddle_start a l _ ?_
  rw [decide_eq_false (by omega)]
  refine Ev.step (f := fun n => omnibusref10_Middle.l0 n a l ((0 : Nat) : Int)) (fun n => ?_) (rMiddle_l0 a l hn r hin hout l.length 0 (by omega) (fun j hj => by omega))
  simp only [omnibusref10_Middle.j0]
  rw [if_neg (by simp)]
  rfl
theorem rMiddle_mid (k : Nat) (l : List Int) (hk : k ≤ 7) (hl : ∀ x ∈ l, -1073741824 ≤ x ∧ x ≤ 1073741824) (hn : l.length ≤ 64) (hlt : 2 * k < l.length) : Ev (fun n => omnibusref10_Middle.l0 n (k : Int) l (l.length : Int)) (mid k l, 0) := by
  have hsl := srt_length l
  have e0 : wrap64 (2 * (k : Int)) = 2 * (k : Int) := w64 (by omega) (by omega)
  have e2 : wrap64 ((wrap64 (((srt l).length : Int) - 1)) - (k : Int)) = ((l.length - 1 - k : Nat) : Int) := by rw [w64 (x := ((srt l).length : Int) - 1) (by omega) (by omega), w64 (by omega) (by omega)]; omega
  have b1 := hl _ (srt_mem (srt_is l) (k := k) (by omega))
  have b2 := hl _ (srt_mem (srt_is l) (k := l.length - 1 - k) (by omega))
  refine Ev.step (f := fun n => (omnibusref10_sorted.f n l).bind fun t202 => (if 0 ≤ (k : Int) then (if (k : Int) < (t202.length : Int) then (if 0 ≤ (wrap64 ((wrap64 ((t202.length : Int) - 1)) - (k : Int))) then (if (wrap64 ((wrap64 ((t202.length : Int) - 1)) - (k : Int))) < (t202.length : Int) then ((omnibusref10_down.f (wrap64 ((rd t202 (k : Int)) + (rd t202 (wrap64 ((wrap64 ((t202.length : Int) - 1)) - (k : Int)))))) 2).bind fun t207 => (some (t207, 0))) else (none)) else (none)) else (none)) else (none))) (fun n => ?_) ?_
  · simp only [omnibusref10_Middle.l0]
    rw [if_neg (by omega), if_neg (by omega), e0, if_neg (by omega)]
  · refine Ev.bind (f := fun _ (t202 : List Int) => (if 0 ≤ (k : Int) then (if (k : Int) < (t202.length : Int) then (if 0 ≤ (wrap64 ((wrap64 ((t202.length : Int) - 1)) - (k : Int))) then (if (wrap64 ((wrap64 ((t202.length : Int) - 1)) - (k : Int))) < (t202.length : Int) then ((omnibusref10_down.f (wrap64 ((rd t202 (k : Int)) + (rd t202 (wrap64 ((wrap64 ((t202.length : Int) - 1)) - (k : Int)))))) 2).bind fun t207 => (some (t207, 0))) else (none)) else (none)) else (none)) else (none))) (sorted_ev l (by omega)) ?_
    refine Ev.congr (f := fun _ => some (mid k l, 0)) (fun n => ?_) (Ev.now _)
    have r1 : rd (srt l) (k : Int) = (srt l).getD k 0 := rfl
    have r2 : rd (srt l) ((l.length - 1 - k : Nat) : Int) = (srt l).getD (l.length - 1 - k) 0 := rfl
    rw [if_pos (by omega), if_pos (by omega), e2, if_pos (by omega), if_pos (by omega), r1, r2, w64 (by omega) (by omega), rdown_eq _ _ (by omega) (by omega) (by omega)]
    rfl
/-- Middle, of any numbers and at most eighty devs, is as the document says. -/
theorem Middle_same (a : Int) (l : List Int) (hn : l.length ≤ 80) : ∃ r, Ev (fun n => clock_Middle.f n a l) r ∧ Ev (fun n => omnibusref10_Middle.f n a l) r := by
  by_cases h1 : a < 0 ∨ a > 7
  · exact ⟨_, clock_Middle_bad a l hn (by omega), rMiddle_bad a l h1⟩
  · by_cases h2 : ∀ x ∈ l, -1073741824 ≤ x ∧ x ≤ 1073741824
    · by_cases h3 : 64 < l.length
      · refine ⟨_, clock_Middle_long a l hn (by omega) (by omega) h2 h3, rMiddle_good a l hn (by omega) (by omega) _ (fun _ => ?_) (fun h => absurd h2 h)⟩
        refine Ev.step (f := fun _ => some (0, 4)) (fun n => ?_) (Ev.now _)
        simp only [omnibusref10_Middle.l0]
        rw [if_neg (by omega), if_pos (by omega)]
      · obtain ⟨k, rfl⟩ : ∃ k : Nat, a = (k : Int) := ⟨a.toNat, by omega⟩
        by_cases h4 : l.length ≤ 2 * k
        · refine ⟨_, Middle_short k l (by omega) h2 h4, rMiddle_good _ l hn (by omega) (by omega) _ (fun _ => ?_) (fun h => absurd h2 h)⟩
          refine Ev.step (f := fun _ => some (0, 3)) (fun n => ?_) (Ev.now _)
          simp only [omnibusref10_Middle.l0]
          rw [if_neg (by omega), if_neg (by omega), if_pos (by rw [w64 (by omega) (by omega)]; omega)]
        · exact ⟨_, Middle_ev k l (by omega) h2 (by omega) (by omega), rMiddle_good _ l hn (by omega) (by omega) _ (fun _ => rMiddle_mid k l (by omega) h2 (by omega) (by omega)) (fun h => absurd h2 h)⟩
    · have h3 := mt ends_in.2 h2
      exact ⟨_, clock_Middle_bad a l hn (by omega), rMiddle_good a l hn (by omega) (by omega) _ (fun h => absurd h h2) (fun _ => rfl)⟩
theorem Correct_same (o a b : Int) (l : List Int) (hn : l.length ≤ 80) (hb : b ≤ 9223372036854775807) : ∃ r, Ev (fun n => clock_Correct.f n o a b l) r ∧ Ev (fun n => omnibusref10_Correct.f n o a b l) r := by
  obtain ⟨m, h1, h2⟩ := Middle_same a l hn
  unfold clock_Correct.f omnibusref10_Correct.f
  have e : (if m.2 = 0 then (if b < 0 then (some o) else (some (wrap64 (o + (mn (mx m.1 (wrap64 (-b))) b))))) else (some o)) = (if m.2 = 0 then (if b < 0 then (some o) else (some (wrap64 (o + (mx (wrap64 (-b)) (mn m.1 b)))))) else (some o)) := by
    by_cases h : b < 0
    · rw [if_pos h, if_pos h]
    · rw [if_neg h, if_neg h, w64 (x := -b) (by omega) (by omega)]
      have : mn (mx m.1 (-b)) b = mx (-b) (mn m.1 b) := by
        unfold mn mx
        (repeat' split) <;> omega
      rw [this]
  have hr : ∃ r, (if m.2 = 0 then (if b < 0 then (some o) else (some (wrap64 (o + (mn (mx m.1 (wrap64 (-b))) b))))) else (some o)) = some r := by
    (repeat' split) <;> exact ⟨_, rfl⟩
  obtain ⟨r, hr⟩ := hr
  refine ⟨r, ?_, ?_⟩
  · refine Ev.bind (f := fun _ (m : Int × Int) => (if m.2 = 0 then (if b < 0 then (some o) else (some (wrap64 (o + (mn (mx m.1 (wrap64 (-b))) b))))) else (some o))) h1 ?_
    exact Ev.congr (fun n => hr) (Ev.now _)
  · refine Ev.bind (f := fun _ (m : Int × Int) => (if m.2 = 0 then (if b < 0 then (some o) else (some (wrap64 (o + (mx (wrap64 (-b)) (mn m.1 b)))))) else (some o))) h2 ?_
    exact Ev.congr (fun n => e.symm.trans hr) (Ev.now _)
/-! ### Spread -/
theorem rSpread_l0 (l : List Int) (hn : l.length ≤ 9223372036854775806) : ∀ (d i : Nat) (x y : Int), i + d = l.length →
    Ev (fun k => omnibusref10_Spread.l0 k l x y (i : Int)) (wrap64 ((l.drop i).foldl (fun x y => if x < y then y else x) y - (l.drop i).foldl (fun x y => if y < x then y else x) x))
  | 0, i, x, y, hd => by
    rw [List.drop_of_length_le (by omega)]
    refine Ev.step (f := fun _ => some (wrap64 (y - x))) (fun k => ?_) (Ev.now _)
    simp only [omnibusref10_Spread.l0]
    rw [if_neg (by omega)]
  | d + 1, i, x, y, hd => by
    have hlt : i < l.length := by omega
    have e : rd l (i : Int) = l[i] := by
      show l.getD i 0 = _
      rw [List.getD_eq_getElem?_getD, List.getElem?_eq_getElem hlt]
      rfl
    rw [List.drop_eq_getElem_cons hlt, List.foldl_cons, List.foldl_cons]
    have ih := rSpread_l0 l hn d (i + 1) (if l[i] < x then l[i] else x) (if y < l[i] then l[i] else y) (by omega)
    refine Ev.step (fun k => ?_) ih
    simp only [omnibusref10_Spread.l0]
    rw [if_pos (by omega), if_pos (by omega), w64 (by omega) (by omega), e]
    rfl
theorem rSpread_ev (l : List Int) (hn : l.length ≤ 9223372036854775806) : Ev (fun k => omnibusref10_Spread.f k l) (wrap64 (hi l - lo l)) := by
  unfold omnibusref10_Spread.f
  cases l with
  | nil => exact Ev.congr (fun k => by simp [hi, lo, w64]) (Ev.now _)
  | cons a l =>
    have h := rSpread_l0 (a :: l) hn l.length 1 a a (by simp; omega)
    refine Ev.congr (fun k => ?_) h
    rw [if_neg (by simp; omega), if_pos (by simp)]
    rfl
end Go.Proofs.Ytbcbkokpbobngaa
