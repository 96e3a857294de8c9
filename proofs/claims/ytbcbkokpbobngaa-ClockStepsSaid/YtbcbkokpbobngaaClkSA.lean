/- What the printed functions order and ends come to: a sorted list of the same elements; the least and the greatest one. Plain laws on lists. -/
import Derived.Test.YtbcbkokpbobngaaPSx2
import Derived.Test.YtbcbkokpbobngaaPSx1
import Derived.Test.YtbcbkokpbobngaaSrt
namespace Go.Proofs.Ytbcbkokpbobngaa
open Go.RowKit Go.Proofs.Ytbcbkokpbobngaa.PS Go.Proofs.YtbcbkokpbobngaaW.PrintWords Go.Proofs.YtbcbkokpbobngaaW.PrintLast Go.Proofs.YtbcbkokpbobngaaW.PrintMore
def srt (l : List Int) : List Int := l.mergeSort (fun a b => decide (a ≤ b))
theorem srt_is (l : List Int) : IsSrt (srt l) l := by
  refine ⟨List.mergeSort_perm _ _, ?_⟩
  have h := List.pairwise_mergeSort (le := fun a b : Int => decide (a ≤ b)) (fun a b c h1 h2 => by simp at *; omega) (fun a b => by simp; omega) l
  exact h.imp (fun h => by simpa using h)
theorem srt_length (l : List Int) : (srt l).length = l.length := (srt_is l).1.length_eq
theorem w64 {x : Int} (h1 : -9223372036854775808 ≤ x) (h2 : x ≤ 9223372036854775807) : wrap64 x = x := by
  unfold wrap64
  omega
/-! ### order -/
def UpTo (xs : List Int) (m : Nat) : Prop := ∀ p q, p < q → q < m → xs.getD p 0 ≤ xs.getD q 0
def But (xs : List Int) (i at_ : Nat) : Prop := ∀ p q, p < q → q ≤ i → q ≠ at_ → xs.getD p 0 ≤ xs.getD q 0
theorem upTo_all {xs : List Int} (h : UpTo xs xs.length) : xs.Pairwise (· ≤ ·) := by
  rw [List.pairwise_iff_getElem]
  intro i j hi hj hij
  have := h i j hij hj
  rw [List.getD_eq_getElem?_getD, List.getD_eq_getElem?_getD, List.getElem?_eq_getElem hi, List.getElem?_eq_getElem hj] at this
  simpa using this
theorem getD_set (xs : List Int) (i j : Nat) (v : Int) (hi : i < xs.length) : (xs.set i v).getD j 0 = if i = j then v else xs.getD j 0 := by
  rw [List.getD_eq_getElem?_getD, List.getElem?_set, List.getD_eq_getElem?_getD]
  by_cases h : i = j
  · rw [if_pos h, if_pos h, if_pos hi]
    rfl
  · rw [if_neg h, if_neg h]
def swp (xs : List Int) (m : Nat) : List Int := (xs.set m (xs.getD (m + 1) 0)).set (m + 1) (xs.getD m 0)
theorem swp_perm (xs : List Int) (m : Nat) (h : m + 1 < xs.length) : (swp xs m).Perm xs := by
  have h0 : m < xs.length := by omega
  have e := @List.set_set_perm Int xs m (m + 1) h0 h
  unfold swp
  rw [List.getD_eq_getElem?_getD, List.getD_eq_getElem?_getD, List.getElem?_eq_getElem h0, List.getElem?_eq_getElem h]
  exact e
theorem swp_getD (xs : List Int) (m j : Nat) (h : m + 1 < xs.length) : (swp xs m).getD j 0 = if j = m + 1 then xs.getD m 0 else if j = m then xs.getD (m + 1) 0 else xs.getD j 0 := by
  unfold swp
  rw [getD_set _ _ _ _ (by simpa using h), getD_set _ _ _ _ (by omega)]
  by_cases h1 : j = m + 1
  · rw [if_pos h1.symm, if_pos h1]
  · rw [if_neg (Ne.symm h1), if_neg h1]
    by_cases h2 : j = m
    · rw [if_pos h2.symm, if_pos h2]
    · rw [if_neg (Ne.symm h2), if_neg h2]
theorem but_swp {xs : List Int} {i m : Nat} (hi : i < xs.length) (hm : m + 1 ≤ i) (h : But xs i (m + 1)) (hgt : xs.getD (m + 1) 0 < xs.getD m 0) : But (swp xs m) i m := by
  intro p q hpq hq hne
  have hl : m + 1 < xs.length := by omega
  rw [swp_getD _ _ _ hl, swp_getD _ _ _ hl]
  by_cases q1 : q = m + 1
  · rw [if_pos q1]
    by_cases p1 : p = m + 1
    · omega
    · rw [if_neg p1]
      by_cases p0 : p = m
      · rw [if_pos p0]
        omega
      · rw [if_neg p0]
        exact h p m (by omega) (by omega) (by omega)
  · rw [if_neg q1, if_neg hne]
    by_cases p1 : p = m + 1
    · rw [if_pos p1]
      exact h m q (by omega) hq q1
    · rw [if_neg p1]
      by_cases p0 : p = m
      · rw [if_pos p0]
        exact h (m + 1) q (by omega) hq q1
      · rw [if_neg p0]
        exact h p q hpq hq q1
theorem but_done {xs : List Int} {i m : Nat} (h : But xs i (m + 1)) (hle : xs.getD m 0 ≤ xs.getD (m + 1) 0) (_hm : m + 1 ≤ i) : UpTo xs (i + 1) := by
  intro p q hpq hq
  by_cases q1 : q = m + 1
  · subst q1
    by_cases p0 : p = m
    · rw [p0]
      exact hle
    · have := h p m (by omega) (by omega) (by omega)
      omega
  · exact h p q hpq (by omega) q1
theorem but_zero {xs : List Int} {i : Nat} (h : But xs i 0) : UpTo xs (i + 1) := fun p q hpq hq => h p q hpq (by omega) (by omega)
theorem but_start {xs : List Int} {i : Nat} (h : UpTo xs i) : But xs i i := fun p q hpq hq hne => h p q hpq (by omega)
theorem order_l1 (n i : Nat) (hi : i < n) (hn : n ≤ 9223372036854775806) (s : List Int) : ∀ (m : Nat) (xs : List Int), xs.length = n → m ≤ i → But xs i m →
    (∀ ys : List Int, ys.Perm xs → UpTo ys (i + 1) → Ev (fun k => clock_order_int.l0 k ys (n : Int) ((i : Int) + 1)) s) →
    Ev (fun k => clock_order_int.l1 k xs (m : Int) (n : Int) (i : Int)) s
  | 0, xs, hl, _, hb, hc => by
    refine Ev.step (fun k => ?_) (hc xs (List.Perm.refl _) (but_zero hb))
    simp only [clock_order_int.l1]
    rw [if_neg (by omega), w64 (by omega) (by omega)]
  | m + 1, xs, hl, hm, hb, hc => by
    have hw : wrap64 ((((m + 1 : Nat) : Int)) - 1) = (m : Int) := by rw [w64 (by omega) (by omega)]; omega
    have e1 : rd xs ((m : Nat) : Int) = xs.getD m 0 := rfl
    have e2 : rd xs ((m + 1 : Nat) : Int) = xs.getD (m + 1) 0 := rfl
    by_cases hgt : xs.getD (m + 1) 0 < xs.getD m 0
    · have ih := order_l1 n i hi hn s m (swp xs m) (by simpa [swp] using hl) (by omega) (but_swp (by omega) hm hb hgt) (fun ys hp hu => hc ys (hp.trans (swp_perm _ _ (by omega))) hu)
      refine Ev.step (fun k => ?_) ih
      simp only [clock_order_int.l1]
      rw [hw, if_pos (by omega), if_pos (by omega), if_pos (by omega), if_pos (by omega), if_pos (by omega), e1, e2, if_pos (by omega)]
      rfl
    · refine Ev.step (fun k => ?_) (hc xs (List.Perm.refl _) (but_done hb (by omega) hm))
      simp only [clock_order_int.l1]
      rw [hw, if_pos (by omega), if_pos (by omega), if_pos (by omega), if_pos (by omega), if_pos (by omega), e1, e2, if_neg (by omega), w64 (by omega) (by omega)]
theorem order_l0 (n : Nat) (hn : n ≤ 9223372036854775806) (s : List Int) : ∀ (d i : Nat) (xs : List Int), i + d = n → xs.length = n → UpTo xs i → IsSrt s xs →
    Ev (fun k => clock_order_int.l0 k xs (n : Int) (i : Int)) s
  | 0, i, xs, hd, hl, hu, hs => by
    have e : xs = s := by
      have hx : IsSrt xs xs := ⟨List.Perm.refl _, upTo_all (by rw [hl]; exact (show i = n by omega) ▸ hu)⟩
      exact srt_eq hx hs (List.Perm.refl _)
    refine Ev.step (f := fun _ => some s) (fun k => ?_) (Ev.now s)
    simp only [clock_order_int.l0]
    rw [if_neg (by omega), e]
  | d + 1, i, xs, hd, hl, hu, hs => by
    refine Ev.step (f := fun k => clock_order_int.l1 k xs (i : Int) (n : Int) (i : Int)) (fun k => ?_) ?_
    · simp only [clock_order_int.l0]
      rw [if_pos (by omega)]
    · refine order_l1 n i (by omega) hn s i xs hl (Nat.le_refl _) (but_start hu) (fun ys hp hu' => ?_)
      exact order_l0 n hn s d (i + 1) ys (by omega) (by rw [hp.length_eq, hl]) hu' ⟨hs.1.trans hp.symm, hs.2⟩
theorem order_ev (l : List Int) (hl : l.length < 17592186044416) : Ev (fun k => clock_order_int.f k l) (srt l) := by
  refine Ev.congr (fun k => ?_) (order_l0 l.length (by omega) (srt l) l.length 0 l (by omega) rfl (fun p q _ h => by omega) (srt_is l))
  unfold clock_order_int.f
  rw [if_pos (by simpa using hl)]
  simp
/-! ### ends -/
def lo : List Int → Int
  | [] => 0
  | a :: l => l.foldl (fun x y => if y < x then y else x) a
def hi : List Int → Int
  | [] => 0
  | a :: l => l.foldl (fun x y => if x < y then y else x) a
theorem foldl_lo (l : List Int) : ∀ a : Int, (l.foldl (fun x y => if y < x then y else x) a ≤ a) ∧ (∀ x ∈ l, l.foldl (fun x y => if y < x then y else x) a ≤ x) ∧ (l.foldl (fun x y => if y < x then y else x) a = a ∨ l.foldl (fun x y => if y < x then y else x) a ∈ l) := by
  induction l with
  | nil => intro a; simp
  | cons b l ih =>
    intro a
    simp only [List.foldl_cons]
    obtain ⟨h1, h2, h3⟩ := ih (if b < a then b else a)
    have hb : (if b < a then b else a) ≤ b ∧ (if b < a then b else a) ≤ a := by split <;> omega
    refine ⟨by omega, ?_, ?_⟩
    · intro x hx
      rcases List.mem_cons.1 hx with rfl | hx
      · omega
      · exact h2 x hx
    · rcases h3 with h3 | h3
      · rw [h3]
        by_cases hba : b < a
        · rw [if_pos hba]; exact .inr (by simp)
        · rw [if_neg hba]; exact .inl rfl
      · exact .inr (List.mem_cons_of_mem _ h3)
theorem foldl_hi (l : List Int) : ∀ a : Int, (a ≤ l.foldl (fun x y => if x < y then y else x) a) ∧ (∀ x ∈ l, x ≤ l.foldl (fun x y => if x < y then y else x) a) ∧ (l.foldl (fun x y => if x < y then y else x) a = a ∨ l.foldl (fun x y => if x < y then y else x) a ∈ l) := by
  induction l with
  | nil => intro a; simp
  | cons b l ih =>
    intro a
    simp only [List.foldl_cons]
    obtain ⟨h1, h2, h3⟩ := ih (if a < b then b else a)
    have hb : b ≤ (if a < b then b else a) ∧ a ≤ (if a < b then b else a) := by split <;> omega
    refine ⟨by omega, ?_, ?_⟩
    · intro x hx
      rcases List.mem_cons.1 hx with rfl | hx
      · omega
      · exact h2 x hx
    · rcases h3 with h3 | h3
      · rw [h3]
        by_cases hba : a < b
        · rw [if_pos hba]; exact .inr (by simp)
        · rw [if_neg hba]; exact .inl rfl
      · exact .inr (List.mem_cons_of_mem _ h3)
theorem lo_le {l : List Int} {x : Int} (h : x ∈ l) : lo l ≤ x := by
  cases l with
  | nil => simp at h
  | cons a l =>
    rcases List.mem_cons.1 h with rfl | h
    · exact (foldl_lo l _).1
    · exact (foldl_lo l _).2.1 x h
theorem le_hi {l : List Int} {x : Int} (h : x ∈ l) : x ≤ hi l := by
  cases l with
  | nil => simp at h
  | cons a l =>
    rcases List.mem_cons.1 h with rfl | h
    · exact (foldl_hi l _).1
    · exact (foldl_hi l _).2.1 x h
theorem lo_mem {l : List Int} (h : l ≠ []) : lo l ∈ l := by
  cases l with
  | nil => exact absurd rfl h
  | cons a l =>
    rcases (foldl_lo l a).2.2 with h | h
    · show List.foldl _ a l ∈ _
      rw [h]; simp
    · exact List.mem_cons_of_mem _ h
theorem hi_mem {l : List Int} (h : l ≠ []) : hi l ∈ l := by
  cases l with
  | nil => exact absurd rfl h
  | cons a l =>
    rcases (foldl_hi l a).2.2 with h | h
    · show List.foldl _ a l ∈ _
      rw [h]; simp
    · exact List.mem_cons_of_mem _ h
theorem ends_l0 (l : List Int) (hn : l.length ≤ 9223372036854775806) : ∀ (d i : Nat) (x y : Int), i + d = l.length → 0 < i →
    Ev (fun k => clock_ends_int.l0 k x y l (l.length : Int) (i : Int)) ((l.drop i).foldl (fun x y => if y < x then y else x) x, (l.drop i).foldl (fun x y => if x < y then y else x) y)
  | 0, i, x, y, hd, _ => by
    rw [List.drop_of_length_le (by omega)]
    refine Ev.step (f := fun _ => some (x, y)) (fun k => ?_) (Ev.now _)
    simp only [clock_ends_int.l0]
    rw [if_neg (by omega)]
  | d + 1, i, x, y, hd, h0 => by
    have hlt : i < l.length := by omega
    have e : rd l (i : Int) = l[i] := by
      show l.getD i 0 = _
      rw [List.getD_eq_getElem?_getD, List.getElem?_eq_getElem hlt]
      rfl
    rw [List.drop_eq_getElem_cons hlt, List.foldl_cons, List.foldl_cons]
    have ih := ends_l0 l hn d (i + 1) (if l[i] < x then l[i] else x) (if y < l[i] then l[i] else y) (by omega) (by omega)
    refine Ev.step (fun k => ?_) ih
    simp only [clock_ends_int.l0]
    rw [if_pos (by omega), if_pos (by omega), if_pos (by omega), if_neg (by omega), w64 (by omega) (by omega), e]
    rfl
theorem ends_ev (l : List Int) (hn : l.length ≤ 9223372036854775806) : Ev (fun k => clock_ends_int.f k l) (lo l, hi l) := by
  unfold clock_ends_int.f
  cases l with
  | nil =>
    refine Ev.step (f := fun _ => some (0, 0)) (fun k => ?_) (Ev.now _)
    simp [clock_ends_int.l0]
  | cons a l =>
    have h := ends_l0 (a :: l) hn l.length 1 a a (by simp; omega) (by omega)
    refine Ev.step (fun k => ?_) h
    simp only [clock_ends_int.l0]
    rw [if_pos (by simp), if_pos (by omega), if_pos (by simp), if_pos trivial]
    have e : rd (a :: l) 0 = a := rfl
    have e1 : mn a a = a := by simp [mn]
    have e2 : mx a a = a := by simp [mx]
    rw [e, e1, e2, w64 (by omega) (by omega)]
    rfl
end Go.Proofs.Ytbcbkokpbobngaa
