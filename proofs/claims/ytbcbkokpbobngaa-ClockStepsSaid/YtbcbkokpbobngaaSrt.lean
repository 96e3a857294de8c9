/- Sorted lists of whole numbers and their k-th least elements, told by counting. Plain Lean. -/
namespace Go.Proofs.Ytbcbkokpbobngaa
def IsSrt (s l : List Int) : Prop := s.Perm l ∧ s.Pairwise (· ≤ ·)
def cnt (v : Int) (l : List Int) : Nat := l.countP (fun x => decide (x ≤ v))
theorem cnt_nil (v : Int) : cnt v [] = 0 := rfl
theorem cnt_cons (v a : Int) (l : List Int) : cnt v (a :: l) = cnt v l + if a ≤ v then 1 else 0 := by
  unfold cnt
  rw [List.countP_cons]
  by_cases h : a ≤ v <;> simp [h]
theorem cnt_append (v : Int) (a b : List Int) : cnt v (a ++ b) = cnt v a + cnt v b := by
  unfold cnt
  exact List.countP_append
theorem cnt_le_length (v : Int) (l : List Int) : cnt v l ≤ l.length := List.countP_le_length
theorem cnt_perm {s l : List Int} (h : s.Perm l) (v : Int) : cnt v s = cnt v l := h.countP_eq _
theorem cnt_zero {v : Int} : ∀ {l : List Int}, (∀ x ∈ l, v < x) → cnt v l = 0
  | [], _ => rfl
  | a :: l, h => by
    rw [cnt_cons, cnt_zero (fun x hx => h x (List.mem_cons_of_mem _ hx)), if_neg (by have := h a (by simp); omega)]
theorem cnt_all {v : Int} : ∀ {l : List Int}, (∀ x ∈ l, x ≤ v) → cnt v l = l.length
  | [], _ => rfl
  | a :: l, h => by
    rw [cnt_cons, cnt_all (fun x hx => h x (List.mem_cons_of_mem _ hx)), if_pos (h a (by simp))]
    rfl
theorem sorted_le_iff (v : Int) : ∀ (s : List Int) (k : Nat), s.Pairwise (· ≤ ·) → k < s.length → (s.getD k 0 ≤ v ↔ k < cnt v s)
  | [], k, _, h => by simp at h
  | a :: t, 0, hs, _ => by
    rw [cnt_cons]
    show a ≤ v ↔ _
    by_cases h : a ≤ v
    · simp [h]
    · rw [if_neg h, cnt_zero (fun x hx => by have := (List.pairwise_cons.1 hs).1 x hx; omega)]
      simp [h]
  | a :: t, k + 1, hs, hk => by
    rw [cnt_cons]
    have hk' : k < t.length := by simpa using hk
    have ih := sorted_le_iff v t k (List.pairwise_cons.1 hs).2 hk'
    show t.getD k 0 ≤ v ↔ _
    by_cases h : a ≤ v
    · rw [if_pos h, ih]
      omega
    · have hz : cnt v t = 0 := cnt_zero (fun x hx => by have := (List.pairwise_cons.1 hs).1 x hx; omega)
      rw [if_neg h, ih, hz]
      omega
theorem srt_le_iff {s l : List Int} (h : IsSrt s l) {k : Nat} (hk : k < l.length) (v : Int) : s.getD k 0 ≤ v ↔ k < cnt v l := by
  rw [sorted_le_iff v s k h.2 (by rw [h.1.length_eq]; exact hk), cnt_perm h.1]
theorem srt_mono {s l : List Int} (h : IsSrt s l) {i j : Nat} (hij : i ≤ j) (hj : j < l.length) : s.getD i 0 ≤ s.getD j 0 := by
  rw [srt_le_iff h (by omega)]
  have := (srt_le_iff h hj (s.getD j 0)).1 (Int.le_refl _)
  omega
/-- Two sorted lists of the same counts have the same elements at each place. -/
theorem srt_getD_eq {s l s' l' : List Int} (h : IsSrt s l) (h' : IsSrt s' l') (hl : l.length = l'.length) (hc : ∀ v, cnt v l = cnt v l') {k : Nat} (hk : k < l.length) : s.getD k 0 = s'.getD k 0 := by
  have a := (srt_le_iff h hk (s'.getD k 0)).2 (by rw [hc]; exact (srt_le_iff h' (by omega) _).1 (Int.le_refl _))
  have b := (srt_le_iff h' (k := k) (by omega) (s.getD k 0)).2 (by rw [← hc]; exact (srt_le_iff h hk _).1 (Int.le_refl _))
  omega
theorem srt_eq {s l s' l' : List Int} (h : IsSrt s l) (h' : IsSrt s' l') (hp : l.Perm l') : s = s' := by
  have hlen : s.length = s'.length := by rw [h.1.length_eq, h'.1.length_eq, hp.length_eq]
  apply List.ext_getElem hlen
  intro i h1 h2
  have hi : i < l.length := by rw [← h.1.length_eq]; exact h1
  have := srt_getD_eq h h' hp.length_eq (fun v => cnt_perm hp v) hi
  rw [List.getD_eq_getElem?_getD, List.getD_eq_getElem?_getD, List.getElem?_eq_getElem h1, List.getElem?_eq_getElem h2] at this
  simpa using this
/-- Some of a list are wrong: of the whole the k-th least one is not below the least right one, if at most k are wrong. -/
theorem kth_ge {s l : List Int} (h : IsSrt s l) {k : Nat} (hk : k < l.length) {m : Int} (hc : cnt (m - 1) l ≤ k) : m ≤ s.getD k 0 := by
  have := mt (srt_le_iff h hk (m - 1)).1 (by omega)
  omega
theorem kth_le {s l : List Int} (h : IsSrt s l) {k : Nat} (hk : k < l.length) {m : Int} (hc : k < cnt m l) : s.getD k 0 ≤ m :=
  (srt_le_iff h hk m).2 hc
theorem srt_mem {s l : List Int} (h : IsSrt s l) {k : Nat} (hk : k < l.length) : s.getD k 0 ∈ l := by
  have h1 : k < s.length := by rw [h.1.length_eq]; exact hk
  have : s.getD k 0 = s[k] := by rw [List.getD_eq_getElem?_getD, List.getElem?_eq_getElem h1]; rfl
  rw [this]
  exact h.1.mem_iff.1 (List.getElem_mem h1)
/-- all so much more -/
theorem cnt_map_add (b v : Int) : ∀ l : List Int, cnt (v + b) (l.map (· + b)) = cnt v l
  | [] => rfl
  | a :: l => by
    rw [List.map_cons, cnt_cons, cnt_cons, cnt_map_add b v l]
    by_cases h : a ≤ v
    · rw [if_pos h, if_pos (by omega)]
    · rw [if_neg h, if_neg (by omega)]
theorem srt_map_add {s l s' : List Int} (b : Int) (h : IsSrt s l) (h' : IsSrt s' (l.map (· + b))) {k : Nat} (hk : k < l.length) : s'.getD k 0 = s.getD k 0 + b := by
  have hk' : k < (l.map (· + b)).length := by simpa using hk
  have a := (srt_le_iff h' hk' (s.getD k 0 + b)).2 (by rw [cnt_map_add]; exact (srt_le_iff h hk _).1 (Int.le_refl _))
  have c := (srt_le_iff h hk (s'.getD k 0 - b)).2 (by rw [← cnt_map_add b]; rw [Int.sub_add_cancel]; exact (srt_le_iff h' hk' _).1 (Int.le_refl _))
  omega
/-- each a little more -/
theorem cnt_grown (v : Int) : ∀ (l g : List Int), l.length = g.length → (∀ i, i < l.length → l.getD i 0 ≤ g.getD i 0) → cnt v g ≤ cnt v l
  | [], [], _, _ => Nat.le_refl _
  | [], _ :: _, h, _ => by simp at h
  | _ :: _, [], h, _ => by simp at h
  | a :: l, b :: g, h, hi => by
    rw [cnt_cons, cnt_cons]
    have h0 : a ≤ b := hi 0 (by simp)
    have ih := cnt_grown v l g (by simpa using h) (fun i hl => hi (i + 1) (by simpa using hl))
    by_cases hb : b ≤ v
    · rw [if_pos hb, if_pos (by omega)]
      omega
    · rw [if_neg hb]
      omega
theorem srt_grown {s l s' g : List Int} (h : IsSrt s l) (h' : IsSrt s' g) (hl : l.length = g.length) (hi : ∀ i, i < l.length → l.getD i 0 ≤ g.getD i 0) {k : Nat} (hk : k < l.length) : s.getD k 0 ≤ s'.getD k 0 := by
  rw [srt_le_iff h hk]
  exact Nat.lt_of_lt_of_le ((srt_le_iff h' (by omega) _).1 (Int.le_refl _)) (cnt_grown _ l g hl hi)
end Go.Proofs.Ytbcbkokpbobngaa
