/- The law CliqueAges (one that is not heard is alive for just as many rounds as patience says) as a statement on numbers and lists alone; no conditions. -/
import Derived.Test.YtmbmpcjlddnpcaaPGx4
import Derived.Test.YtmbmpcjlddnpcaaClqG
set_option linter.unusedVariables false
set_option linter.unusedSimpArgs false
namespace Go.Proofs.Ytmbmpcjlddnpcaa.Pure
open Go.RowKit Go.Proofs.Ytmbmpcjlddnpcaa.G Go.Proofs.Ytmbmpcjlddnpcaa.PG Go.Proofs.YtmbmpcjlddnpcaaW.PrintWords Go.Proofs.YtmbmpcjlddnpcaaW.PrintLast
/-- The ages behind a round, of a list of sixteen. -/
def aged (v : Nat) (L : List Int) : List Int := (List.range 16).map (fun j => if v.testBit j = true then 0 else L.getD j 0 + 1)
theorem aged_length (v : Nat) (L : List Int) : (aged v L).length = 16 := by simp [aged]
theorem aged_get (v : Nat) (L : List Int) (j : Nat) (hj : j < 16) : (aged v L).getD j 0 = if v.testBit j = true then 0 else L.getD j 0 + 1 := by
  unfold aged
  rw [List.getD_eq_getElem?_getD, List.getElem?_map, List.getElem?_range hj]
  rfl
theorem firsts_eq (L : List Int) (hl : L.length = 16) : firsts L = upto (fun j => (j, L.getD j 0)) 16 := by
  unfold firsts
  rw [hl]
  simp [List.getD_eq_getElem?_getD]
theorem Ages_eq (v : Nat) (hv : v < 65536) (L : List Int) (hl : L.length = 16) (hr : ∀ j, j < 16 → 0 ≤ L.getD j 0 ∧ L.getD j 0 ≤ 500) : clique_Ages.f (v : Int) L = some (aged v L) := by
  unfold clique_Ages.f
  rw [firsts_eq L hl]
  congr 1
  unfold upto aged
  rw [List.map_map]
  refine List.map_congr_left (fun j hj => ?_)
  have hj' := List.mem_range.1 hj
  have h := hr j hj'
  show ageOf (v : Int) (j, L.getD j 0) = _
  unfold ageOf
  dsimp only
  rw [hasB_n v j hv hj']
  by_cases c : v.testBit j = true
  · rw [if_pos c, if_pos c]
  · rw [if_neg c, if_neg c, if_neg (by omega), w64 (by omega) (by omega)]
    unfold mx
    split <;> omega
theorem alive_fold (p : Int) (A : List Int) (hr : ∀ j, j < 16 → 0 ≤ A.getD j 0) : ∀ n, n ≤ 16 →
    ∃ w : Nat, w < 65536 ∧ (upto (fun j => (j, A.getD j 0)) n).foldl (liveStep p) 0 = (w : Int) ∧ ∀ j, j < 16 → w.testBit j = (decide (j < n) && decide (A.getD j 0 ≤ p))
  | 0, _ => ⟨0, by omega, rfl, fun j hj => by simp⟩
  | n + 1, hn => by
    obtain ⟨w, hw, e, hb⟩ := alive_fold p A hr n (by omega)
    rw [upto_succ, List.foldl_append, e]
    have h0 := hr n (by omega)
    show ∃ w' : Nat, w' < 65536 ∧ liveStep p (w : Int) (n, A.getD n 0) = (w' : Int) ∧ _
    unfold liveStep
    dsimp only
    rw [if_pos h0]
    by_cases c : A.getD n 0 ≤ p
    · refine ⟨w ||| 2 ^ n, or_lt w n hw (by omega), ?_, fun j hj => ?_⟩
      · rw [if_pos c]
        unfold withI
        rw [With_n w n hw (by omega)]
        rfl
      · rw [Nat.testBit_or, hb j hj, Nat.testBit_two_pow]
        by_cases e1 : n = j
        · subst e1
          rw [decide_eq_true rfl, decide_eq_true c, decide_eq_true (show n < n + 1 by omega), Bool.or_true]
          rfl
        · rw [decide_eq_false e1, Bool.or_false]
          congr 1
          exact decide_eq_decide.mpr (by omega)
    · refine ⟨w, hw, ?_, fun j hj => ?_⟩
      · rw [if_neg c]
      · rw [hb j hj]
        by_cases e1 : n = j
        · subst e1
          rw [decide_eq_false c, Bool.and_false, Bool.and_false]
        · congr 1
          exact decide_eq_decide.mpr (by omega)
theorem Alive_eq (p : Int) (A : List Int) (hl : A.length = 16) (hr : ∀ j, j < 16 → 0 ≤ A.getD j 0) : ∃ w : Nat, w < 65536 ∧ clique_Alive.f p A = some (w : Int) ∧ ∀ j, j < 16 → w.testBit j = decide (A.getD j 0 ≤ p) := by
  obtain ⟨w, hw, e, hb⟩ := alive_fold p A hr 16 (Nat.le_refl _)
  refine ⟨w, hw, ?_, fun j hj => ?_⟩
  · unfold clique_Alive.f
    rw [firsts_eq A hl, e]
  · rw [hb j hj, decide_eq_true hj, Bool.true_and]
theorem rd_nat (xs : List Int) (k : Nat) : rd xs (k : Int) = xs.getD k 0 := rfl
theorem at16_ok (M : List Int) (hl : M.length = 16) (k : Nat) (hk : k < 16) : at16.f M (k : Int) = some (M.getD k 0) := by
  unfold at16.f
  rw [if_pos ⟨hl, by omega, by omega⟩]
  rfl
theorem put16_ok (M : List Int) (hl : M.length = 16) (k : Nat) (hk : k < 16) (v : Int) : put16.f M (k : Int) v = some (M.set k v) := by
  unfold put16.f
  rw [if_pos ⟨hl, by omega, by omega⟩]
  rfl
theorem getD_set (M : List Int) (k j : Nat) (v : Int) (hk : k < M.length) : (M.set k v).getD j 0 = if k = j then v else M.getD j 0 := by
  rw [List.getD_eq_getElem?_getD, List.getD_eq_getElem?_getD, List.getElem?_set]
  by_cases h : k = j
  · subst h
    rw [if_pos rfl, if_pos hk, if_pos rfl]
    rfl
  · rw [if_neg h, if_neg h]
theorem ext16 (A B : List Int) (ha : A.length = 16) (hb : B.length = 16) (h : ∀ j, j < 16 → A.getD j 0 = B.getD j 0) : A = B := by
  refine List.ext_getElem (by omega) (fun i h1 h2 => ?_)
  have := h i (by omega)
  rwa [List.getD_eq_getElem?_getD, List.getD_eq_getElem?_getD, List.getElem?_eq_getElem h1, List.getElem?_eq_getElem h2] at this
theorem ages_j3 (x0 A M2 : List Int) (p i : Int) (v : Int) (w k : Nat) (hw : w < 65536) (hk : k < 16) (hA : A.length = 16) (h2 : M2.length = 16) (hb : w.testBit k = decide (A.getD k 0 ≤ p)) (h2k : M2.getD k 0 = A.getD k 0)
    (hc : Ev (fun n => omnibuslaw12_CliqueAges.l1 n x0 true p A i v (w : Int) ((k + 1 : Nat) : Int) M2) true) :
    Ev (fun n => omnibuslaw12_CliqueAges.j3 n x0 true p A i v (w : Int) (k : Int) M2) true := by
  have hw1 : wrap64 ((k : Int) + 1) = ((k + 1 : Nat) : Int) := by rw [w64 (by omega) (by omega)]; rfl
  have e1 : (w.testBit k != decide (A.getD k 0 ≤ p)) = false := by rw [hb]; exact bne_self_eq_false _
  refine Ev.step (fun n => ?_) hc
  simp only [omnibuslaw12_CliqueAges.j3]
  rw [if_pos (by omega), if_pos (by omega), at16_ok M2 h2 k hk, Option.bind_some, rd_nat, if_pos h2k.symm, Has_n w k hw hk, Option.bind_some, Option.bind_some, h2k, e1, if_neg Bool.false_ne_true, hw1]
theorem ages_bit (x0 A M : List Int) (p i : Int) (v k : Nat) (w : Int) (hv : v < 65536) (hk : k < 16) (hm : M.length = 16) (a : Int) (ha : M.getD k 0 = a) (hr : 0 ≤ a ∧ a ≤ 500) (c : v.testBit k = true)
    (hc : Ev (fun n => omnibuslaw12_CliqueAges.j3 n x0 true p A i (v : Int) w (k : Int) ((M.set k (a + 1)).set k 0)) true) :
    Ev (fun n => omnibuslaw12_CliqueAges.l1 n x0 true p A i (v : Int) w (k : Int) M) true := by
  have hm2 : (M.set k (a + 1)).length = 16 := by rw [List.length_set]; exact hm
  refine Ev.step (fun n => ?_) hc
  simp only [omnibuslaw12_CliqueAges.l1]
  rw [if_pos (by omega), at16_ok M hm k hk, Option.bind_some, ha, w64 (x := a + 1) (by omega) (by omega), put16_ok M hm k hk, Option.bind_some, Has_n v k hv hk, Option.bind_some, if_pos c, put16_ok _ hm2 k hk, Option.bind_some]
theorem ages_no (x0 A M : List Int) (p i : Int) (v k : Nat) (w : Int) (hv : v < 65536) (hk : k < 16) (hm : M.length = 16) (a : Int) (ha : M.getD k 0 = a) (hr : 0 ≤ a ∧ a ≤ 500) (c : ¬ v.testBit k = true)
    (hc : Ev (fun n => omnibuslaw12_CliqueAges.j3 n x0 true p A i (v : Int) w (k : Int) (M.set k (a + 1))) true) :
    Ev (fun n => omnibuslaw12_CliqueAges.l1 n x0 true p A i (v : Int) w (k : Int) M) true := by
  refine Ev.step (fun n => ?_) hc
  simp only [omnibuslaw12_CliqueAges.l1]
  rw [if_pos (by omega), at16_ok M hm k hk, Option.bind_some, ha, w64 (x := a + 1) (by omega) (by omega), put16_ok M hm k hk, Option.bind_some, Has_n v k hv hk, Option.bind_some, if_neg c]
/-- What stands in the places, once a place is written. -/
theorem places {A L M M2 : List Int} {k : Nat} (hM : ∀ j, j < 16 → M.getD j 0 = if j < k then A.getD j 0 else L.getD j 0) (h : ∀ j, j < 16 → M2.getD j 0 = if j = k then A.getD k 0 else M.getD j 0) : ∀ j, j < 16 → M2.getD j 0 = if j < k + 1 then A.getD j 0 else L.getD j 0 := by
  intro j hj
  rw [h j hj]
  by_cases e : j = k
  · subst e
    rw [if_pos rfl, if_pos (by omega)]
  · rw [if_neg e, hM j hj]
    by_cases e2 : j < k
    · rw [if_pos e2, if_pos (by omega)]
    · rw [if_neg e2, if_neg (by omega)]
/-- A round over the nodes. -/
theorem ages_l1 (x0 L A : List Int) (p i : Int) (v w : Nat) (hv : v < 65536) (hw : w < 65536) (hA : A = aged v L) (hr : ∀ j, j < 16 → 0 ≤ L.getD j 0 ∧ L.getD j 0 ≤ 500)
    (hb : ∀ j, j < 16 → w.testBit j = decide (A.getD j 0 ≤ p))
    (hc : Ev (fun n => omnibuslaw12_CliqueAges.l0 n x0 true p A (wrap64 (i + 1)) A) true) :
    ∀ (d k : Nat) (M : List Int), k + d = 16 → M.length = 16 → (∀ j, j < 16 → M.getD j 0 = if j < k then A.getD j 0 else L.getD j 0) →
    Ev (fun n => omnibuslaw12_CliqueAges.l1 n x0 true p A i (v : Int) (w : Int) (k : Int) M) true := by
  have hAl : A.length = 16 := by rw [hA]; exact aged_length v L
  intro d
  induction d with
  | zero =>
    intro k M hd hm hM
    have e : M = A := ext16 M _ hm hAl (fun j hj => by rw [hM j hj, if_pos (by omega)])
    subst e
    refine Ev.step (fun n => ?_) hc
    simp only [omnibuslaw12_CliqueAges.l1]
    rw [if_neg (by omega)]
  | succ d ih =>
    intro k M hd hm hM
    have hk : k < 16 := by omega
    have hMk : M.getD k 0 = L.getD k 0 := by rw [hM k hk, if_neg (by omega)]
    have hAk : A.getD k 0 = if v.testBit k = true then 0 else L.getD k 0 + 1 := by rw [hA]; exact aged_get v L k hk
    by_cases c : v.testBit k = true
    · rw [if_pos c] at hAk
      have l2 : ((M.set k (L.getD k 0 + 1)).set k 0).length = 16 := by rw [List.length_set, List.length_set]; exact hm
      have g2 : ∀ j, j < 16 → ((M.set k (L.getD k 0 + 1)).set k 0).getD j 0 = if j = k then A.getD k 0 else M.getD j 0 := by
        intro j hj
        rw [getD_set _ k j 0 (by rw [List.length_set]; omega), getD_set _ k j _ (by omega)]
        by_cases e : k = j
        · rw [if_pos e, if_pos e.symm, hAk]
        · rw [if_neg e, if_neg e, if_neg (fun h => e h.symm)]
      exact ages_bit x0 A M p i v k (w : Int) hv hk hm _ hMk (hr k hk) c (ages_j3 x0 A _ p i (v : Int) w k hw hk hAl l2 (hb k hk) (by rw [g2 k hk, if_pos rfl]) (ih (k + 1) _ (by omega) l2 (places hM g2)))
    · rw [if_neg c] at hAk
      have l2 : (M.set k (L.getD k 0 + 1)).length = 16 := by rw [List.length_set]; exact hm
      have g2 : ∀ j, j < 16 → (M.set k (L.getD k 0 + 1)).getD j 0 = if j = k then A.getD k 0 else M.getD j 0 := by
        intro j hj
        rw [getD_set _ k j _ (by omega)]
        by_cases e : k = j
        · rw [if_pos e, if_pos e.symm, hAk]
        · rw [if_neg e, if_neg (fun h => e h.symm)]
      exact ages_no x0 A M p i v k (w : Int) hv hk hm _ hMk (hr k hk) c (ages_j3 x0 A _ p i (v : Int) w k hw hk hAl l2 (hb k hk) (by rw [g2 k hk, if_pos rfl]) (ih (k + 1) _ (by omega) l2 (places hM g2)))
theorem ages_round (x0 L A : List Int) (p : Int) (i v w : Nat) (hi : i < x0.length) (hi40 : i < 40) (hlen : x0.length < 4611686018427387904) {x : Int} (hxi : rd x0 (i : Int) = x) (ep : omnibuslaw12_pick.f x 65536 = some (v : Int)) (eA : clique_Ages.f (v : Int) L = some A) (eW : clique_Alive.f p A = some (w : Int)) (hAl : A.length = 16)
    (inner : Ev (fun n => omnibuslaw12_CliqueAges.l1 n x0 true p A (i : Int) (v : Int) (w : Int) ((0 : Nat) : Int) L) true) : Ev (fun n => omnibuslaw12_CliqueAges.l0 n x0 true p L (i : Int) L) true := by
  refine Ev.step (f := fun n => omnibuslaw12_CliqueAges.j1 n x0 true p L (i : Int) true L) (fun n => ?_) (Ev.step (fun n => ?_) inner)
  · simp only [omnibuslaw12_CliqueAges.l0]
    rw [if_pos (by omega), decide_eq_true (by omega)]
  · simp only [omnibuslaw12_CliqueAges.j1]
    rw [if_pos trivial, if_pos (by omega), if_pos (by omega), hxi, ep, Option.bind_some, eA, Option.bind_some, eW, Option.bind_some, if_pos (by omega), Int.natCast_zero]
theorem ages_l0 (x0 : List Int) (p : Int) (hx : ∀ x ∈ x0, (Lit.int .i64 x).wf = true) (hlen : x0.length * 8 ≤ 140737488351232) : ∀ (d i : Nat) (L : List Int), i + d = min x0.length 40 → L.length = 16 → (∀ j, j < 16 → 0 ≤ L.getD j 0 ∧ L.getD j 0 ≤ (i : Int)) →
    Ev (fun n => omnibuslaw12_CliqueAges.l0 n x0 true p L (i : Int) L) true
  | 0, i, L, hd, hl, hr => by
    refine Ev.step (f := fun n => omnibuslaw12_CliqueAges.j1 n x0 true p L (i : Int) false L) (fun n => ?_) (Ev.step (f := fun _ => some true) (fun n => ?_) (Ev.now _))
    · simp only [omnibuslaw12_CliqueAges.l0]
      by_cases c : (i : Int) < (x0.length : Int)
      · rw [if_pos c, decide_eq_false (by omega)]
      · rw [if_neg c]
    · simp only [omnibuslaw12_CliqueAges.j1]
      rw [if_neg (by decide)]
  | d + 1, i, L, hd, hl, hr => by
    have hi : i < x0.length := by omega
    have hi40 : i < 40 := by omega
    have hxi : rd x0 (i : Int) = x0[i] := by
      show x0.getD i 0 = _
      rw [List.getD_eq_getElem?_getD, List.getElem?_eq_getElem hi]
      rfl
    have hwf := wf_i64 (hx _ (List.getElem_mem hi))
    have hpk := pk_range x0[i] 65536 (by omega)
    have ep := pick_eq x0[i] 65536 hwf (by omega)
    obtain ⟨v, hv⟩ : ∃ v : Nat, pk x0[i] 65536 = (v : Int) := ⟨(pk x0[i] 65536).toNat, by omega⟩
    rw [hv] at ep hpk
    have hv' : v < 65536 := by omega
    have hr5 : ∀ j, j < 16 → 0 ≤ L.getD j 0 ∧ L.getD j 0 ≤ 500 := fun j hj => by have := hr j hj; omega
    have eA := Ages_eq v hv' L hl hr5
    have hA : ∀ j, j < 16 → 0 ≤ (aged v L).getD j 0 ∧ (aged v L).getD j 0 ≤ ((i + 1 : Nat) : Int) := fun j hj => by
      rw [aged_get v L j hj]
      have := hr j hj
      split <;> omega
    have hAl := aged_length v L
    obtain ⟨A, eq⟩ : ∃ A, A = aged v L := ⟨_, rfl⟩
    rw [← eq] at eA hA hAl
    obtain ⟨w, hw, eW, hb⟩ := Alive_eq p A hAl (fun j hj => (hA j hj).1)
    have hw1 : wrap64 ((i : Int) + 1) = ((i + 1 : Nat) : Int) := by rw [w64 (by omega) (by omega)]; rfl
    have ih := ages_l0 x0 p hx hlen d (i + 1) A (by omega) hAl hA
    rw [← hw1] at ih
    have inner := ages_l1 x0 L A p (i : Int) v w hv' hw eq hr5 hb ih 16 0 L rfl hl (fun j hj => by rw [if_neg (by omega)])
    exact ages_round x0 L A p i v w hi hi40 (by omega) hxi ep eA eW hAl inner
theorem CliqueAges : omnibuslaw12_CliqueAges.Pure := by
  intro l0 a1 hm hl hx h1
  have w1 := wf_i64 h1
  suffices h : Ev (fun k => omnibuslaw12_CliqueAges.f k l0 a1) true from h.rounds
  unfold omnibuslaw12_CliqueAges.f
  have z : ∀ j, j < 16 → zero16.getD j 0 = 0 := by
    intro j hj
    unfold zero16
    rw [List.getD_eq_getElem?_getD, List.getElem?_replicate, if_pos hj]
    rfl
  have fin := ages_l0 l0 (pk a1 10) hx hl (min l0.length 40) 0 zero16 (by omega) (by simp [zero16]) (fun j hj => by rw [z j hj]; omega)
  refine Ev.bind (f := fun k (t151 : Bool) => ((omnibuslaw12_pick.f a1 10).bind fun t152 => (if 16 ≤ 35184372088832 then (omnibuslaw12_CliqueAges.l0 k l0 t151 t152 (List.replicate 16 0) 0 zero16) else (none)))) awake_ev ?_
  refine Ev.congr (fun k => ?_) fin
  rw [pick_eq a1 10 w1 (by omega), Option.bind_some, if_pos (by omega)]
  rfl
end Go.Proofs.Ytmbmpcjlddnpcaa.Pure
