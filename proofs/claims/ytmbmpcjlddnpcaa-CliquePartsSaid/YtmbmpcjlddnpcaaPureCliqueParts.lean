/- The law CliqueParts (of two parts of all nodes that hear their own alone, and of the others spoilt frames, the lesser one does not go on, nor does either, if they are as many; the greater one does) as a statement on numbers alone; no conditions. -/
import Derived.Test.YtmbmpcjlddnpcaaPAx4
import Derived.Test.YtmbmpcjlddnpcaaClqB
set_option linter.unusedVariables false
set_option linter.unusedSimpArgs false
set_option linter.unusedSectionVars false
namespace Go.Proofs.Ytmbmpcjlddnpcaa.Pure
open Go.RowKit Go.Proofs.Ytmbmpcjlddnpcaa Go.Proofs.Ytmbmpcjlddnpcaa.PA Go.Proofs.YtmbmpcjlddnpcaaW.PrintWords Go.Proofs.YtmbmpcjlddnpcaaW.PrintLast

/-- How many of the first n have a thing. -/
def cq (p : Nat → Bool) : Nat → Nat
  | 0 => 0
  | n + 1 => cq p n + if p n = true then 1 else 0
theorem cq_le (p : Nat → Bool) : ∀ n, cq p n ≤ n
  | 0 => Nat.le_refl _
  | n + 1 => by
    have := cq_le p n
    unfold cq
    split <;> omega
theorem cq_congr {p q : Nat → Bool} : ∀ {n : Nat}, (∀ i, i < n → p i = q i) → cq p n = cq q n
  | 0, _ => rfl
  | n + 1, h => by
    unfold cq
    rw [cq_congr (fun i hi => h i (by omega)), h n (by omega)]
theorem cq_not (p : Nat → Bool) : ∀ n, cq (fun i => !p i) n + cq p n = n
  | 0 => rfl
  | n + 1 => by
    have := cq_not p n
    unfold cq
    cases p n <;> simp <;> omega
theorem cq_but {q : Nat → Bool} {a : Nat} (ha : q a = true) : ∀ n, cq (fun k => !(k == a) && q k) n + (if a < n then 1 else 0) = cq q n
  | 0 => rfl
  | n + 1 => by
    have ih := cq_but ha n
    show cq (fun k => !(k == a) && q k) n + (if (!(n == a) && q n) = true then 1 else 0) + _ = cq q n + (if q n = true then 1 else 0)
    rw [← ih]
    by_cases h : n = a
    · subst h
      rw [ha, if_neg (Nat.lt_irrefl _), if_pos (Nat.lt_succ_self _)]
      simp
    · have hb : (n == a) = false := by simpa using h
      rw [hb, Bool.not_false, Bool.true_and]
      generalize (if q n = true then 1 else 0) = z
      by_cases h2 : a < n
      · rw [if_pos h2, if_pos (by omega)]
        omega
      · rw [if_neg h2, if_neg (by omega)]
        omega
theorem cq_but0 {q : Nat → Bool} {a : Nat} (ha : q a = false) (n : Nat) : cq (fun k => !(k == a) && q k) n = cq q n := by
  refine cq_congr (fun i _ => ?_)
  by_cases h : i = a
  · subst h
    rw [ha, Bool.and_false]
  · have hb : (i == a) = false := by simpa using h
    rw [hb, Bool.not_false, Bool.true_and]
theorem cq_stop {p : Nat → Bool} {n : Nat} (h : ∀ i, n ≤ i → p i = false) : ∀ m, cq p (n + m) = cq p n
  | 0 => rfl
  | m + 1 => by
    show cq p (n + m) + (if p (n + m) = true then 1 else 0) = _
    rw [cq_stop h m, h (n + m) (by omega)]
    rfl
theorem All_ev (n : Nat) (hn : n < 17) : Ev (fun k => omnibusref03_All.f k (n : Int)) ((2 ^ n - 1 : Nat) : Int) := by
  have h : ∀ j : Fin 17, omnibusref03_All.f 40 (j.val : Int) = some ((2 ^ j.val - 1 : Nat) : Int) := by decide +kernel
  exact Ev.of (omnibusref03_All.mono _) (h ⟨n, hn⟩)
theorem list_ev (v : Nat) (hv : v < 65536) : ∀ (m i : Nat) (acc : List Int), i + m = 16 → acc.length ≤ i →
    ∃ l : List Int, l.length + cq v.testBit i = acc.length + cq v.testBit 16 ∧ Ev (fun k => omnibusref03_List.l0 k (v : Int) acc (i : Int)) l
  | 0, i, acc, h, ha => by
    obtain rfl : i = 16 := by omega
    exact ⟨acc, rfl, Ev.step (f := fun _ => some acc) (fun k => by rw [omnibusref03_List.l0, if_neg (by decide)]) (Ev.now _)⟩
  | m + 1, i, acc, h, ha => by
    by_cases hb : v.testBit i = true
    · obtain ⟨l, hl, hE⟩ := list_ev v hv m (i + 1) (acc ++ [(i : Int)]) (by omega) (by rw [List.length_append]; simp; omega)
      refine ⟨l, ?_, Ev.step (fun k => ?_) hE⟩
      · have e : cq v.testBit (i + 1) = cq v.testBit i + 1 := by
          show cq v.testBit i + (if v.testBit i = true then 1 else 0) = _
          rw [if_pos hb]
        rw [e, List.length_append] at hl
        simp at hl
        omega
      · rw [omnibusref03_List.l0, if_pos (by omega), Has_n v i hv (by omega), Option.bind_some, if_pos hb, if_pos (by omega), w64 (x := (i : Int) + 1) (by omega) (by omega)]
        rfl
    · obtain ⟨l, hl, hE⟩ := list_ev v hv m (i + 1) acc (by omega) (by omega)
      refine ⟨l, ?_, Ev.step (fun k => ?_) hE⟩
      · have e : cq v.testBit (i + 1) = cq v.testBit i := by
          show cq v.testBit i + (if v.testBit i = true then 1 else 0) = _
          rw [if_neg hb]
          rfl
        rw [e] at hl
        exact hl
      · rw [omnibusref03_List.l0, if_pos (by omega), Has_n v i hv (by omega), Option.bind_some, if_neg hb, w64 (x := (i : Int) + 1) (by omega) (by omega)]
        rfl
theorem Count_ev (v n : Nat) (hv : v < 65536) (hn : n ≤ 16) (hs : ∀ i, n ≤ i → v.testBit i = false) : Ev (fun k => omnibusref03_Count.f k (v : Int)) ((cq v.testBit n : Nat) : Int) := by
  obtain ⟨l, hl, K, hE⟩ := list_ev v hv 16 0 [] (by omega) (by simp)
  refine ⟨K, fun k hk => ?_⟩
  have e := hE k hk
  dsimp only at e ⊢
  have h0 : cq v.testBit 0 = 0 := rfl
  have h16 := cq_stop hs (16 - n)
  rw [show n + (16 - n) = 16 by omega] at h16
  have hlen : l.length = cq v.testBit n := by
    rw [h0, h16] at hl
    simpa using hl
  unfold omnibusref03_Count.f omnibusref03_List.f
  rw [show ((0 : Int)) = ((0 : Nat) : Int) from rfl, e, Option.bind_some, hlen]

/-- How many of the first j, but i, are of i's own part; how many of the other. -/
def own (v i j : Nat) : Nat := cq (fun k => !(k == i) && (v.testBit i == v.testBit k)) j
def oth (v i j : Nat) : Nat := cq (fun k => !(k == i) && !(v.testBit i == v.testBit k)) j
section
variable {v n : Nat} (hn : 2 ≤ n ∧ n ≤ 16) (hv : v < 65536)
include hn hv
theorem parts_count (i : Nat) (hi : i < n) : ∃ mine : Nat, ((v.testBit i = true ∧ mine = cq v.testBit n) ∨ (v.testBit i = false ∧ mine + cq v.testBit n = n)) ∧ own v i n + 1 = mine ∧ oth v i n + mine = n := by
  have hnot := cq_not v.testBit n
  have hle := cq_le v.testBit n
  by_cases h : v.testBit i = true
  · refine ⟨cq v.testBit n, .inl ⟨h, rfl⟩, ?_, ?_⟩
    · have := cq_but (q := v.testBit) h n
      rw [if_pos hi] at this
      rw [← this]
      unfold own
      rw [h]
      congr 1
      exact cq_congr (fun k _ => by cases v.testBit k <;> rfl)
    · have := cq_but0 (q := fun k => !v.testBit k) (a := i) (by rw [h]; rfl) n
      have e : oth v i n = cq (fun k => !(k == i) && !v.testBit k) n := by
        unfold oth
        rw [h]
        exact cq_congr (fun k _ => by cases v.testBit k <;> rfl)
      rw [e, this]
      exact hnot
  · have h0 : v.testBit i = false := Bool.eq_false_iff.mpr h
    refine ⟨n - cq v.testBit n, .inr ⟨h0, by omega⟩, ?_, ?_⟩
    · have := cq_but (q := fun k => !v.testBit k) (a := i) (by rw [h0]; rfl) n
      rw [if_pos hi] at this
      have e : own v i n = cq (fun k => !(k == i) && !v.testBit k) n := by
        unfold own
        rw [h0]
        exact cq_congr (fun k _ => by cases v.testBit k <;> rfl)
      rw [e, this]
      omega
    · have := cq_but0 (q := v.testBit) h0 n
      have e : oth v i n = cq (fun k => !(k == i) && v.testBit k) n := by
        unfold oth
        rw [h0]
        exact cq_congr (fun k _ => by cases v.testBit k <;> rfl)
      rw [e, this]
      omega
theorem parts_l1 (i : Nat) (hi : i < n) (hE : Ev (fun k => omnibuslaw12_CliqueParts.l0 k true (n : Int) (v : Int) ((cq v.testBit n : Nat) : Int) ((i + 1 : Nat) : Int)) true) : ∀ (m j H : Nat), j + m = n → H < 65536 → H.testBit i = false →
    Ev (fun k => omnibuslaw12_CliqueParts.l1 k true (n : Int) (v : Int) ((cq v.testBit n : Nat) : Int) (i : Int) (j : Int) (H : Int) ((own v i j : Nat) : Int) ((oth v i j : Nat) : Int)) true
  | 0, j, H, h, hH, hHi => by
    obtain rfl : j = n := by omega
    obtain ⟨mine, hm, h1, h2⟩ := parts_count hn hv i hi
    have hle := cq_le v.testBit j
    -- the round's last part
    have hj : Ev (fun k => omnibuslaw12_CliqueParts.j2 k true (j : Int) (v : Int) ((cq v.testBit j : Nat) : Int) (i : Int) (mine : Int) (H : Int) ((own v i j : Nat) : Int) ((oth v i j : Nat) : Int)) true := by
      refine Ev.step (fun k => ?_) hE
      have hst : decide (((own v i j : Nat) : Int) ≥ ((oth v i j : Nat) : Int)) = decide (wrap64 (2 * (mine : Int)) > (j : Int)) := by
        rw [w64 (by omega) (by omega)]
        refine decide_eq_decide.2 ?_
        omega
      rw [omnibuslaw12_CliqueParts.j2]
      unfold clique_Stays.f
      rw [Option.bind_some, hst, bne_self_eq_false, if_neg (by decide), w64 (x := (mine : Int) - 1) (by omega) (by omega), w64 (x := (j : Int) - (mine : Int)) (by omega) (by omega), if_pos (by omega), if_pos (by omega), Has_n H i hH (by omega), Option.bind_some, hHi, if_neg (by decide), w64 (x := (i : Int) + 1) (by omega) (by omega)]
      rfl
    refine Ev.step (fun k => ?_) hj
    rw [omnibuslaw12_CliqueParts.l1, if_neg (by omega), Has_n v i hv (by omega), Option.bind_some]
    rcases hm with ⟨hb, hm⟩ | ⟨hb, hm⟩
    · rw [hb, if_pos rfl, hm]
    · rw [hb, if_neg (by decide), w64 (by omega) (by omega), show (j : Int) - ((cq v.testBit j : Nat) : Int) = (mine : Int) by omega]
  | m + 1, j, H, h, hH, hHi => by
    have o1 := cq_le (fun k => !(k == i) && (v.testBit i == v.testBit k)) j
    have o2 := cq_le (fun k => !(k == i) && !(v.testBit i == v.testBit k)) j
    have so : own v i (j + 1) = own v i j + if (!(j == i) && (v.testBit i == v.testBit j)) = true then 1 else 0 := rfl
    have st : oth v i (j + 1) = oth v i j + if (!(j == i) && !(v.testBit i == v.testBit j)) = true then 1 else 0 := rfl
    have o1' : own v i j ≤ j := o1
    have o2' : oth v i j ≤ j := o2
    by_cases hji : j = i
    · have ih := parts_l1 i hi hE m (j + 1) H (by omega) hH hHi
      rw [so, st, show (j == i) = true by simpa using hji] at ih
      simp only [Bool.not_true, Bool.false_and, Bool.false_eq_true, if_false, Nat.add_zero] at ih
      refine Ev.step (fun k => ?_) ih
      rw [omnibuslaw12_CliqueParts.l1, if_pos (by omega), Has_n v i hv (by omega), Option.bind_some, Has_n v j hv (by omega), Option.bind_some, w64 (x := (j : Int) + 1) (by omega) (by omega), if_pos (show (j : Int) = (i : Int) by omega), if_pos (show (j : Int) = (i : Int) by omega)]
      split <;> rfl
    · have hne : (j == i) = false := by simpa using hji
      by_cases hs : (v.testBit i == v.testBit j) = true
      · have hH2 := or_lt H j hH (by omega)
        have hb2 : (H ||| 2 ^ j).testBit i = false := by
          rw [Nat.testBit_or, hHi, Nat.testBit_two_pow_of_ne hji]
          rfl
        have ih := parts_l1 i hi hE m (j + 1) (H ||| 2 ^ j) (by omega) hH2 hb2
        rw [so, st, hne, hs] at ih
        simp only [Bool.not_true, Bool.not_false, Bool.true_and, Bool.false_eq_true, if_false, if_true, Nat.add_zero] at ih
        refine Ev.step (fun k => ?_) ih
        rw [omnibuslaw12_CliqueParts.l1, if_pos (by omega), Has_n v i hv (by omega), Option.bind_some, Has_n v j hv (by omega), Option.bind_some, w64 (x := (j : Int) + 1) (by omega) (by omega), if_neg (show ¬ (j : Int) = (i : Int) by omega), if_pos hs]
        unfold clique_Hear.f
        rw [if_neg (by omega), if_pos (by omega), if_pos rfl, With_n H j hH (by omega), Option.bind_some, Option.bind_some, if_pos (by omega), w64 (by omega) (by omega)]
        rfl
      · have ih := parts_l1 i hi hE m (j + 1) H (by omega) hH hHi
        have hs0 : (v.testBit i == v.testBit j) = false := Bool.eq_false_iff.mpr hs
        rw [so, st, hne, hs0] at ih
        simp only [Bool.not_true, Bool.not_false, Bool.true_and, Bool.false_eq_true, if_false, if_true, Nat.add_zero] at ih
        refine Ev.step (fun k => ?_) ih
        rw [omnibuslaw12_CliqueParts.l1, if_pos (by omega), Has_n v i hv (by omega), Option.bind_some, Has_n v j hv (by omega), Option.bind_some, w64 (x := (j : Int) + 1) (by omega) (by omega), if_neg hs, if_neg (show ¬ (j : Int) = (i : Int) by omega)]
        unfold clique_Hear.f
        rw [if_neg (by omega), if_pos (by omega), if_neg (by decide), if_pos rfl, Option.bind_some, if_pos (by omega), w64 (by omega) (by omega)]
        rfl
theorem parts_l0 : ∀ (m i : Nat), i + m = n → Ev (fun k => omnibuslaw12_CliqueParts.l0 k true (n : Int) (v : Int) ((cq v.testBit n : Nat) : Int) (i : Int)) true
  | 0, i, h => by
    refine Ev.step (f := fun _ => some true) (fun k => ?_) (Ev.now _)
    rw [omnibuslaw12_CliqueParts.l0, if_neg (by omega)]
  | m + 1, i, h => by
    have ih := parts_l0 m (i + 1) (by omega)
    refine Ev.step (fun k => ?_) (parts_l1 hn hv i (by omega) ih n 0 0 (by omega) (by omega) (Nat.zero_testBit i))
    rw [omnibuslaw12_CliqueParts.l0, if_pos (by omega)]
    rfl
end
theorem CliqueParts : omnibuslaw12_CliqueParts.Pure := by
  intro a0 a1 w0 w1
  have b0 := wf_i64 w0
  have b1 := wf_i64 w1
  have r0 := pk_range a0 65536 (by omega)
  have r1 := pk_range a1 15 (by omega)
  obtain ⟨q, hq⟩ : ∃ q : Nat, pk a1 15 = (q : Int) := ⟨(pk a1 15).toNat, by omega⟩
  obtain ⟨x, hx⟩ : ∃ x : Nat, pk a0 65536 = (x : Int) := ⟨(pk a0 65536).toNat, by omega⟩
  have wn : wrap64 (2 + pk a1 15) = ((q + 2 : Nat) : Int) := by
    rw [w64 (by omega) (by omega), hq]
    push_cast
    omega
  have hpow : 2 ^ (q + 2) ≤ 2 ^ 16 := Nat.pow_le_pow_right (by decide) (by omega)
  have h16 : (2 : Nat) ^ 16 = 65536 := by decide
  have hpos : 0 < 2 ^ (q + 2) := Nat.two_pow_pos _
  have h62 : (2 : Nat) ^ 62 = 4611686018427387904 := by decide
  have hand : Go.bits .and .i64 (x : Int) ((2 ^ (q + 2) - 1 : Nat) : Int) = ((x % 2 ^ (q + 2) : Nat) : Int) := by
    rw [and_n _ _ (by omega) (by omega), Nat.and_two_pow_sub_one_eq_mod]
  have hv : x % 2 ^ (q + 2) < 65536 := Nat.lt_of_lt_of_le (Nat.mod_lt _ hpos) (by omega)
  have hs : ∀ i, q + 2 ≤ i → (x % 2 ^ (q + 2)).testBit i = false := fun i hi => by
    rw [Nat.testBit_mod_two_pow, decide_eq_false (by omega), Bool.false_and]
  obtain ⟨K1, e1⟩ := awake_ev
  obtain ⟨K2, e2⟩ := All_ev (q + 2) (by omega)
  obtain ⟨K3, e3⟩ := Count_ev _ (q + 2) hv (by omega) hs
  obtain ⟨K4, e4⟩ := parts_l0 (n := q + 2) (by omega) hv (q + 2) 0 (by omega)
  refine ⟨K1 + K2 + K3 + K4, ?_⟩
  have f1 := e1 (K1 + K2 + K3 + K4) (by omega)
  have f2 := e2 (K1 + K2 + K3 + K4) (by omega)
  have f3 := e3 (K1 + K2 + K3 + K4) (by omega)
  have f4 := e4 (K1 + K2 + K3 + K4) (by omega)
  dsimp only at f1 f2 f3 f4
  unfold omnibuslaw12_CliqueParts.f
  rw [f1, Option.bind_some, pick_eq a1 15 b1 (by omega), Option.bind_some, wn, pick_eq a0 _ b0 (by omega), Option.bind_some, f2, Option.bind_some, hx, hand, f3, Option.bind_some]
  exact f4

end Go.Proofs.Ytmbmpcjlddnpcaa.Pure
