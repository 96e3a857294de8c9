/- The law CliqueAcks (who is acknowledged by more than half, with itself, is so with more, too; of two nodes that both are, some node has heard both, or one of them the other) as a statement on numbers and lists alone; no conditions. -/
import Derived.Test.YtmbmpcjlddnpcaaPAx5
import Derived.Test.YtmbmpcjlddnpcaaClqB
set_option linter.unusedVariables false
set_option linter.unusedSimpArgs false
set_option linter.unusedSectionVars false
namespace Go.Proofs.Ytmbmpcjlddnpcaa.Pure
open Go.RowKit Go.Proofs.Ytmbmpcjlddnpcaa Go.Proofs.Ytmbmpcjlddnpcaa.PA Go.Proofs.YtmbmpcjlddnpcaaW.PrintWords Go.Proofs.YtmbmpcjlddnpcaaW.PrintLast

theorem wrap_range (x : Int) : -9223372036854775808 ≤ wrap64 x ∧ wrap64 x ≤ 9223372036854775807 := by
  unfold wrap64
  omega
/-- How many of the first n have a thing. -/
def ct (p : Nat → Bool) : Nat → Nat
  | 0 => 0
  | n + 1 => ct p n + if p n = true then 1 else 0
theorem ct_disj {p q : Nat → Bool} : ∀ {n : Nat}, (∀ i, i < n → ¬ (p i = true ∧ q i = true)) → ct p n + ct q n ≤ n
  | 0, _ => Nat.le_refl _
  | n + 1, h => by
    have ih := ct_disj (n := n) (fun i hi => h i (by omega))
    have hn := h n (by omega)
    unfold ct
    split <;> split <;> first | (exact absurd ⟨‹_›, ‹_›⟩ hn) | omega
theorem ct_or {p : Nat → Bool} {a : Nat} (ha : p a = false) : ∀ n : Nat, ct (fun i => i == a || p i) n = ct p n + if a < n then 1 else 0
  | 0 => rfl
  | n + 1 => by
    have ih := ct_or ha n
    show ct (fun i => i == a || p i) n + (if (n == a || p n) = true then 1 else 0) = ct p n + (if p n = true then 1 else 0) + _
    rw [ih]
    by_cases h : n = a
    · subst h
      rw [ha, if_neg (Nat.lt_irrefl _), if_pos (Nat.lt_succ_self _)]
      simp
    · have hb : (n == a) = false := by simpa using h
      rw [hb, Bool.false_or]
      generalize (if p n = true then 1 else 0) = z
      by_cases h2 : a < n
      · rw [if_pos h2, if_pos (by omega)]
        omega
      · rw [if_neg h2, if_neg (by omega)]
        omega
/-- What a node has heard: the raw vector without itself. -/
def rawOf (l : List Int) (i : Nat) : Nat := if (l.length : Int) > 0 then (pk (wrap64 (rd l (Int.tmod (i : Int) (l.length : Int)) + (i : Int))) 65536).toNat else 0
theorem rawOf_lt (l : List Int) (i : Nat) : rawOf l i < 65536 := by
  unfold rawOf
  split
  · have := pk_range (wrap64 (rd l (Int.tmod (i : Int) (l.length : Int)) + (i : Int))) 65536 (by omega)
    omega
  · omega
def bitOf (l : List Int) (a i : Nat) : Bool := (wo (rawOf l i) i).testBit a
def hOf (l : List Int) (n : Nat) : List Int := (List.range n).map fun i => ((wo (rawOf l i) i : Nat) : Int)
theorem hOf_length (l : List Int) (n : Nat) : (hOf l n).length = n := by simp [hOf]
theorem hOf_succ (l : List Int) (n : Nat) : hOf l (n + 1) = hOf l n ++ [((wo (rawOf l n) n : Nat) : Int)] := by simp [hOf, List.range_succ]
theorem hOf_rd (l : List Int) (n i : Nat) (hi : i < n) : rd (hOf l n) (i : Int) = ((wo (rawOf l i) i : Nat) : Int) := by
  unfold rd hOf
  rw [Int.toNat_natCast, List.getD_eq_getElem?_getD]
  simp [hi]
theorem cnt_ct (l : List Int) (a : Nat) (ha : a < 16) : ∀ n : Nat, cntB (hOf l n) (a : Int) = ct (bitOf l a) n
  | 0 => rfl
  | n + 1 => by
    rw [hOf_succ, cntB_append, cnt_ct l a ha n, cntB_one, hasB_n _ _ (wo_lt _ _ (rawOf_lt _ _)) ha]
    rfl
theorem own_bit (l : List Int) (a : Nat) : bitOf l a a = false := wo_bit _ _

section
variable {l : List Int} {n a b : Nat} (hn : 2 ≤ n ∧ n ≤ 16) (ha : a < n) (hb : b < n)
include hn ha hb
theorem acks_j2 : Ev (fun k => omnibuslaw12_CliqueAcks.j2 k true (n : Int) (a : Int) (hOf l n) false) true := by
  have hl := hOf_length l n
  have hmore : cntB (hOf l n ++ [((2 ^ a : Nat) : Int)]) (a : Int) = cntB (hOf l n) (a : Int) + 1 := by
    rw [cntB_append, cntB_one, hasB_n _ _ (pow16 a (by omega)) (by omega), Nat.testBit_two_pow_self, if_pos rfl]
  obtain ⟨K1, e1⟩ := Clear_ev (a : Int) (n : Int) (hOf l n) (by omega) (by omega) (by omega)
  obtain ⟨K2, e2⟩ := Clear_ev (a : Int) (n : Int) (hOf l n ++ [((2 ^ a : Nat) : Int)]) (by rw [List.length_append, hl]; simp; omega) (by omega) (by omega)
  obtain ⟨K3, e3⟩ := Acked_ev (a : Int) (hOf l n) (by omega)
  obtain ⟨K4, e4⟩ := Acked_ev (a : Int) (hOf l n ++ [((2 ^ a : Nat) : Int)]) (by rw [List.length_append, hl]; simp; omega)
  have hc := cntB_le (hOf l n) (a : Int)
  refine ⟨K1 + K2 + K3 + K4 + 1, fun k hk => ?_⟩
  obtain ⟨m, rfl⟩ : ∃ m, k = m + 1 := ⟨k - 1, by omega⟩
  have f1 := e1 m (by omega)
  have f2 := e2 m (by omega)
  have f3 := e3 m (by omega)
  have f4 := e4 m (by omega)
  dsimp only at f1 f2 f3 f4 ⊢
  rw [hmore] at f2 f4
  have hfin : (((cntB (hOf l n) (a : Int) + 1 : Nat) : Int) == wrap64 ((cntB (hOf l n) (a : Int) : Int) + 1)) = true := by
    rw [w64 (by omega) (by omega)]
    simp
  rw [omnibuslaw12_CliqueAcks.j2, if_neg (by decide), List.nil_append, hl, if_pos (by simp; omega), Option.bind_some, if_pos (by omega), shl_n a (by omega), Option.bind_some, if_pos (by rw [hl]; simp; omega), Option.bind_some, if_pos rfl, f1, Option.bind_some, f2, f3, f4]
  rw [Option.bind_some, Option.bind_some, Option.bind_some, hfin]
  by_cases h : decide (2 * ((cntB (hOf l n) (a : Int) : Int) + 1) > (n : Int)) = true
  · have h' := of_decide_eq_true h
    rw [if_pos h, if_pos (decide_eq_true (by push_cast; omega))]
  · rw [if_neg h]
/-- Whether some node of the first i has heard both, or is one and has heard the other. -/
def bothAt (l : List Int) (a b i : Nat) : Bool := a == b || (List.range i).any fun j => (j == a || bitOf l a j) && (j == b || bitOf l b j)
omit hn ha hb in
theorem bothAt_succ (l : List Int) (a b i : Nat) : bothAt l a b (i + 1) = (bothAt l a b i || ((i == a || bitOf l a i) && (i == b || bitOf l b i))) := by
  unfold bothAt
  rw [List.range_succ, List.any_append, Bool.or_assoc]
  simp
theorem acks_end : Ev (fun k => omnibuslaw12_CliqueAcks.l1 k true (n : Int) (a : Int) (b : Int) (hOf l n) (bothAt l a b n) (n : Int)) true := by
  have hl := hOf_length l n
  obtain ⟨K1, e1⟩ := Clear_ev (a : Int) (n : Int) (hOf l n) (by omega) (by omega) (by omega)
  obtain ⟨K2, e2⟩ := Clear_ev (b : Int) (n : Int) (hOf l n) (by omega) (by omega) (by omega)
  obtain ⟨K3, e3⟩ := acks_j2 (l := l) hn ha hb
  refine ⟨K1 + K2 + K3 + 1, fun k hk => ?_⟩
  obtain ⟨m, rfl⟩ : ∃ m, k = m + 1 := ⟨k - 1, by omega⟩
  have f1 := e1 m (by omega)
  have f2 := e2 m (by omega)
  have f3 := e3 m (by omega)
  dsimp only at f1 f2 f3 ⊢
  rw [omnibuslaw12_CliqueAcks.l1, if_neg (by omega), f1, Option.bind_some, f2]
  by_cases h1 : decide (2 * ((cntB (hOf l n) (a : Int) : Int) + 1) > (n : Int)) = true
  · rw [if_pos h1, Option.bind_some]
    by_cases h2 : decide (2 * ((cntB (hOf l n) (b : Int) : Int) + 1) > (n : Int)) = true
    · rw [if_pos h2]
      have h1' := of_decide_eq_true h1
      have h2' := of_decide_eq_true h2
      have hboth : bothAt l a b n = true := by
        by_cases hc : bothAt l a b n = true
        · exact hc
        · exfalso
          have hd : ∀ i, i < n → ¬ ((i == a || bitOf l a i) = true ∧ (i == b || bitOf l b i) = true) := by
            intro i hi hh
            refine hc ?_
            unfold bothAt
            rw [Bool.or_eq_true]
            refine .inr (List.any_eq_true.2 ⟨i, List.mem_range.2 hi, ?_⟩)
            rw [hh.1, hh.2]
            rfl
          have h := ct_disj (p := fun i => i == a || bitOf l a i) (q := fun i => i == b || bitOf l b i) hd
          rw [ct_or (own_bit l a) n, ct_or (own_bit l b) n, if_pos ha, if_pos hb, ← cnt_ct l a (by omega) n, ← cnt_ct l b (by omega) n] at h
          omega
      rw [hboth]
      exact f3
    · rw [if_neg h2]
      exact f3
  · rw [if_neg h1]
    exact f3
theorem acks_l1 : ∀ (m i : Nat), i + m = n → Ev (fun k => omnibuslaw12_CliqueAcks.l1 k true (n : Int) (a : Int) (b : Int) (hOf l n) (bothAt l a b i) (i : Int)) true
  | 0, i, h => by
    obtain rfl : i = n := by omega
    exact acks_end hn ha hb
  | m + 1, i, h => by
    have ih := acks_l1 m (i + 1) (by omega)
    have hl := hOf_length l n
    refine Ev.step (fun k => ?_) ih
    have hw := wo_lt (rawOf l i) i (rawOf_lt l i)
    rw [omnibuslaw12_CliqueAcks.l1, if_pos (by omega), w64 (x := (i : Int) + 1) (by omega) (by omega), hl, if_pos (show (0 : Int) ≤ (i : Int) by omega), if_pos (show (i : Int) < (n : Int) by omega), hOf_rd l n i (by omega), Has_n _ a hw (by omega), Has_n _ b hw (by omega), bothAt_succ]
    rw [Option.bind_some, Option.bind_some, Option.bind_some]
    have ea : ((i : Int) = (a : Int)) = (i = a) := propext Int.ofNat_inj
    have eb : ((i : Int) = (b : Int)) = (i = b) := propext Int.ofNat_inj
    simp only [ea, eb]
    show _ = omnibuslaw12_CliqueAcks.l1 k true (n : Int) (a : Int) (b : Int) (hOf l n) (bothAt l a b i || ((i == a || (wo (rawOf l i) i).testBit a) && (i == b || (wo (rawOf l i) i).testBit b))) ((i + 1 : Nat) : Int)
    rw [show ((i + 1 : Nat) : Int) = (i : Int) + 1 by push_cast; rfl]
    generalize bothAt l a b i = acc
    generalize (wo (rawOf l i) i).testBit a = x
    generalize (wo (rawOf l i) i).testBit b = y
    by_cases h1 : i = a <;> by_cases h2 : i = b <;> cases acc <;> cases x <;> cases y <;> simp [h1, h2] <;> (by_cases hab : a = b <;> first | (simp [hab]; done) | (exfalso; omega) | (simp_all; done) | grind)
theorem acks_l0 : ∀ (m i : Nat), i + m = n → Ev (fun k => omnibuslaw12_CliqueAcks.l0 k l true (n : Int) (a : Int) (b : Int) (hOf l i) (i : Int)) true
  | 0, i, h => by
    obtain rfl : i = n := by omega
    refine Ev.step (f := fun k => omnibuslaw12_CliqueAcks.l1 k true (i : Int) (a : Int) (b : Int) (hOf l i) (bothAt l a b 0) ((0 : Nat) : Int)) (fun k => ?_) (acks_l1 hn ha hb i 0 (by omega))
    rw [omnibuslaw12_CliqueAcks.l0, if_neg (by omega)]
    have : ((a : Int) == (b : Int)) = bothAt l a b 0 := by
      unfold bothAt
      by_cases h : a = b
      · subst h
        simp
      · have : ¬ (a : Int) = (b : Int) := by omega
        rw [beq_eq_false_iff_ne.mpr this]
        simp [h]
    rw [this]
    rfl
  | m + 1, i, h => by
    have ih := acks_l0 m (i + 1) (by omega)
    have hl := hOf_length l i
    have hr := rawOf_lt l i
    refine Ev.step (fun k => ?_) ih
    rw [omnibuslaw12_CliqueAcks.l0, if_pos (by omega), w64 (x := (i : Int) + 1) (by omega) (by omega), hOf_succ]
    by_cases hlen : (l.length : Int) > 0
    · have t0 : 0 ≤ Int.tmod (i : Int) (l.length : Int) := Int.tmod_nonneg _ (by omega)
      have t1 : Int.tmod (i : Int) (l.length : Int) < (l.length : Int) := Int.tmod_lt_of_pos _ hlen
      have hp := pk_range (wrap64 (rd l (Int.tmod (i : Int) (l.length : Int)) + (i : Int))) 65536 (by omega)
      have hraw : pk (wrap64 (rd l (Int.tmod (i : Int) (l.length : Int)) + (i : Int))) 65536 = ((rawOf l i : Nat) : Int) := by
        unfold rawOf
        rw [if_pos hlen]
        omega
      rw [if_pos hlen, if_neg (by omega), if_pos t0, if_pos t1, pick_eq _ _ (wrap_range _) (by omega), Option.bind_some, hraw, Without_n _ _ hr (by omega), Option.bind_some, Option.bind_some, if_pos (by rw [hl]; simp; omega)]
      rfl
    · have hraw : rawOf l i = 0 := by
        unfold rawOf
        rw [if_neg hlen]
      have h0 : omnibusref03_Without.f 0 (i : Int) = some ((wo 0 i : Nat) : Int) := Without_n 0 i (by omega) (by omega)
      rw [if_neg hlen, h0, Option.bind_some, Option.bind_some, if_pos (by rw [hl]; simp; omega), hraw]
      rfl
end
theorem CliqueAcks : omnibuslaw12_CliqueAcks.Pure := by
  intro l a1 a2 a3 _ _ _ w1 w2 w3
  have b1 := wf_i64 w1
  have b2 := wf_i64 w2
  have b3 := wf_i64 w3
  have r1 := pk_range a1 15 (by omega)
  obtain ⟨q, hq⟩ : ∃ q : Nat, pk a1 15 = (q : Int) := ⟨(pk a1 15).toNat, by omega⟩
  have wn : wrap64 (2 + pk a1 15) = ((q + 2 : Nat) : Int) := by
    rw [w64 (by omega) (by omega), hq]
    push_cast
    omega
  have r2 := pk_range a2 ((q + 2 : Nat) : Int) (by omega)
  have r3 := pk_range a3 ((q + 2 : Nat) : Int) (by omega)
  obtain ⟨a, ha⟩ : ∃ a : Nat, pk a2 ((q + 2 : Nat) : Int) = (a : Int) := ⟨(pk a2 ((q + 2 : Nat) : Int)).toNat, by omega⟩
  obtain ⟨b, hb⟩ : ∃ b : Nat, pk a3 ((q + 2 : Nat) : Int) = (b : Int) := ⟨(pk a3 ((q + 2 : Nat) : Int)).toNat, by omega⟩
  obtain ⟨K1, e1⟩ := awake_ev
  obtain ⟨K2, e2⟩ := acks_l0 (l := l) (n := q + 2) (a := a) (b := b) (by omega) (by omega) (by omega) (q + 2) 0 (by omega)
  refine ⟨K1 + K2, ?_⟩
  have f1 := e1 (K1 + K2) (by omega)
  have f2 := e2 (K1 + K2) (by omega)
  dsimp only at f1 f2
  unfold omnibuslaw12_CliqueAcks.f
  rw [f1, Option.bind_some, pick_eq a1 15 b1 (by omega), Option.bind_some, wn, pick_eq a2 _ b2 (by omega), Option.bind_some, pick_eq a3 _ b3 (by omega), Option.bind_some, ha, hb]
  exact f2

end Go.Proofs.Ytmbmpcjlddnpcaa.Pure
