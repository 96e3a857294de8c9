/- What the functions on vectors of the clique layer come to, said of the bits of natural numbers; who has heard a node, counted. Plain laws on numbers and lists. -/
import Derived.Test.YtmbmpcjlddnpcaaPGx4
import Derived.Laws.BitsLemmas
set_option linter.unusedVariables false
set_option linter.unusedSimpArgs false
namespace Go.Proofs.Ytmbmpcjlddnpcaa.G
open Go.RowKit Go.Proofs.Ytmbmpcjlddnpcaa.PG Go.Proofs.YtmbmpcjlddnpcaaW.PrintWords Go.Proofs.YtmbmpcjlddnpcaaW.PrintLast Go.Proofs.YtmbmpcjlddnpcaaW.PrintMore
theorem w64 {x : Int} (h1 : -9223372036854775808 ≤ x) (h2 : x ≤ 9223372036854775807) : wrap64 x = x := by
  unfold wrap64
  omega
theorem wf_i64 {x : Int} (h : (Lit.int .i64 x).wf = true) : -9223372036854775808 ≤ x ∧ x ≤ 9223372036854775807 := by
  have hmin : IntKind.i64.min = -9223372036854775808 := rfl
  have hmax : IntKind.i64.max = 9223372036854775807 := rfl
  simp only [Lit.wf, Bool.and_eq_true, decide_eq_true_eq] at h
  omega
/-- Which of n things a raw number speaks of. -/
def pk (c n : Int) : Int := (if c < 0 then -(c + 1) else c) % n
theorem pk_range (c n : Int) (hn : 0 < n) : 0 ≤ pk c n ∧ pk c n < n := ⟨Int.emod_nonneg _ (by omega), Int.emod_lt_of_pos _ hn⟩
theorem pick_eq (c n : Int) (hc : -9223372036854775808 ≤ c ∧ c ≤ 9223372036854775807) (hn : 0 < n) : omnibuslaw12_pick.f c n = some (pk c n) := by
  unfold omnibuslaw12_pick.f pk
  by_cases h : c < 0
  · rw [if_pos h, if_neg (by omega), if_pos h, w64 (x := c + 1) (by omega) (by omega), w64 (by omega) (by omega), Int.tmod_eq_emod_of_nonneg (by omega)]
  · rw [if_neg h, if_neg (by omega), if_neg h, Int.tmod_eq_emod_of_nonneg (by omega)]
theorem awake_ev : Ev (fun k => omnibuslaw12_awake.f k) true := Ev.of omnibuslaw12_awake.mono (k := 40) (by decide +kernel)
/-! ### bits -/
theorem wraps62 : ∀ n : Int, 0 ≤ n → n < 2 ^ 62 → IntKind.i64.wrap n = n := fun n h0 h1 => by
  have h2 : n < 4611686018427387904 := h1
  simp [IntKind.wrap, IntKind.bits, IntKind.signed]
  omega
theorem and_n (a b : Nat) (ha : a < 2 ^ 62) (hb : b < 2 ^ 62) : Go.bits .and .i64 (a : Int) (b : Int) = ((a &&& b : Nat) : Int) := (bits_nat .i64 62 (by decide) wraps62 a b ha hb).1
theorem or_n (a b : Nat) (ha : a < 2 ^ 62) (hb : b < 2 ^ 62) : Go.bits .or .i64 (a : Int) (b : Int) = ((a ||| b : Nat) : Int) := (bits_nat .i64 62 (by decide) wraps62 a b ha hb).2
theorem shr_n (v i : Nat) (hi : i < 16) : shr .i64 (v : Int) (i : Int) = ((v / 2 ^ i : Nat) : Int) := by
  unfold shr
  rw [Int.toNat_natCast, Nat.min_eq_left (by show i ≤ 64; omega)]
  push_cast
  rfl
theorem pow16 (i : Nat) (hi : i < 16) : 2 ^ i < 65536 := by
  have : 2 ^ i ≤ 2 ^ 15 := Nat.pow_le_pow_right (by decide) (by omega)
  have e : (2 : Nat) ^ 15 = 32768 := by decide
  omega
theorem shl_n (i : Nat) (hi : i < 16) : shl .i64 1 (i : Int) = ((2 ^ i : Nat) : Int) := by
  unfold shl
  rw [Int.toNat_natCast, Nat.min_eq_left (by show i ≤ 64; omega), Int.one_mul]
  have h := pow16 i hi
  have e : ((2 : Int) ^ i) = ((2 ^ i : Nat) : Int) := by push_cast; rfl
  rw [e]
  obtain ⟨p, hp⟩ : ∃ p, 2 ^ i = p := ⟨_, rfl⟩
  rw [hp] at h ⊢
  refine wraps62 _ (by omega) ?_
  have : ((2 : Int) ^ 62) = 4611686018427387904 := by decide
  rw [this]
  omega
theorem bit_n (v i : Nat) (hv : v < 65536) (hi : i < 16) : (Go.bits .and .i64 (shr .i64 (v : Int) (i : Int)) 1 == 1) = v.testBit i := by
  have hd : v / 2 ^ i < 2 ^ 62 := by
    have h1 : v / 2 ^ i ≤ v := Nat.div_le_self _ _
    have e : (2 : Nat) ^ 62 = 4611686018427387904 := by decide
    omega
  rw [shr_n v i hi, show ((1 : Int)) = ((1 : Nat) : Int) from rfl, and_n _ 1 hd (by decide), Nat.and_one_is_mod, Nat.testBit_eq_decide_div_mod_eq]
  by_cases h : v / 2 ^ i % 2 = 1
  · rw [h]
    simp
  · have h0 : v / 2 ^ i % 2 = 0 := by omega
    rw [h0]
    simp
theorem hasB_n (v i : Nat) (hv : v < 65536) (hi : i < 16) : hasB (v : Int) (i : Int) = v.testBit i := by
  have h : vec_Has.f (v : Int) (i : Int) = some (v.testBit i) := by
    unfold vec_Has.f vec_node.f
    rw [if_pos (by omega), Option.bind_some, if_pos (decide_eq_true (by omega)), if_pos (by omega), bit_n v i hv hi]
  unfold hasB
  rw [h]
  rfl
theorem hasB_out (v i : Int) (hi : i < 0 ∨ 15 < i) : hasB v i = false := by
  have h : vec_Has.f v i = some false := by
    unfold vec_Has.f vec_node.f
    by_cases h0 : i ≥ 0
    · rw [if_pos h0, Option.bind_some, if_neg (by simp; omega)]
    · rw [if_neg h0, Option.bind_some, if_neg (by decide)]
  unfold hasB
  rw [h]
  rfl
theorem mod_n (v : Nat) (hv : v < 65536) : omnibusref03_mod.f (v : Int) = some (v : Int) := by
  unfold omnibusref03_mod.f
  rw [Int.tmod_eq_emod_of_nonneg (by omega), Int.emod_eq_of_lt (by omega) (by omega), if_neg (by omega)]
theorem Has_n (v i : Nat) (hv : v < 65536) (hi : i < 16) : omnibusref03_Has.f (v : Int) (i : Int) = some (v.testBit i) := by
  unfold omnibusref03_Has.f
  rw [if_pos (by omega), if_pos (by omega), mod_n v hv, Option.bind_some, if_pos (by omega), bit_n v i hv hi]
theorem or_lt (v i : Nat) (hv : v < 65536) (hi : i < 16) : v ||| 2 ^ i < 65536 := Nat.or_lt_two_pow (n := 16) hv (pow16 i hi)
theorem With_n (v i : Nat) (hv : v < 65536) (hi : i < 16) : vec_With.f (v : Int) (i : Int) = some ((v ||| 2 ^ i : Nat) : Int) := by
  have e : (2 : Nat) ^ 62 = 4611686018427387904 := by decide
  have h1 := pow16 i hi
  have h2 := or_lt v i hv hi
  unfold vec_With.f vec_node.f
  rw [if_pos (by omega), Option.bind_some, if_pos (decide_eq_true (by omega)), if_pos (by omega), shl_n i hi, or_n v (2 ^ i) (by omega) (by omega)]
  unfold vec_cut.f
  rw [Option.bind_some, show ((65535 : Int)) = ((65535 : Nat) : Int) from rfl, and_n _ 65535 (by omega) (by decide), show (65535 : Nat) = 2 ^ 16 - 1 from rfl, Nat.and_two_pow_sub_one_eq_mod, Nat.mod_eq_of_lt (by omega)]
/-- A vector without a node. -/
def wo (v i : Nat) : Nat := if v.testBit i then v - 2 ^ i else v
theorem wo_lt (v i : Nat) (hv : v < 65536) : wo v i < 65536 := by
  unfold wo
  split
  · exact Nat.lt_of_le_of_lt (Nat.sub_le _ _) hv
  · exact hv
theorem wo_bit (v i : Nat) : (wo v i).testBit i = false := by
  unfold wo
  by_cases h : v.testBit i = true
  · rw [if_pos h]
    rw [Nat.testBit_eq_decide_div_mod_eq] at h ⊢
    have h1 : v / 2 ^ i % 2 = 1 := of_decide_eq_true h
    have hp : 0 < 2 ^ i := Nat.two_pow_pos i
    have hle : 2 ^ i ≤ v := by
      rcases Nat.lt_or_ge v (2 ^ i) with hl | hl
      · rw [Nat.div_eq_of_lt hl] at h1
        omega
      · exact hl
    have h2 := Nat.div_eq_sub_div hp hle
    refine decide_eq_false ?_
    omega
  · rw [if_neg h]
    exact Bool.eq_false_iff.mpr h
/-! ### who has heard a node -/
def cntB (l : List Int) (node : Int) : Nat := (l.filter (fun v => hasB v node)).length
theorem cntB_le (l : List Int) (node : Int) : cntB l node ≤ l.length := List.length_filter_le _ _
theorem cntB_append (l m : List Int) (node : Int) : cntB (l ++ m) node = cntB l node + cntB m node := by
  unfold cntB
  rw [List.filter_append, List.length_append]
theorem cntB_one (v node : Int) : cntB [v] node = if hasB v node = true then 1 else 0 := by
  unfold cntB
  by_cases h : hasB v node = true
  · rw [if_pos h, List.filter_cons_of_pos (by simpa using h)]
    rfl
  · rw [if_neg h, List.filter_cons_of_neg (by simpa using h)]
    rfl
theorem acked_loop (node : Int) (l : List Int) (hl : l.length < 4611686018427387904) : ∀ (m i : Nat), i + m = l.length →
    Ev (fun k => clique_Acked.l0 k node (cntB (l.take i) node) l (l.length : Int) (i : Int)) (cntB l node : Int)
  | 0, i, h => by
    refine Ev.step (f := fun _ => some (cntB l node : Int)) (fun k => ?_) (Ev.now _)
    have hi : i = l.length := by omega
    subst hi
    rw [clique_Acked.l0, if_neg (by omega), List.take_length]
  | m + 1, i, h => by
    have ih := acked_loop node l hl m (i + 1) (by omega)
    have hb := cntB_le (l.take i) node
    have hlt : i < l.length := by omega
    have ht : l.take (i + 1) = l.take i ++ [l[i]] := List.take_succ_eq_append_getElem hlt
    have hr : rd l (i : Int) = l[i] := by
      unfold rd
      rw [Int.toNat_natCast, List.getD_eq_getElem?_getD, List.getElem?_eq_getElem hlt]
      rfl
    have hcl : (l.take i).length ≤ i := List.length_take_le _ _
    refine Ev.step (fun k => ?_) ih
    rw [clique_Acked.l0, if_pos (by omega), if_pos (by omega), if_pos (by omega), has_eq, Option.bind_some, hr, w64 (x := (i : Int) + 1) (by omega) (by omega), ht, cntB_append, cntB_one]
    by_cases hh : hasB l[i] node = true
    · rw [if_pos hh, if_pos hh, w64 (by omega) (by omega)]
      push_cast
      rfl
    · rw [if_neg hh, if_neg hh]
      push_cast
      rfl
theorem Acked_ev (node : Int) (l : List Int) (hl : l.length < 4611686018427387904) : Ev (fun k => clique_Acked.f k node l) (cntB l node : Int) := by
  have h := acked_loop node l hl l.length 0 (by omega)
  exact h
theorem Clear_ev (node n : Int) (l : List Int) (hl : l.length < 1000000) (h0 : 0 ≤ node ∧ node < 16) (hn : 1 ≤ n ∧ n ≤ 16) : Ev (fun k => clique_Clear.f k node n l) (decide (2 * ((cntB l node : Int) + 1) > n)) := by
  obtain ⟨K, e⟩ := Acked_ev node l (by omega)
  have hb := cntB_le l node
  refine ⟨K, fun k hk => ?_⟩
  have e1 := e k hk
  dsimp only at e1 ⊢
  unfold clique_Clear.f
  rw [if_pos h0.1, if_pos h0.2, if_pos hn.1, if_pos hn.2, e1, Option.bind_some, w64 (x := (cntB l node : Int) + 1) (by omega) (by omega), w64 (by omega) (by omega)]
theorem Clear_out (k : Nat) (node n : Int) (l : List Int) (h0 : node < 0 ∨ 15 < node) : clique_Clear.f k node n l = some false := by
  unfold clique_Clear.f
  by_cases h : node ≥ 0
  · rw [if_pos h, if_neg (by omega)]
  · rw [if_neg h]
theorem cntB_out (l : List Int) (node : Int) (h0 : node < 0 ∨ 15 < node) : cntB l node = 0 := by
  unfold cntB
  rw [List.filter_eq_nil_iff.2 (fun v _ => by rw [hasB_out v node h0]; decide)]
  rfl
theorem cntB_replicate (n : Nat) (v node : Int) : cntB (List.replicate n v) node = if hasB v node = true then n else 0 := by
  unfold cntB
  rw [List.filter_replicate]
  split
  · rename_i h
    exact List.length_replicate
  · rename_i h
    rfl
theorem hasB_all (node : Int) (h : 0 ≤ node ∧ node < 16) : hasB 65535 node = true := by
  obtain ⟨i, rfl⟩ := Int.eq_ofNat_of_zero_le h.1
  have hi : i < 16 := by omega
  rw [show ((65535 : Int)) = ((65535 : Nat) : Int) from rfl, hasB_n 65535 i (by omega) hi]
  have : ∀ j : Fin 16, (65535 : Nat).testBit j.val = true := by decide
  exact this ⟨i, hi⟩
theorem hasB_zero (node : Int) (h : 0 ≤ node ∧ node < 16) : hasB 0 node = false := by
  obtain ⟨i, rfl⟩ := Int.eq_ofNat_of_zero_le h.1
  have hi : i < 16 := by omega
  rw [show ((0 : Int)) = ((0 : Nat) : Int) from rfl, hasB_n 0 i (by omega) hi, Nat.zero_testBit]
end Go.Proofs.Ytmbmpcjlddnpcaa.G

