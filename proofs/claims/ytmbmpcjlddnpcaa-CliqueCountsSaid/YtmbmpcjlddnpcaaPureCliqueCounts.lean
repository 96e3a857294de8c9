/- The law CliqueCounts (Good and Bad are as many as the slots that were heard so, Heard those who were heard; whoever stays does with a good slot more) as a statement on numbers and lists alone; its condition: the list holds whole numbers of the type, and is no longer than a slice may be. -/
import Derived.Test.YtmbmpcjlddnpcaaPBx4
import Derived.Test.YtmbmpcjlddnpcaaClqC
set_option linter.unusedVariables false
set_option linter.unusedSimpArgs false
set_option linter.unusedSectionVars false
namespace Go.Proofs.Ytmbmpcjlddnpcaa.Pure
open Go.RowKit Go.Proofs.Ytmbmpcjlddnpcaa.C Go.Proofs.Ytmbmpcjlddnpcaa.PB Go.Proofs.YtmbmpcjlddnpcaaW.PrintWords Go.Proofs.YtmbmpcjlddnpcaaW.PrintLast

theorem add_or (v i : Nat) (h : v.testBit i = false) : v + 2 ^ i = v ||| 2 ^ i := by
  rw [Nat.testBit_eq_decide_div_mod_eq] at h
  have h0 : v / 2 ^ i % 2 = 0 := by
    have := of_decide_eq_false h
    omega
  have hp : 0 < 2 ^ i := Nat.two_pow_pos i
  have e1 := Nat.div_add_mod v (2 ^ i)
  have hr := Nat.mod_lt v hp
  obtain ⟨q, hq⟩ : ∃ q, v / 2 ^ i = 2 * q := ⟨v / 2 ^ i / 2, by omega⟩
  rw [hq] at e1
  generalize hrr : v % 2 ^ i = r at e1 hr
  have p1 : 2 ^ (i + 1) = 2 * 2 ^ i := by rw [Nat.pow_succ, Nat.mul_comm]
  have e2 : 2 ^ i * (2 * q) = 2 ^ (i + 1) * q := by rw [p1, Nat.mul_left_comm, Nat.mul_assoc]
  have v1 : v = 2 ^ (i + 1) * q ||| r := by rw [← Nat.two_pow_add_eq_or_of_lt (by omega) q, ← e2, e1]
  have v2 : v + 2 ^ i = (2 ^ (i + 1) * q ||| 2 ^ i) ||| r := by
    rw [← Nat.two_pow_add_eq_or_of_lt (i := i + 1) (b := 2 ^ i) (by omega) q]
    have : 2 ^ (i + 1) * q + 2 ^ i = 2 ^ i * (2 * q + 1) := by rw [← e2, Nat.mul_add, Nat.mul_one]
    rw [this, ← Nat.two_pow_add_eq_or_of_lt hr (2 * q + 1), Nat.mul_add, Nat.mul_one]
    omega
  rw [v2]
  conv => rhs; rw [v1]
  rw [Nat.or_assoc, Nat.or_assoc, Nat.or_comm r]
theorem or_same (v i : Nat) (h : v.testBit i = true) : v ||| 2 ^ i = v := by
  apply Nat.eq_of_testBit_eq
  intro j
  rw [Nat.testBit_or]
  by_cases hj : i = j
  · subst hj
    rw [h]
    rfl
  · rw [Nat.testBit_two_pow_of_ne hj, Bool.or_false]
theorem refWith_n (k v i : Nat) (hv : v < 65536) (hi : i < 16) : omnibusref03_With.f (k + 1) (v : Int) (i : Int) = some ((v ||| 2 ^ i : Nat) : Int) := by
  unfold omnibusref03_With.f
  rw [if_neg (by omega), if_neg (by omega), Has_n v i hv hi, Option.bind_some, omnibusref03_With.j0, mod_n v hv]
  by_cases h : v.testBit i = true
  · rw [if_pos h, Option.bind_some, or_same v i h]
  · have hp := pow16 i hi
    rw [if_neg h, Option.bind_some, if_pos (by omega), shl_n i hi, ← add_or v i (Bool.eq_false_iff.mpr h)]
    generalize 2 ^ i = p at hp ⊢
    rw [w64 (by omega) (by omega)]
    push_cast
    rfl
section
variable {l : List S38}
theorem counts_end (G B M i : Nat) (hi : ¬ (i < l.length ∧ i < 30)) (hM : M < 65536) : Ev (fun k => omnibuslaw12_CliqueCounts.l0 k l true (G : Int) (B : Int) (M : Int) (i : Int) (M : Int) (G : Int) (B : Int)) true := by
  have hj : Ev (fun k => omnibuslaw12_CliqueCounts.j1 k l true (G : Int) (B : Int) (M : Int) (i : Int) false (M : Int) (G : Int) (B : Int)) true := by
    refine Ev.step (f := fun _ => some true) (fun k => ?_) (Ev.now _)
    rw [omnibuslaw12_CliqueCounts.j1, if_neg (by decide), if_pos rfl, if_pos (by simp)]
    unfold clique_Stays.f
    rw [Option.bind_some]
    simp
  refine Ev.step (fun k => ?_) hj
  rw [omnibuslaw12_CliqueCounts.l0]
  by_cases h : (i : Int) < (l.length : Int)
  · rw [if_pos h, decide_eq_false (by omega)]
  · rw [if_neg h]
section
variable {i G B M a : Nat} (hi : i < 30) (hlt : i < l.length) (hGB : G + B ≤ 30) (hM : M < 65536) (ha16 : a < 16) (P0 : omnibuslaw12_pick.f (rd_T38 l (i : Int)).f0 16 = some (a : Int))
include hi hlt hGB hM ha16 P0
set_option maxHeartbeats 2000000 in
theorem slot0 (P1 : omnibuslaw12_pick.f (rd_T38 l (i : Int)).f1 3 = some 0) (hE : Ev (fun k => omnibuslaw12_CliqueCounts.l0 k l true (G : Int) (B : Int) (M : Int) ((i + 1 : Nat) : Int) (M : Int) (G : Int) (B : Int)) true) :
    Ev (fun k => omnibuslaw12_CliqueCounts.j1 k l true (G : Int) (B : Int) (M : Int) (i : Int) true (M : Int) (G : Int) (B : Int)) true := by
  have hi1 : wrap64 ((i : Int) + 1) = ((i + 1 : Nat) : Int) := by rw [w64 (by omega) (by omega)]; push_cast; rfl
  have hH : clique_Hear.f (M : Int) (G : Int) (B : Int) (a : Int) 0 = some ((M : Int), (G : Int), (B : Int)) := by
    unfold clique_Hear.f
    rw [if_neg (by omega), if_pos (by omega), if_neg (by decide), if_neg (by decide)]
  refine Ev.step (f := fun k => omnibuslaw12_CliqueCounts.j2 k l true (G : Int) (B : Int) (M : Int) (i : Int) 0 (M : Int) (G : Int) (B : Int) (M : Int) (G : Int) (B : Int)) (fun k => ?_) ?_
  · rw [omnibuslaw12_CliqueCounts.j1, if_pos rfl, if_pos (by omega), if_pos (by omega), P0, P1, Option.bind_some, Option.bind_some, hH, Option.bind_some, if_neg (by decide)]
  refine Ev.step (f := fun k => omnibuslaw12_CliqueCounts.j3 k l true (G : Int) (B : Int) (M : Int) (i : Int) 0 (M : Int) (G : Int) (B : Int) (M : Int) (G : Int) (B : Int)) (fun k => ?_) ?_
  · rw [omnibuslaw12_CliqueCounts.j2, if_neg (by decide)]
  refine Ev.step (fun k => ?_) hE
  rw [omnibuslaw12_CliqueCounts.j3, if_neg (by decide), if_pos rfl, if_neg (by simp), hi1]
set_option maxHeartbeats 2000000 in
theorem slot1 (P1 : omnibuslaw12_pick.f (rd_T38 l (i : Int)).f1 3 = some 1) (hE : Ev (fun k => omnibuslaw12_CliqueCounts.l0 k l true ((G + 1 : Nat) : Int) (B : Int) ((M ||| 2 ^ a : Nat) : Int) ((i + 1 : Nat) : Int) ((M ||| 2 ^ a : Nat) : Int) ((G + 1 : Nat) : Int) (B : Int)) true) :
    Ev (fun k => omnibuslaw12_CliqueCounts.j1 k l true (G : Int) (B : Int) (M : Int) (i : Int) true (M : Int) (G : Int) (B : Int)) true := by
  have hi1 : wrap64 ((i : Int) + 1) = ((i + 1 : Nat) : Int) := by rw [w64 (by omega) (by omega)]; push_cast; rfl
  have hG1 : wrap64 ((G : Int) + 1) = ((G + 1 : Nat) : Int) := by rw [w64 (by omega) (by omega)]; push_cast; rfl
  have hW := refWith_n
  have hV := With_n M a hM ha16
  obtain ⟨q, hq⟩ : ∃ q : Int, ((M ||| 2 ^ a : Nat) : Int) = q := ⟨_, rfl⟩
  have hW' : ∀ k, omnibusref03_With.f (k + 1) (M : Int) (a : Int) = some q := fun k => by rw [refWith_n k M a hM ha16, hq]
  rw [hq] at hV hE
  have hH : clique_Hear.f (M : Int) (G : Int) (B : Int) (a : Int) 1 = some (q, ((G + 1 : Nat) : Int), (B : Int)) := by
    unfold clique_Hear.f
    rw [if_neg (by omega), if_pos (by omega), if_pos rfl, hV, Option.bind_some, if_pos (by omega), hG1]
  have h3 : Ev (fun k => omnibuslaw12_CliqueCounts.j3 k l true ((G + 1 : Nat) : Int) (B : Int) q (i : Int) 1 (M : Int) (G : Int) (B : Int) q ((G + 1 : Nat) : Int) (B : Int)) true := by
    refine Ev.step (fun k => ?_) hE
    rw [omnibuslaw12_CliqueCounts.j3, if_pos rfl]
    unfold clique_Stays.f
    rw [Option.bind_some, Option.bind_some, if_neg (show ¬ (1 : Int) = 0 by decide), hi1]
    by_cases hs : decide ((G : Int) ≥ (B : Int)) = true
    · have hs' := of_decide_eq_true hs
      rw [if_pos hs, if_pos (decide_eq_true (by push_cast; omega))]
    · rw [if_neg hs]
  have h2 : Ev (fun k => omnibuslaw12_CliqueCounts.j2 k l true ((G + 1 : Nat) : Int) (B : Int) q (i : Int) 1 (M : Int) (G : Int) (B : Int) q ((G + 1 : Nat) : Int) (B : Int)) true := by
    refine Ev.step (fun k => ?_) h3
    rw [omnibuslaw12_CliqueCounts.j2, if_neg (by decide)]
  obtain ⟨K, h2⟩ := h2
  refine ⟨K + 2, fun k hk => ?_⟩
  obtain ⟨n, rfl⟩ : ∃ n, k = n + 1 + 1 := ⟨k - 2, by omega⟩
  have e := h2 (n + 1) (by omega)
  dsimp only at e ⊢
  rw [omnibuslaw12_CliqueCounts.j1, if_pos rfl, if_pos (by omega), if_pos (by omega), P0, P1, Option.bind_some, Option.bind_some, hH, Option.bind_some, if_pos rfl, hW' n, Option.bind_some, hG1]
  exact e
set_option maxHeartbeats 2000000 in
theorem slot2 (P1 : omnibuslaw12_pick.f (rd_T38 l (i : Int)).f1 3 = some 2) (hE : Ev (fun k => omnibuslaw12_CliqueCounts.l0 k l true (G : Int) ((B + 1 : Nat) : Int) (M : Int) ((i + 1 : Nat) : Int) (M : Int) (G : Int) ((B + 1 : Nat) : Int)) true) :
    Ev (fun k => omnibuslaw12_CliqueCounts.j1 k l true (G : Int) (B : Int) (M : Int) (i : Int) true (M : Int) (G : Int) (B : Int)) true := by
  have hi1 : wrap64 ((i : Int) + 1) = ((i + 1 : Nat) : Int) := by rw [w64 (by omega) (by omega)]; push_cast; rfl
  have hB1 : wrap64 ((B : Int) + 1) = ((B + 1 : Nat) : Int) := by rw [w64 (by omega) (by omega)]; push_cast; rfl
  have hH : clique_Hear.f (M : Int) (G : Int) (B : Int) (a : Int) 2 = some ((M : Int), (G : Int), ((B + 1 : Nat) : Int)) := by
    unfold clique_Hear.f
    rw [if_neg (by omega), if_pos (by omega), if_neg (by decide), if_pos rfl, if_pos (by omega), hB1]
  refine Ev.step (f := fun k => omnibuslaw12_CliqueCounts.j2 k l true (G : Int) (B : Int) (M : Int) (i : Int) 2 (M : Int) (G : Int) (B : Int) (M : Int) (G : Int) ((B + 1 : Nat) : Int)) (fun k => ?_) ?_
  · rw [omnibuslaw12_CliqueCounts.j1, if_pos rfl, if_pos (by omega), if_pos (by omega), P0, P1, Option.bind_some, Option.bind_some, hH, Option.bind_some, if_neg (by decide)]
  refine Ev.step (f := fun k => omnibuslaw12_CliqueCounts.j3 k l true (G : Int) ((B + 1 : Nat) : Int) (M : Int) (i : Int) 2 (M : Int) (G : Int) (B : Int) (M : Int) (G : Int) ((B + 1 : Nat) : Int)) (fun k => ?_) ?_
  · rw [omnibuslaw12_CliqueCounts.j2, if_pos rfl, hB1]
  refine Ev.step (fun k => ?_) hE
  rw [omnibuslaw12_CliqueCounts.j3, if_neg (by decide), if_neg (by decide), hi1]
end
theorem counts_loop (hw : ∀ x ∈ l, (-9223372036854775808 ≤ x.f0 ∧ x.f0 ≤ 9223372036854775807) ∧ (-9223372036854775808 ≤ x.f1 ∧ x.f1 ≤ 9223372036854775807)) : ∀ (m i G B M : Nat), i + m = 30 → G + B ≤ i → M < 65536 →
    Ev (fun k => omnibuslaw12_CliqueCounts.l0 k l true (G : Int) (B : Int) (M : Int) (i : Int) (M : Int) (G : Int) (B : Int)) true
  | 0, i, G, B, M, h, hGB, hM => counts_end G B M i (by omega) hM
  | m + 1, i, G, B, M, h, hGB, hM => by
    have ih0 : ∀ G' B' M' : Nat, G' + B' ≤ i + 1 → M' < 65536 → Ev (fun k => omnibuslaw12_CliqueCounts.l0 k l true (G' : Int) (B' : Int) (M' : Int) ((i + 1 : Nat) : Int) (M' : Int) (G' : Int) (B' : Int)) true := fun G' B' M' h1 h2 => counts_loop hw m (i + 1) G' B' M' (by omega) h1 h2
    by_cases hlt : i < l.length
    · have hj1 : Ev (fun k => omnibuslaw12_CliqueCounts.j1 k l true (G : Int) (B : Int) (M : Int) (i : Int) true (M : Int) (G : Int) (B : Int)) true := by
        have hrd : rd_T38 l (i : Int) = l[i] := by
          unfold rd_T38
          rw [Int.toNat_natCast, List.getD_eq_getElem?_getD, List.getElem?_eq_getElem hlt]
          rfl
        have hx := hw l[i] (List.getElem_mem hlt)
        rw [← hrd] at hx
        clear hrd hw
        obtain ⟨y0, hy0⟩ : ∃ y, (rd_T38 l (i : Int)).f0 = y := ⟨_, rfl⟩
        obtain ⟨y1, hy1⟩ : ∃ y, (rd_T38 l (i : Int)).f1 = y := ⟨_, rfl⟩
        rw [hy0, hy1] at hx
        have r0 := pk_range y0 16 (by decide)
        have r1 := pk_range y1 3 (by decide)
        have P0 := pick_eq y0 16 hx.1 (by decide)
        have P1 := pick_eq y1 3 hx.2 (by decide)
        generalize pk y0 16 = z0 at r0 P0
        generalize pk y1 3 = z1 at r1 P1
        rw [← hy0] at P0
        rw [← hy1] at P1
        clear hx hy0 hy1
        obtain ⟨a, rfl⟩ : ∃ a : Nat, z0 = (a : Int) := ⟨z0.toNat, by omega⟩
        have ha : a < 16 := by omega
        have hg : z1 = 0 ∨ z1 = 1 ∨ z1 = 2 := by omega
        rcases hg with rfl | rfl | rfl
        · exact slot0 (by omega) hlt (by omega) hM ha P0 P1 (ih0 G B M (by omega) hM)
        · exact slot1 (by omega) hlt (by omega) hM ha P0 P1 (ih0 (G + 1) B (M ||| 2 ^ a) (by omega) (or_lt M a hM ha))
        · exact slot2 (by omega) hlt (by omega) hM ha P0 P1 (ih0 G (B + 1) M (by omega) hM)
      refine Ev.step (fun k => ?_) hj1
      rw [omnibuslaw12_CliqueCounts.l0, if_pos (by omega), decide_eq_true (show (i : Int) < 30 by omega)]
    · exact counts_end G B M i (by omega) hM
end
theorem CliqueCounts (l : List S38) (hl : l.length ≤ 9223372036854775807) (hw : ∀ x ∈ l, (Lit.int .i64 x.f0).wf = true ∧ (Lit.int .i64 x.f1).wf = true) : ∃ k, omnibuslaw12_CliqueCounts.f k l = some true := by
  obtain ⟨K1, e1⟩ := awake_ev
  obtain ⟨K2, e2⟩ := counts_loop (fun x hx => ⟨wf_i64 (hw x hx).1, wf_i64 (hw x hx).2⟩) 30 0 0 0 0 (by omega) (by omega) (by omega)
  refine ⟨K1 + K2, ?_⟩
  have f1 := e1 (K1 + K2) (by omega)
  have f2 := e2 (K1 + K2) (by omega)
  dsimp only at f1 f2
  unfold omnibuslaw12_CliqueCounts.f
  rw [f1, Option.bind_some]
  exact f2

end Go.Proofs.Ytmbmpcjlddnpcaa.Pure
