/- A slice of arrays of two whole numbers as an argument: what its reading says of its cells. A plain law on the reading of values. -/
import Derived.Deep.SlicePairs
import Derived.WideKeyPair
set_option linter.unusedVariables false
set_option linter.unusedSimpArgs false
namespace Go.Proofs.Ytmbmpcjlddnpcaa.Pairs
open Go.ChangeShapes Go.WideShapes Go.Deep
section
variable {H : Type} {enc : TypeId × Value → H} {P : Program} {w : World} {base : Nat} {spare : Nat → Bool} {held : Bool} {t e i : TypeId}
theorem trod_array2 (hu : P.underlying e = some (.array 2 i)) (h0 : P.underlying i = some (.int .i64)) (c0 : P.cellsOf i = 1) (hC : P.cellsOf e = 2) {fuel : Nat} {cs : List Value} {y : DataW H × List MemPlace}
    (hf : DataW.trod enc P w base spare held fuel e cs = some y) : ∃ a b : Int, cs = [.int .i64 a, .int .i64 b] ∧ (Lit.int .i64 a).wf = true ∧ (Lit.int .i64 b).wf = true := by
  cases fuel with
  | zero => simp [DataW.trod] at hf
  | succ n =>
    rw [DataW.trod_step] at hf
    unfold DataW.trodStep at hf
    simp only [hu] at hf
    by_cases hl : cs.length = P.cellsOf e
    · rw [if_pos hl] at hf
      rw [hC] at hl
      match cs, hl with
      | [x0, x1], _ =>
        simp only [Option.map_eq_some_iff] at hf
        obtain ⟨xs, hx, e1⟩ := hf
        rw [show List.range 2 = [0, 1] from rfl, List.mapM_cons, List.mapM_cons, List.mapM_nil] at hx
        simp only [bind, Option.bind_eq_some_iff, pure, Option.some.injEq, c0] at hx
        obtain ⟨y0, g0, _, ⟨y1, g1, _, rfl, rfl⟩, rfl⟩ := hx
        obtain ⟨a, ea, rfl, wa⟩ := DataW.trod_int h0 g0
        obtain ⟨b, eb, rfl, wb⟩ := DataW.trod_int h0 g1
        simp at ea eb
        subst ea
        subst eb
        exact ⟨a, b, rfl, wa, wb⟩
    · rw [if_neg hl] at hf
      cases hf
theorem open_pairs (ht : P.underlying t = some (.slice e)) (hu : P.underlying e = some (.array 2 i)) (h0 : P.underlying i = some (.int .i64)) (c0 : P.cellsOf i = 1) (hC : P.cellsOf e = 2) {fuel : Nat} {cs : List Value} {x : DataW H × List MemPlace}
    (h : DataW.trod enc P w base spare held fuel t cs = some x) :
    cs = [.slice none 0 0] ∨ ∃ (a : Addr) (len cap : Nat) (zs : List (Int × Int)), cs = [.slice (some a) len cap] ∧ len ≤ cap ∧ cap ≤ maxLen ∧ zs.length = len ∧
      ∀ j, j < len → w.cell? (a.add (j * 2)) = some (.int .i64 (zs.getD j (0, 0)).1) ∧ w.cell? (a.add (j * 2 + 1)) = some (.int .i64 (zs.getD j (0, 0)).2) ∧ (Lit.int .i64 (zs.getD j (0, 0)).1).wf = true ∧ (Lit.int .i64 (zs.getD j (0, 0)).2).wf = true := by
  rcases open_slice ht h with h1 | ⟨a, len, cap, m, n, D, Pl, rfl, hb, hl, hm, hmm, rfl, hx⟩
  · exact Or.inl h1.1
  right
  have hlm : len ≤ m := by rw [hmm]; split <;> omega
  have each : ∀ j, j < m → ∃ q : Int × Int, w.cell? (a.add (j * 2)) = some (.int .i64 q.1) ∧ w.cell? (a.add (j * 2 + 1)) = some (.int .i64 q.2) ∧ (Lit.int .i64 q.1).wf = true ∧ (Lit.int .i64 q.2).wf = true := by
    intro j hj
    obtain ⟨cs', h1, h2⟩ := hx j hj
    rw [hC] at h1
    obtain ⟨_, hlen, hcell⟩ := World.cells?_some h1
    obtain ⟨p, q, rfl, wp, wq⟩ := trod_array2 hu h0 c0 hC h2
    have e0 := hcell 0 (by omega)
    have e1 := hcell 1 (by omega)
    rw [add_add] at e0 e1
    exact ⟨(p, q), by simpa using e0, by simpa using e1, wp, wq⟩
  obtain ⟨q, hq⟩ := choose_lt each
  refine ⟨a, len, cap, (List.range len).map q, rfl, hl, hm, by simp, fun j hj => ?_⟩
  have : ((List.range len).map q).getD j (0, 0) = q j := by
    rw [List.getD_eq_getElem?_getD]
    simp [hj]
  rw [this]
  exact hq j (by omega)
end
end Go.Proofs.Ytmbmpcjlddnpcaa.Pairs
