/- The statement CliqueCounts holds at every input: the row out of its pure law and its walk; no conditions. (After the rows that wip/myprint.py lays for other laws; its slice of arrays is opened by <Name>Pairs.lean.) -/
import Derived.Test.YtmbmpcjlddnpcaaRows
import Derived.Test.YtmbmpcjlddnpcaaPBx4
import Derived.Test.YtmbmpcjlddnpcaaPureCliqueCounts
import Derived.Test.YtmbmpcjlddnpcaaPairs
import Derived.WalkKit
import Derived.ProofKit
import Derived.OpenShut
import Derived.ShutString
import Derived.ChangeOld
import Derived.Below
import Derived.SizedLaws
namespace Go.Proofs.Ytmbmpcjlddnpcaa.cliqueCounts
open Go.ChangeShapes Go.WideShapes Go.ChangeAt Go.RowKit Go.Proofs.YtmbmpcjlddnpcaaW.PrintWords
set_option linter.unusedVariables false
theorem own : ownKnob Try.prog.godebug = none := by kernel_rfl
theorem laidOut : laidOutB Try.prog = true := by kernel_rfl
/-- The row that came in: its list, what its cells hold, its elements' bounds. -/
def IsRow (w : World) (A : Option Addr) (len cap : Nat) (l : List PB.S38) : Prop :=
  Kd.C PB.k38 w A len l ∧ l.length = len ∧ len ≤ cap ∧ len ≤ 9223372036854775807 ∧ ∀ x ∈ l, (Lit.int .i64 x.f0).wf = true ∧ (Lit.int .i64 x.f1).wf = true
theorem row_of (w : World) (a : Addr) (len cap : Nat) (zs : List (Int × Int)) (hl : len ≤ cap) (hm : cap ≤ maxLen) (hz : zs.length = len)
    (hc : ∀ j, j < len → w.cell? (a.add (j * 2)) = some (.int .i64 (zs.getD j (0, 0)).1) ∧ w.cell? (a.add (j * 2 + 1)) = some (.int .i64 (zs.getD j (0, 0)).2) ∧ (Lit.int .i64 (zs.getD j (0, 0)).1).wf = true ∧ (Lit.int .i64 (zs.getD j (0, 0)).2).wf = true) :
    IsRow w (some a) len cap (zs.map fun z => ⟨z.1, z.2⟩) := by
  have hmax : maxLen ≤ 9223372036854775807 := by decide
  have hget : ∀ j (h : j < zs.length), zs.getD j (0, 0) = zs[j] := fun j h => by
    rw [List.getD_eq_getElem?_getD, List.getElem?_eq_getElem h]
    rfl
  refine ⟨⟨by rw [List.length_map]; exact hz, by omega, fun _ => ⟨a, rfl, fun j p hp => ?_⟩⟩, by rw [List.length_map]; exact hz, hl, by omega, fun x hx => ?_⟩
  · rw [List.getElem?_map, Option.map_eq_some_iff] at hp
    obtain ⟨z, hz1, rfl⟩ := hp
    obtain ⟨hj, rfl⟩ := List.getElem?_eq_some_iff.1 hz1
    have h := hc j (by omega)
    rw [hget j hj] at h
    refine ⟨_, rfl, PB.k38_mk w ⟨zs[j].1, zs[j].2⟩, fun i u hu => ?_⟩
    match i, hu with
    | 0, hu =>
      obtain rfl : Value.int .i64 zs[j].1 = u := by simpa using hu
      exact h.1
    | 1, hu =>
      obtain rfl : Value.int .i64 zs[j].2 = u := by simpa using hu
      exact h.2.1
    | i + 2, hu => simp at hu
  · obtain ⟨z, hz1, rfl⟩ := List.mem_map.1 hx
    obtain ⟨j, hj, rfl⟩ := List.mem_iff_getElem.1 hz1
    have h := hc j (by omega)
    rw [hget j hj] at h
    exact ⟨h.2.2.1, h.2.2.2⟩
set_option maxRecDepth 100000 in
theorem lifted (os : Os) (started : os.Started) (H : Type) (enc : TypeId × Value → H) :
    ReturnsInHanded {} Try.checked os 6 .any (Rows.cliqueCountsSpec.pre6 enc Try.prog Try.f6 Rows.cliqueCountsRow.domain false) (Rows.cliqueCountsSpec.post enc Try.prog Try.f6 false true false false) := by
  refine returnsInHanded_of_change_sized (C := Try.checked) own started (by kernel_rfl) Try.func6
    (ChangeSpec.witness6 (enc := enc) (C := Try.checked) false ⟨#[], #[.slice none 0 0], []⟩ 8 (by kernel_rfl) (by kernel_rfl) (by kernel_rfl) (by kernel_rfl)) ?_
  intro W base args ds gs before hval0 hW hcnd hsz0 _
  have hval : ∀ (j : Nat) t v, Try.f6.params[j]? = some t → args[j]? = some v → Value.okWide Try.prog W .any base t v := hval0
  have hW' := hW
  obtain ⟨p, q, hA0, hV, rfl, hfz, hnd⟩ := hW
  have hA : DataW.TrodAll enc Try.prog W 0 (fun _ => true) true Try.f6.params.toList args.toList ds p := hA0
  rw [Try.params6] at hA hval
  obtain ⟨v0, vs0, d0, ds0, p0, q0, hargs, rfl, rfl, h0, r0⟩ := trodAll_cons hA
  obtain ⟨rfl, rfl, rfl⟩ := trodAll_nil r0
  obtain rfl : args = #[v0] := by cases args; simp_all
  obtain ⟨rfl, rfl⟩ := trodVars_none hV
  obtain ⟨a0, len0, cap0, rfl⟩ := okWide_slice Try.underlying37 (hval 0 37 v0 rfl rfl)
  have k0 := h0
  have lt0 : ∀ x ∈ p0, x.block < W.heap.size := by obtain ⟨m, hm⟩ := k0; exact DataW.trod_lt m _ _ _ hm
  obtain ⟨l, hC, hlen, hcap, hmax, hwf⟩ : ∃ l, IsRow W a0 len0 cap0 l := by
    obtain ⟨fuel, hf⟩ := h0
    rcases Pairs.open_pairs Try.underlying37 Try.underlying38 Try.underlying3 (by kernel_rfl) (by kernel_rfl) hf with hcs | ⟨x, l, c, zs, hcs, hl, hm, hz, hcell⟩
    · simp [Value.cells] at hcs
      obtain ⟨rfl, rfl, rfl⟩ := hcs
      exact ⟨[], ⟨rfl, by omega, fun h => absurd h (by omega)⟩, rfl, by omega, by omega, fun x hx => by cases hx⟩
    · simp [Value.cells] at hcs
      obtain ⟨rfl, rfl, rfl⟩ := hcs
      exact ⟨_, row_of W _ _ _ zs hl hm hz hcell⟩
  subst hlen
  clear hA0 hval0 hsz0
  obtain ⟨k, hk⟩ := Pure.CliqueCounts l (by omega) hwf
  refine (PB.omnibuslaw12_CliqueCounts.calls k a0 cap0 l true W hC hcap hk).mono fun e W' ⟨he, bel⟩ => ?_
  subst he
  exact ⟨_, rfl, _, _, _, [], _, [], hW', trodAll_mk1 (shut_bool Try.underlying4 _), (trodAll_cons_mk (Below.trod laidOut (by kernel_rfl) (of_decide_eq_true (by kernel_rfl)) k0 bel lt0) trodAll_mk0), rfl, bel.frame _, fun h => by cases h⟩
theorem over : Rows.cliqueCountsRow.holds Try.pinned (OpenSpec.ofChange Rows.cliqueCountsSpec) :=
  OpenClaim.holds_of_wide 6 Try.f6 rfl rfl rfl rfl rfl rfl rfl ⟨rfl, rfl, rfl, rfl, rfl⟩ rfl rfl rfl rfl rfl (by kernel_rfl) Try.func6 (by kernel_rfl)
    (of_decide_eq_true (by kernel_rfl)) (by unfold Func.isWrapper; first | (rw [if_pos (by decide +kernel)]; kernel_rfl) | (rw [if_neg (by decide +kernel)]; exact ⟨rfl, rfl⟩))
    (fun os started H enc _ => lifted os started H enc)
theorem proved : Rows.CliqueCountsSaid := over
#print axioms proved
end Go.Proofs.Ytmbmpcjlddnpcaa.cliqueCounts
namespace Go.Proofs.Ytmbmpcjlddnpcaa
/-- The row, under a short name, for the claim. -/
theorem cliqueCounts_holds : Rows.CliqueCountsSaid := cliqueCounts.proved
end Go.Proofs.Ytmbmpcjlddnpcaa
