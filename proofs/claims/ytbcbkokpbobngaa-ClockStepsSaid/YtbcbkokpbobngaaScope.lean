/- A scope whose code is one piece, a label and what follows it, with jumps back to that label: what holds at every jump, and a number that every pass lowers. Plain consequences of the kit's wp_scope_jumps. -/
import Derived.ScopeJumps
import Derived.Deep.LoopGhost
namespace Go.Proofs.Ytbcbkokpbobngaa
open Go
section
variable {P : Program} {Q : Exit → Act → World → Prop} {a : Act} {w : World}
def NoExit : Exit → Act → World → Prop := fun _ _ _ => False
theorem wp_scope_ghost {X rest : Code} (l : Nat) (I : Nat → Act → World → Prop) (n₀ : Nat)
    (hX : findLabel X l = none)
    (first : ∀ (J : Nat → Act → World → Prop) (K : Act → World → Prop), (∀ k a' w', I k a' w' → J k a' w') → (∀ a' w', Handed J (n₀ + 1) a' w' → K a' w') → X.wp P (Exit.then K NoExit) a w)
    (round : ∀ n a w, I n a w → ∀ (J : Nat → Act → World → Prop) (K : Act → World → Prop), (∀ k a' w', I k a' w' → J k a' w') → (∀ a' w', Handed J n a' w' → K a' w') → rest.wp P (Exit.jump l K Q) a w) :
    (Code.scope (X.seq ((Code.label l).seq rest))).wp P Q a w := by
  have hf : findLabel (X.seq ((Code.label l).seq rest)) l = some (Code.skip.seq rest) := by simp [findLabel, hX]
  have pass : ∀ a w, (∃ n, I n a w) → rest.wp P (Exit.jump l (fun a' w' => (∃ n, I n a' w') ∧ leastOf (fun n => I n a' w') < leastOf (fun n => I n a w)) Q) a w := by
    intro a w hI
    refine wp_mono (round _ a w (leastOf_spec hI).1 I _ (fun _ _ _ q => q) (fun _ _ q => q)) ?_
    intro e a' w' hq
    cases e with
    | normal => exact hq
    | exit id => exact hq
    | goto l' =>
      obtain ⟨h1, n', hlt, hI'⟩ := hq
      exact ⟨h1, ⟨n', hI'⟩, Nat.lt_of_le_of_lt ((leastOf_spec ⟨n', hI'⟩).2 n' hI') hlt⟩
    | ret => exact hq
    | panic ch => exact hq
    | outgrown => exact hq
  refine wp_scope_jumps l (fun a w => ∃ n, I n a w) (fun a w => leastOf (fun n => I n a w)) hf ?_ (fun a w h => wp_seq (wp_skip (pass a w h)))
  refine wp_seq (wp_mono (first I _ (fun _ _ _ h => h) (fun _ _ h => h)) ?_)
  intro e a2 w2 hq
  cases e with
  | normal =>
    refine wp_seq (wp_label ?_)
    exact wp_mono (pass a2 w2 (hq.elim fun n h => ⟨n, h.2⟩)) (by
      intro e a' w' hq
      cases e with
      | goto l' => exact ⟨hq.1, hq.2.1⟩
      | normal => exact hq
      | exit id => exact hq
      | ret => exact hq
      | panic ch => exact hq
      | outgrown => exact hq)
  | goto l' => exact hq.elim
  | exit id => exact hq.elim
  | ret => exact hq.elim
  | panic ch => exact hq.elim
  | outgrown => exact hq.elim
end
end Go.Proofs.Ytbcbkokpbobngaa
