/- A struct, or an array, of whole numbers as an argument: what its reading says of its value, and back. Plain laws on the reading of values. -/
import Derived.WideKeyPair
set_option linter.unusedVariables false
set_option linter.unusedSimpArgs false
namespace Go.Proofs.Ytbjmoebajdhdoaa.Shapes
open Go.ChangeShapes Go.WideShapes
section
variable {H : Type} {enc : TypeId × Value → H} {P : Program} {W : World} {base : Nat} {sp : Nat → Bool} {held : Bool} {t e : TypeId}
theorem open_struct2 {f0 f1 : Field} (hu : P.underlying t = some (.struct #[f0, f1])) (h0 : P.underlying f0.type = some (.int .i64)) (h1 : P.underlying f1.type = some (.int .i64)) (o0 : f0.offset = 0) (o1 : f1.offset = 1) (c0 : P.cellsOf f0.type = 1) (c1 : P.cellsOf f1.type = 1) (hC : P.cellsOf t = 2) {r : Reach} {b0 : Nat} {v : Value} {d : DataW H} {ps : List MemPlace} (hval : Value.okWide P W r b0 t v) (hd : DataW.Trod enc P W base sp held t v d ps) :
    ∃ a0 a1 : Int, v = .agg #[.int .i64 a0, .int .i64 a1] ∧ d = .agg [.lit (.int .i64 a0), .lit (.int .i64 a1)] ∧ ps = [] ∧ (Lit.int .i64 a0).wf = true ∧ (Lit.int .i64 a1).wf = true := by
  simp only [Value.okWide, hu] at hval
  obtain ⟨cs, rfl, hs, _⟩ := hval
  rw [hC] at hs
  obtain ⟨l⟩ := cs
  match l, hs with
  | [x0, x1], _ =>
  obtain ⟨fuel, hf⟩ := hd
  cases fuel with
  | zero => simp [DataW.trod] at hf
  | succ n =>
    rw [DataW.trod_step] at hf
    unfold DataW.trodStep at hf
    simp only [hu, Value.cells] at hf
    rw [if_pos (by rw [hC]; rfl)] at hf
    simp only [Option.map_eq_some_iff] at hf
    obtain ⟨xs, hx, e1⟩ := hf
    rw [List.mapM_cons, List.mapM_cons, List.mapM_nil] at hx
    simp only [bind, Option.bind_eq_some_iff, pure, Option.some.injEq, o0, c0, o1, c1] at hx
    obtain ⟨y0, g0, _, ⟨y1, g1, _, rfl, rfl⟩, rfl⟩ := hx
    obtain ⟨a0, ea0, rfl, wa0⟩ := DataW.trod_int h0 g0
    obtain ⟨a1, ea1, rfl, wa1⟩ := DataW.trod_int h1 g1
    simp at ea0 ea1
    subst ea0
    subst ea1
    simp only [Prod.mk.injEq] at e1
    exact ⟨a0, a1, rfl, by rw [← e1.1]; rfl, by rw [← e1.2]; rfl, wa0, wa1⟩
theorem shut_struct2 {f0 f1 : Field} (hu : P.underlying t = some (.struct #[f0, f1])) (h0 : P.underlying f0.type = some (.int .i64)) (h1 : P.underlying f1.type = some (.int .i64)) (o0 : f0.offset = 0) (o1 : f1.offset = 1) (c0 : P.cellsOf f0.type = 1) (c1 : P.cellsOf f1.type = 1) (hC : P.cellsOf t = 2) {a0 a1 : Int} (wa0 : (Lit.int .i64 a0).wf = true) (wa1 : (Lit.int .i64 a1).wf = true) :
    DataW.Trod enc P W base sp held t (.agg #[.int .i64 a0, .int .i64 a1]) (.agg [.lit (.int .i64 a0), .lit (.int .i64 a1)]) [] :=
  ⟨2, by
    show DataW.trod enc P W base sp held (1 + 1) t [.int .i64 a0, .int .i64 a1] = _
    rw [DataW.trod_step]
    unfold DataW.trodStep
    simp only [hu]
    rw [if_pos (by rw [hC]; rfl), List.mapM_cons, List.mapM_cons, List.mapM_nil]
    simp [o0, c0, o1, c1, DataW.trod, h0, h1, wa0, wa1]⟩
theorem open_struct3 {f0 f1 f2 : Field} (hu : P.underlying t = some (.struct #[f0, f1, f2])) (h0 : P.underlying f0.type = some (.int .i64)) (h1 : P.underlying f1.type = some (.int .i64)) (h2 : P.underlying f2.type = some (.int .i64)) (o0 : f0.offset = 0) (o1 : f1.offset = 1) (o2 : f2.offset = 2) (c0 : P.cellsOf f0.type = 1) (c1 : P.cellsOf f1.type = 1) (c2 : P.cellsOf f2.type = 1) (hC : P.cellsOf t = 3) {r : Reach} {b0 : Nat} {v : Value} {d : DataW H} {ps : List MemPlace} (hval : Value.okWide P W r b0 t v) (hd : DataW.Trod enc P W base sp held t v d ps) :
    ∃ a0 a1 a2 : Int, v = .agg #[.int .i64 a0, .int .i64 a1, .int .i64 a2] ∧ d = .agg [.lit (.int .i64 a0), .lit (.int .i64 a1), .lit (.int .i64 a2)] ∧ ps = [] ∧ (Lit.int .i64 a0).wf = true ∧ (Lit.int .i64 a1).wf = true ∧ (Lit.int .i64 a2).wf = true := by
  simp only [Value.okWide, hu] at hval
  obtain ⟨cs, rfl, hs, _⟩ := hval
  rw [hC] at hs
  obtain ⟨l⟩ := cs
  match l, hs with
  | [x0, x1, x2], _ =>
  obtain ⟨fuel, hf⟩ := hd
  cases fuel with
  | zero => simp [DataW.trod] at hf
  | succ n =>
    rw [DataW.trod_step] at hf
    unfold DataW.trodStep at hf
    simp only [hu, Value.cells] at hf
    rw [if_pos (by rw [hC]; rfl)] at hf
    simp only [Option.map_eq_some_iff] at hf
    obtain ⟨xs, hx, e1⟩ := hf
    rw [List.mapM_cons, List.mapM_cons, List.mapM_cons, List.mapM_nil] at hx
    simp only [bind, Option.bind_eq_some_iff, pure, Option.some.injEq, o0, c0, o1, c1, o2, c2] at hx
    obtain ⟨y0, g0, _, ⟨y1, g1, _, ⟨y2, g2, _, rfl, rfl⟩, rfl⟩, rfl⟩ := hx
    obtain ⟨a0, ea0, rfl, wa0⟩ := DataW.trod_int h0 g0
    obtain ⟨a1, ea1, rfl, wa1⟩ := DataW.trod_int h1 g1
    obtain ⟨a2, ea2, rfl, wa2⟩ := DataW.trod_int h2 g2
    simp at ea0 ea1 ea2
    subst ea0
    subst ea1
    subst ea2
    simp only [Prod.mk.injEq] at e1
    exact ⟨a0, a1, a2, rfl, by rw [← e1.1]; rfl, by rw [← e1.2]; rfl, wa0, wa1, wa2⟩
theorem shut_struct3 {f0 f1 f2 : Field} (hu : P.underlying t = some (.struct #[f0, f1, f2])) (h0 : P.underlying f0.type = some (.int .i64)) (h1 : P.underlying f1.type = some (.int .i64)) (h2 : P.underlying f2.type = some (.int .i64)) (o0 : f0.offset = 0) (o1 : f1.offset = 1) (o2 : f2.offset = 2) (c0 : P.cellsOf f0.type = 1) (c1 : P.cellsOf f1.type = 1) (c2 : P.cellsOf f2.type = 1) (hC : P.cellsOf t = 3) {a0 a1 a2 : Int} (wa0 : (Lit.int .i64 a0).wf = true) (wa1 : (Lit.int .i64 a1).wf = true) (wa2 : (Lit.int .i64 a2).wf = true) :
    DataW.Trod enc P W base sp held t (.agg #[.int .i64 a0, .int .i64 a1, .int .i64 a2]) (.agg [.lit (.int .i64 a0), .lit (.int .i64 a1), .lit (.int .i64 a2)]) [] :=
  ⟨2, by
    show DataW.trod enc P W base sp held (1 + 1) t [.int .i64 a0, .int .i64 a1, .int .i64 a2] = _
    rw [DataW.trod_step]
    unfold DataW.trodStep
    simp only [hu]
    rw [if_pos (by rw [hC]; rfl), List.mapM_cons, List.mapM_cons, List.mapM_cons, List.mapM_nil]
    simp [o0, c0, o1, c1, o2, c2, DataW.trod, h0, h1, h2, wa0, wa1, wa2]⟩
theorem open_array2  (hu : P.underlying t = some (.array 2 e)) (h0 : P.underlying e = some (.int .i64)) (c0 : P.cellsOf e = 1) (hC : P.cellsOf t = 2) {r : Reach} {b0 : Nat} {v : Value} {d : DataW H} {ps : List MemPlace} (hval : Value.okWide P W r b0 t v) (hd : DataW.Trod enc P W base sp held t v d ps) :
    ∃ a0 a1 : Int, v = .agg #[.int .i64 a0, .int .i64 a1] ∧ d = .agg [.lit (.int .i64 a0), .lit (.int .i64 a1)] ∧ ps = [] ∧ (Lit.int .i64 a0).wf = true ∧ (Lit.int .i64 a1).wf = true := by
  simp only [Value.okWide, hu] at hval
  obtain ⟨cs, rfl, hs, _⟩ := hval
  rw [hC] at hs
  obtain ⟨l⟩ := cs
  match l, hs with
  | [x0, x1], _ =>
  obtain ⟨fuel, hf⟩ := hd
  cases fuel with
  | zero => simp [DataW.trod] at hf
  | succ n =>
    rw [DataW.trod_step] at hf
    unfold DataW.trodStep at hf
    simp only [hu, Value.cells] at hf
    rw [if_pos (by rw [hC]; rfl)] at hf
    simp only [Option.map_eq_some_iff] at hf
    obtain ⟨xs, hx, e1⟩ := hf
    rw [show List.range 2 = [0, 1] from rfl, List.mapM_cons, List.mapM_cons, List.mapM_nil] at hx
    simp only [bind, Option.bind_eq_some_iff, pure, Option.some.injEq, c0] at hx
    obtain ⟨y0, g0, _, ⟨y1, g1, _, rfl, rfl⟩, rfl⟩ := hx
    obtain ⟨a0, ea0, rfl, wa0⟩ := DataW.trod_int h0 g0
    obtain ⟨a1, ea1, rfl, wa1⟩ := DataW.trod_int h0 g1
    simp at ea0 ea1
    subst ea0
    subst ea1
    simp only [Prod.mk.injEq] at e1
    exact ⟨a0, a1, rfl, by rw [← e1.1]; rfl, by rw [← e1.2]; rfl, wa0, wa1⟩
theorem shut_array2  (hu : P.underlying t = some (.array 2 e)) (h0 : P.underlying e = some (.int .i64)) (c0 : P.cellsOf e = 1) (hC : P.cellsOf t = 2) {a0 a1 : Int} (wa0 : (Lit.int .i64 a0).wf = true) (wa1 : (Lit.int .i64 a1).wf = true) :
    DataW.Trod enc P W base sp held t (.agg #[.int .i64 a0, .int .i64 a1]) (.agg [.lit (.int .i64 a0), .lit (.int .i64 a1)]) [] :=
  ⟨2, by
    show DataW.trod enc P W base sp held (1 + 1) t [.int .i64 a0, .int .i64 a1] = _
    rw [DataW.trod_step]
    unfold DataW.trodStep
    simp only [hu]
    rw [if_pos (by rw [hC]; rfl), show List.range 2 = [0, 1] from rfl, List.mapM_cons, List.mapM_cons, List.mapM_nil]
    simp [c0, DataW.trod, h0, wa0, wa1]⟩
theorem open_array4  (hu : P.underlying t = some (.array 4 e)) (h0 : P.underlying e = some (.int .i64)) (c0 : P.cellsOf e = 1) (hC : P.cellsOf t = 4) {r : Reach} {b0 : Nat} {v : Value} {d : DataW H} {ps : List MemPlace} (hval : Value.okWide P W r b0 t v) (hd : DataW.Trod enc P W base sp held t v d ps) :
    ∃ a0 a1 a2 a3 : Int, v = .agg #[.int .i64 a0, .int .i64 a1, .int .i64 a2, .int .i64 a3] ∧ d = .agg [.lit (.int .i64 a0), .lit (.int .i64 a1), .lit (.int .i64 a2), .lit (.int .i64 a3)] ∧ ps = [] ∧ (Lit.int .i64 a0).wf = true ∧ (Lit.int .i64 a1).wf = true ∧ (Lit.int .i64 a2).wf = true ∧ (Lit.int .i64 a3).wf = true := by
  simp only [Value.okWide, hu] at hval
  obtain ⟨cs, rfl, hs, _⟩ := hval
  rw [hC] at hs
  obtain ⟨l⟩ := cs
  match l, hs with
  | [x0, x1, x2, x3], _ =>
  obtain ⟨fuel, hf⟩ := hd
  cases fuel with
  | zero => simp [DataW.trod] at hf
  | succ n =>
    rw [DataW.trod_step] at hf
    unfold DataW.trodStep at hf
    simp only [hu, Value.cells] at hf
    rw [if_pos (by rw [hC]; rfl)] at hf
    simp only [Option.map_eq_some_iff] at hf
    obtain ⟨xs, hx, e1⟩ := hf
    rw [show List.range 4 = [0, 1, 2, 3] from rfl, List.mapM_cons, List.mapM_cons, List.mapM_cons, List.mapM_cons, List.mapM_nil] at hx
    simp only [bind, Option.bind_eq_some_iff, pure, Option.some.injEq, c0] at hx
    obtain ⟨y0, g0, _, ⟨y1, g1, _, ⟨y2, g2, _, ⟨y3, g3, _, rfl, rfl⟩, rfl⟩, rfl⟩, rfl⟩ := hx
    obtain ⟨a0, ea0, rfl, wa0⟩ := DataW.trod_int h0 g0
    obtain ⟨a1, ea1, rfl, wa1⟩ := DataW.trod_int h0 g1
    obtain ⟨a2, ea2, rfl, wa2⟩ := DataW.trod_int h0 g2
    obtain ⟨a3, ea3, rfl, wa3⟩ := DataW.trod_int h0 g3
    simp at ea0 ea1 ea2 ea3
    subst ea0
    subst ea1
    subst ea2
    subst ea3
    simp only [Prod.mk.injEq] at e1
    exact ⟨a0, a1, a2, a3, rfl, by rw [← e1.1]; rfl, by rw [← e1.2]; rfl, wa0, wa1, wa2, wa3⟩
theorem shut_array4  (hu : P.underlying t = some (.array 4 e)) (h0 : P.underlying e = some (.int .i64)) (c0 : P.cellsOf e = 1) (hC : P.cellsOf t = 4) {a0 a1 a2 a3 : Int} (wa0 : (Lit.int .i64 a0).wf = true) (wa1 : (Lit.int .i64 a1).wf = true) (wa2 : (Lit.int .i64 a2).wf = true) (wa3 : (Lit.int .i64 a3).wf = true) :
    DataW.Trod enc P W base sp held t (.agg #[.int .i64 a0, .int .i64 a1, .int .i64 a2, .int .i64 a3]) (.agg [.lit (.int .i64 a0), .lit (.int .i64 a1), .lit (.int .i64 a2), .lit (.int .i64 a3)]) [] :=
  ⟨2, by
    show DataW.trod enc P W base sp held (1 + 1) t [.int .i64 a0, .int .i64 a1, .int .i64 a2, .int .i64 a3] = _
    rw [DataW.trod_step]
    unfold DataW.trodStep
    simp only [hu]
    rw [if_pos (by rw [hC]; rfl), show List.range 4 = [0, 1, 2, 3] from rfl, List.mapM_cons, List.mapM_cons, List.mapM_cons, List.mapM_cons, List.mapM_nil]
    simp [c0, DataW.trod, h0, wa0, wa1, wa2, wa3]⟩
end
end Go.Proofs.Ytbjmoebajdhdoaa.Shapes
