-- Laid by a program of this session (wip/myprint.py, over the kit's print.py), not by print.sh.
import Derived.Test.YtmbmpcjlddnpcaaPGx0
namespace Go.Proofs.Ytmbmpcjlddnpcaa.PG
open Go.RowKit Go.Proofs.YtmbmpcjlddnpcaaW.PrintWords Go.Proofs.YtmbmpcjlddnpcaaW.PrintLast Go.Proofs.YtmbmpcjlddnpcaaW.PrintMore
attribute [local go_sem] max2_int min2_int max_two min_two max_three min_three max_four min_four   -- for this text's walks alone
set_option linter.unusedVariables false
set_option linter.unusedSimpArgs false

/-! ### vec_node: function 31 -/
def vec_node.f (a0 : Int) : Option (Bool) := if a0 ≥ 0 then (some (decide (a0 < 16))) else (some false)
set_option maxHeartbeats 8000000 in
set_option maxRecDepth 100000 in
theorem vec_node.calls (a0 : Int) (r : Bool) (w : World) (h : vec_node.f a0 = some r) :
    Calls Try.prog 31 #[.int .i64 a0] w fun e w' => e = .returned (.bool r) ∧ Drawn0 w w' := by
  have H : (if a0 ≥ 0 then (some (decide (a0 < 16))) else (some false)) = some r := h
  clear h
  by_cases c2 : a0 ≥ 0
  · rw [if_pos c2] at H
    have c2b0 : decide (0 ≤ a0) = true := decide_eq_true c2
    clear c2
    obtain rfl := Option.some.inj H
    go_enter Try.func31, Try.ntmps31
    go_wp2
    go_ret
    exact ⟨by first | rfl | (simp; done) | (simp [*]; done), by repeat (first | exact Drawn0.refl _ | apply Drawn0.step)⟩
  · rw [if_neg c2] at H
    have c2b0 : decide (0 ≤ a0) = false := decide_eq_false c2
    clear c2
    obtain rfl := Option.some.inj H
    go_enter Try.func31, Try.ntmps31
    go_wp2
    go_ret
    exact ⟨by first | rfl | (simp; done) | (simp [*]; done), by repeat (first | exact Drawn0.refl _ | apply Drawn0.step)⟩

/-! ### vec_cut: function 32 -/
def vec_cut.f (a0 : Int) : Option (Int) := some (Go.bits .and .i64 a0 65535)
set_option maxHeartbeats 8000000 in
set_option maxRecDepth 100000 in
theorem vec_cut.calls (a0 : Int) (r : Int) (w : World) (h : vec_cut.f a0 = some r) :
    Calls Try.prog 32 #[.int .i64 a0] w fun e w' => e = .returned (.int .i64 r) ∧ Drawn0 w w' := by
  have H : (some (Go.bits .and .i64 a0 65535)) = some r := h
  clear h
  obtain rfl := Option.some.inj H
  go_enter Try.func32, Try.ntmps32
  go_wp2
  go_ret
  exact ⟨by first | rfl | (simp; done) | (simp [*]; done), by repeat (first | exact Drawn0.refl _ | apply Drawn0.step)⟩

/-! ### vec_With: function 27 -/
def vec_With.f (a0 : Int) (a1 : Int) : Option (Int) := (vec_node.f a1).bind fun t101 => (if t101 = true then (if 0 ≤ a1 then ((vec_cut.f (Go.bits .or .i64 a0 (shl .i64 1 a1))).bind fun t102 => (some t102)) else (none)) else ((vec_cut.f a0).bind fun t103 => (some t103)))
set_option maxHeartbeats 8000000 in
set_option maxRecDepth 100000 in
theorem vec_With.calls (a0 : Int) (a1 : Int) (r : Int) (w : World) (h : vec_With.f a0 a1 = some r) :
    Calls Try.prog 27 #[.int .i64 a0, .int .i64 a1] w fun e w' => e = .returned (.int .i64 r) ∧ Drawn0 w w' := by
  have H : ((vec_node.f a1).bind fun t101 => (if t101 = true then (if 0 ≤ a1 then ((vec_cut.f (Go.bits .or .i64 a0 (shl .i64 1 a1))).bind fun t102 => (some t102)) else (none)) else ((vec_cut.f a0).bind fun t103 => (some t103)))) = some r := h
  clear h
  replace H := Option.bind_eq_some_iff.mp H
  obtain ⟨t101, A30, H⟩ := H
  replace H : (if t101 = true then (if 0 ≤ a1 then ((vec_cut.f (Go.bits .or .i64 a0 (shl .i64 1 a1))).bind fun t102 => (some t102)) else (none)) else ((vec_cut.f a0).bind fun t103 => (some t103))) = some r := H
  have A3 := Aside0.mk A30
  clear A30
  by_cases c4 : t101 = true
  · subst c4
    have H1 : (if 0 ≤ a1 then ((vec_cut.f (Go.bits .or .i64 a0 (shl .i64 1 a1))).bind fun t102 => (some t102)) else (none)) = some r := by rw [if_pos rfl] at H; exact H
    clear H
    have H := H1
    clear H1
    by_cases c5 : 0 ≤ a1
    · rw [if_pos c5] at H
      have c5b0 := eq_true c5
      have c5b1 : decide (0 ≤ a1) = true := decide_eq_true c5
      clear c5
      obtain ⟨ji6, hji6⟩ : ∃ j_ : Int, (shl .i64 1 a1) = j_ := ⟨_, rfl⟩
      replace H : ((vec_cut.f (Go.bits .or .i64 a0 (ji6))).bind fun t102 => (some t102)) = some r := by first | (rw [hji6] at H; exact H) | (simp only [hji6] at H ⊢; exact H)
      (try rw [hji6] at A3)
      have hji6_ : (IntKind.i64.wrap (1 * 2 ^ min a1.toNat 64)) = ji6 := hji6
      have hji6z : a1 ≤ 64 → (IntKind.i64.wrap (1 * 2 ^ a1.toNat)) = ji6 := shl_small hji6
      have hji6u : (IntKind.i64.wrap (2 ^ min a1.toNat 64)) = ji6 := by have h_ := hji6_; rw [Int.one_mul] at h_; exact h_
      have hji6v : a1 ≤ 64 → (IntKind.i64.wrap (2 ^ a1.toNat)) = ji6 := fun hle_ => by have h_ := hji6z hle_; rw [Int.one_mul] at h_; exact h_
      have hji6y : (wrap64 (1 * 2 ^ min a1.toNat 64)) = ji6 := (i64_w _).symm.trans hji6_
      have hji6x : a1 ≤ 64 → (wrap64 (1 * 2 ^ a1.toNat)) = ji6 := fun h_ => (i64_w _).symm.trans (hji6z h_)
      replace H := Option.bind_eq_some_iff.mp H
      obtain ⟨t102, A70, H⟩ := H
      replace H : (some t102) = some r := H
      have A7 := Aside0.mk A70
      clear A70
      obtain rfl := Option.some.inj H
      go_enter Try.func27, Try.ntmps27
      go_wp2_with (first | ((with_reducible refine gate_callee (f := 31) rfl ?_); refine goesL_ (some 6) rfl rfl Try.func31 (by kernel_rfl) rfl #[.int .i64 a1] rfl (by (try simp only [List.map_toArray, List.map_cons, List.map_nil]); first | done | rfl | (simp only [List.length_drop, List.length_take]; rfl)) ?_; (with_reducible refine (vec_node.calls a1 true _ A3.out).mono ?_); rintro e w' ⟨rfl, ⟨nd, rfl⟩⟩; refine ⟨_, rfl, ?_⟩) | ((with_reducible refine gate_callee (f := 32) rfl ?_); refine goesL_ (some 12) rfl rfl Try.func32 (by kernel_rfl) rfl #[.int .i64 (Go.bits .or .i64 a0 (ji6))] rfl (by (try simp only [List.map_toArray, List.map_cons, List.map_nil]); first | done | (simp only [hji6]; rfl) | rfl | (simp only [List.length_drop, List.length_take]; rfl)) ?_; (with_reducible refine (vec_cut.calls (Go.bits .or .i64 a0 (ji6)) t102 _ A7.out).mono ?_); rintro e w' ⟨rfl, ⟨nd, rfl⟩⟩; refine ⟨_, rfl, ?_⟩))
      go_ret
      exact ⟨by first | rfl | (simp; done) | (simp only [← hji6] <;> first | rfl | (simp; done) | (simp [mn, mx]; done)) | (simp [*]; done), by repeat (first | exact Drawn0.refl _ | apply Drawn0.step)⟩
    · rw [if_neg c5] at H
      exact absurd H (by simp)
  · replace c4 := Bool.eq_false_iff.mpr c4
    subst c4
    have H1 : ((vec_cut.f a0).bind fun t103 => (some t103)) = some r := by rw [if_neg (show ¬ (false = true) by decide)] at H; exact H
    clear H
    have H := H1
    clear H1
    replace H := Option.bind_eq_some_iff.mp H
    obtain ⟨t103, A80, H⟩ := H
    replace H : (some t103) = some r := H
    have A8 := Aside0.mk A80
    clear A80
    obtain rfl := Option.some.inj H
    go_enter Try.func27, Try.ntmps27
    go_wp2_with (first | ((with_reducible refine gate_callee (f := 31) rfl ?_); refine goesL_ (some 6) rfl rfl Try.func31 (by kernel_rfl) rfl #[.int .i64 a1] rfl (by (try simp only [List.map_toArray, List.map_cons, List.map_nil]); first | done | rfl | (simp only [List.length_drop, List.length_take]; rfl)) ?_; (with_reducible refine (vec_node.calls a1 false _ A3.out).mono ?_); rintro e w' ⟨rfl, ⟨nd, rfl⟩⟩; refine ⟨_, rfl, ?_⟩) | ((with_reducible refine gate_callee (f := 32) rfl ?_); refine goesL_ (some 12) rfl rfl Try.func32 (by kernel_rfl) rfl #[.int .i64 a0] rfl (by (try simp only [List.map_toArray, List.map_cons, List.map_nil]); first | done | rfl | (simp only [List.length_drop, List.length_take]; rfl)) ?_; (with_reducible refine (vec_cut.calls a0 t103 _ A8.out).mono ?_); rintro e w' ⟨rfl, ⟨nd, rfl⟩⟩; refine ⟨_, rfl, ?_⟩))
    go_ret
    exact ⟨by first | rfl | (simp; done) | (simp [*]; done), by repeat (first | exact Drawn0.refl _ | apply Drawn0.step)⟩


/-! ### a map of functions: a store at a new key; a look-up -/
theorem map_store {P : Program} {w : World} {t k e : TypeId} {q : IntKind} (ht : P.underlying t = some (.map k e)) (hk : P.underlying k = some (.int q)) (b : Nat) (es : Array MapEntry) (clock : Nat) (hb : w.heap[b]? = some (.map es clock)) (x : Int) (v : Value)
    (hf : Instr.findNow (.int q) (.int q x) es.toList 0 = some none) :
    ∃ w1, (Instr.mapUpdate t (.map (some b)) (.int q x) v).run P w = .ok () w1 ∧ w1.heap[b]? = some (.map (es.push { key := .int q x, val := v, born := clock }) (clock + 1)) ∧ ∀ B, B ≤ b → Below B w w1 := by
  have hc : (Instr.checkKey false 10000 k (.int q x)).run P w = .ok () w := MapKept.run_checkKey (k := .int q x) hk rfl false 9999
  refine ⟨{ w with heap := w.heap.setIfInBounds b (.map (es.push { key := .int q x, val := v, born := clock }) (clock + 1)) }, ?_, (MapKept.heap_set hb).1, fun B hB => ⟨rfl, rfl, rfl, by simp, fun j hj => (MapKept.heap_set hb).2 j (by omega)⟩⟩
  simp [Instr.mapUpdate, run_underlying ht, MapKept.run_getObj_map hb, hc, MapKept.run_findKey hk hf, MapKept.run_setObj_map _ hb, Result.andThen]
theorem map_look {P : Program} {w : World} {t k e : TypeId} {q : IntKind} (ht : P.underlying t = some (.map k e)) (hk : P.underlying k = some (.int q)) (b : Nat) (es : Array MapEntry) (clock : Nat) (hb : w.heap[b]? = some (.map es clock)) (x : Int)
    (i : Nat) (v : Value) (hf : Instr.findNow (.int q) (.int q x) es.toList 0 = some (some (i, v))) :
    (Instr.lookup t (.map (some b)) (.int q x) true).run P w = .ok (.tuple #[v, .bool true]) w := by
  have hc : (Instr.checkKey es.isEmpty 10000 k (.int q x)).run P w = .ok () w := MapKept.run_checkKey (k := .int q x) hk rfl es.isEmpty 9999
  simp [Instr.lookup, run_underlying ht, MapKept.run_getObj_map hb, hc, MapKept.run_findKey hk hf, Result.andThen]
theorem map_miss {P : Program} {w : World} {t k e : TypeId} {q : IntKind} (ht : P.underlying t = some (.map k e)) (hk : P.underlying k = some (.int q)) (b : Nat) (es : Array MapEntry) (clock : Nat) (hb : w.heap[b]? = some (.map es clock)) (x : Int)
    (z : Value) (hz : (zeroValue e).run P w = .ok z w) (hf : Instr.findNow (.int q) (.int q x) es.toList 0 = some none) :
    (Instr.lookup t (.map (some b)) (.int q x) true).run P w = .ok (.tuple #[z, .bool false]) w := by
  have hc : (Instr.checkKey es.isEmpty 10000 k (.int q x)).run P w = .ok () w := MapKept.run_checkKey (k := .int q x) hk rfl es.isEmpty 9999
  simp [Instr.lookup, run_underlying ht, MapKept.run_getObj_map hb, hc, MapKept.run_findKey hk hf, hz, Result.andThen]
/-- What slots() hands back. -/
def slotRow : Array MapEntry := #[{ key := .int .i64 1, val := .func (.func 28) #[] #[], born := 0 }, { key := .int .i64 2, val := .func (.func 29) #[] #[], born := 1 }]


set_option maxHeartbeats 1000000 in
theorem clq_slots (w : World) :
    Calls Try.prog 24 #[] w fun e w' => ∃ b : Nat, e = .returned (.map (some b)) ∧ w.heap.size ≤ b ∧ w'.heap[b]? = some (.map slotRow 2) ∧ Below w.heap.size w w' := by
  have hmm := @run_makeMap Try.prog
  have hb0 : (w.alloc (.map #[] 0)).heap[w.heap.size]? = some (.map #[] 0) := (MapKept.heap_alloc w _).1
  have HB0 : Below w.heap.size w (w.alloc (.map #[] 0)) := (Below.refl _ w).alloc (Nat.le_refl _) _
  obtain ⟨w1, h1, hb1, B1⟩ := map_store (P := Try.prog) Try.underlying45 Try.underlying3 w.heap.size #[] 0 hb0 1 (.func (.func 28) #[] #[]) rfl
  obtain ⟨w2, h2, hb2, B2⟩ := map_store (P := Try.prog) Try.underlying45 Try.underlying3 w.heap.size _ 1 hb1 2 (.func (.func 29) #[] #[]) rfl
  have HB2 := Aside0.mk (HB0.trans ((B1 _ (Nat.le_refl _)).trans (B2 _ (Nat.le_refl _))))
  have HX2 := Aside0.mk hb2
  clear hb0 HB0 hb1 B1 hb2 B2
  go_enter Try.func24, Try.ntmps24
  go_wp2
  go_ret
  exact ⟨_, rfl, Nat.le_refl _, HX2.out, HB2.out⟩

set_option maxHeartbeats 1000000 in
set_option maxRecDepth 100000 in
theorem clq_good (h g b n r : Int) (w : World) (hr_ : vec_With.f h n = some r) :
    Calls Try.prog 28 #[.agg #[.int .i64 h, .int .i64 g, .int .i64 b], .int .i64 n] w fun e w' => e = .returned (.agg #[.int .i64 r, .int .i64 (if g < 1073741824 then wrap64 (g + 1) else g), .int .i64 b]) ∧ Below w.heap.size w w' := by
  have hu26 := Try.underlying26
  have hu48 := Try.underlying48
  have HB := Aside0.mk (Below.refl w.heap.size w)
  have hr := Aside0.mk hr_
  clear hr_
  by_cases hq : g < 1073741824
  · rw [if_pos hq]
    go_enter Try.func28, Try.ntmps28
    go_wp2_with (first | ((with_reducible refine gate_dst (N := 2) rfl ?_); refine box_event ?hg (N := 2) ?hd (cs := #[.int .i64 h, .int .i64 g, .int .i64 b]) (t := 48) ?hr ?_; (case hd => rfl); (case hg => rfl); (case hr => first | (go_simp; done) | (go_simp; rfl)); intro g_E hg w1 hbox hb; have GE_E := Aside0.mk (by rw [hg]; exact (below_size (by repeat (first | (with_reducible first | exact HB.out | apply below_alloc | apply pw_below_drewN | apply below_drew1) | exact HB.out))) : w.heap.size ≤ g_E); have m_HB := Aside0.mk (below_step (by repeat (first | (with_reducible first | exact HB.out | apply below_alloc | apply pw_below_drewN | apply below_drew1) | exact HB.out)) hb); have k_E := Aside0.mk hbox; clear hb hbox hg; clear HB; have HB := m_HB; clear m_HB; have BK_E := k_E; clear k_E; have hc1_E_0 : w1.cell? ⟨g_E, 0, none⟩ = some (.int .i64 h) := (blk_cell BK_E.out 0).trans rfl; have hc1_E_1 : w1.cell? ⟨g_E, 1, none⟩ = some (.int .i64 g) := (blk_cell BK_E.out 1).trans rfl; have hc1_E_2 : w1.cell? ⟨g_E, 2, none⟩ = some (.int .i64 b) := (blk_cell BK_E.out 2).trans rfl; have hf1_E_0 := blk_frozen BK_E.out 0; have hf1_E_1 := blk_frozen BK_E.out 1; have hf1_E_2 := blk_frozen BK_E.out 2) | ((with_reducible refine gate_dst (N := 4) rfl ?_); refine box_event ?hg (N := 4) ?hd (cs := #[.int .i64 0, .int .i64 0, .int .i64 0]) (t := 26) ?hr ?_; (case hd => rfl); (case hg => rfl); (case hr => first | (go_simp; done) | (go_simp; rfl)); intro g_R hg w2 hbox hb; have GE_R := Aside0.mk (by rw [hg]; exact (below_size (by repeat (first | (with_reducible first | exact HB.out | apply below_alloc | apply pw_below_drewN | apply below_drew1 | refine below_set ?_ GE_E.out) | exact HB.out))) : w.heap.size ≤ g_R); have NE_E_R := Aside0.mk (by rw [hg]; exact Nat.ne_of_lt (blk_lt (o := .cells #[.int .i64 h, .int .i64 g, .int .i64 b] 48 (0, 0)) (by (with_reducible repeat (first | refine blk_drewN ?_ _ | refine blk_drew ?_ | refine blk_alloc ?_ _)); exact BK_E.out)) : g_E ≠ g_R); have NE_R_E := Aside0.mk (Ne.symm NE_E_R.out); have ne_E_R := NE_E_R.out; have ne_R_E := NE_R_E.out; have m_E := Aside0.mk (blk_below (g := g_E) (o := .cells #[.int .i64 h, .int .i64 g, .int .i64 b] 48 (0, 0)) (by (with_reducible repeat (first | refine blk_drewN ?_ _ | refine blk_drew ?_ | refine blk_alloc ?_ _)); exact BK_E.out) hb); have m_HB := Aside0.mk (below_step (by repeat (first | (with_reducible first | exact HB.out | apply below_alloc | apply pw_below_drewN | apply below_drew1 | refine below_set ?_ GE_E.out) | exact HB.out)) hb); have k_R := Aside0.mk hbox; clear hb hbox hg; clear HB; clear BK_E; have HB := m_HB; have BK_E := m_E; clear m_HB; clear m_E; have BK_R := k_R; clear k_R; have hc2_E_0 : w2.cell? ⟨g_E, 0, none⟩ = some (.int .i64 h) := (blk_cell BK_E.out 0).trans rfl; have hc2_E_1 : w2.cell? ⟨g_E, 1, none⟩ = some (.int .i64 g) := (blk_cell BK_E.out 1).trans rfl; have hc2_E_2 : w2.cell? ⟨g_E, 2, none⟩ = some (.int .i64 b) := (blk_cell BK_E.out 2).trans rfl; have hf2_E_0 := blk_frozen BK_E.out 0; have hf2_E_1 := blk_frozen BK_E.out 1; have hf2_E_2 := blk_frozen BK_E.out 2; have hc2_R_0 : w2.cell? ⟨g_R, 0, none⟩ = some (.int .i64 0) := (blk_cell BK_R.out 0).trans rfl; have hc2_R_1 : w2.cell? ⟨g_R, 1, none⟩ = some (.int .i64 0) := (blk_cell BK_R.out 1).trans rfl; have hc2_R_2 : w2.cell? ⟨g_R, 2, none⟩ = some (.int .i64 0) := (blk_cell BK_R.out 2).trans rfl; have hf2_R_0 := blk_frozen BK_R.out 0; have hf2_R_1 := blk_frozen BK_R.out 1; have hf2_R_2 := blk_frozen BK_R.out 2) | (go_at_call 27; (with_reducible refine (vec_With.calls h n r _ hr.out).mono ?_); rintro e w3 ⟨rfl, hd⟩; have hb := hd.below; clear hd; have m_E := Aside0.mk (blk_below (g := g_E) (o := .cells #[.int .i64 h, .int .i64 g, .int .i64 b] 48 (0, 0)) (by (with_reducible repeat (first | refine blk_drewN ?_ _ | refine blk_drew ?_ | refine blk_alloc ?_ _)); exact BK_E.out) hb); have m_R := Aside0.mk (blk_below (g := g_R) (o := .cells #[.int .i64 0, .int .i64 0, .int .i64 0] 26 (0, 0)) (by (with_reducible repeat (first | refine blk_drewN ?_ _ | refine blk_drew ?_ | refine blk_alloc ?_ _)); exact BK_R.out) hb); have m_HB := Aside0.mk (below_step (by repeat (first | (with_reducible first | exact HB.out | apply below_alloc | apply pw_below_drewN | apply below_drew1 | refine below_set ?_ GE_E.out | refine below_set ?_ GE_R.out) | exact HB.out)) hb); clear hb; clear HB; clear BK_E; clear BK_R; have HB := m_HB; have BK_E := m_E; have BK_R := m_R; clear m_HB; clear m_E; clear m_R; have hc3_E_0 : w3.cell? ⟨g_E, 0, none⟩ = some (.int .i64 h) := (blk_cell BK_E.out 0).trans rfl; have hc3_E_1 : w3.cell? ⟨g_E, 1, none⟩ = some (.int .i64 g) := (blk_cell BK_E.out 1).trans rfl; have hc3_E_2 : w3.cell? ⟨g_E, 2, none⟩ = some (.int .i64 b) := (blk_cell BK_E.out 2).trans rfl; have hf3_E_0 := blk_frozen BK_E.out 0; have hf3_E_1 := blk_frozen BK_E.out 1; have hf3_E_2 := blk_frozen BK_E.out 2; have hc3_R_0 : w3.cell? ⟨g_R, 0, none⟩ = some (.int .i64 0) := (blk_cell BK_R.out 0).trans rfl; have hc3_R_1 : w3.cell? ⟨g_R, 1, none⟩ = some (.int .i64 0) := (blk_cell BK_R.out 1).trans rfl; have hc3_R_2 : w3.cell? ⟨g_R, 2, none⟩ = some (.int .i64 0) := (blk_cell BK_R.out 2).trans rfl; have hf3_R_0 := blk_frozen BK_R.out 0; have hf3_R_1 := blk_frozen BK_R.out 1; have hf3_R_2 := blk_frozen BK_R.out 2))
    refine bodyPost_ret (results_cell_row rfl _ _ g_R 26 #[.int .i64 r, .int .i64 (wrap64 (g + 1)), .int .i64 b] (0, 0) _ rfl (by (with_reducible repeat (first | refine blk_drewN ?_ _ | refine blk_drew ?_ | refine blk_alloc ?_ _)); refine blk_put (cs := #[.int .i64 r, .int .i64 (wrap64 (g + 1)), .int .i64 0]) ?_ 2 _ rfl; (with_reducible repeat (first | refine blk_drewN ?_ _ | refine blk_drew ?_ | refine blk_alloc ?_ _)); refine blk_put (cs := #[.int .i64 r, .int .i64 0, .int .i64 0]) ?_ 1 _ rfl; (with_reducible repeat (first | refine blk_drewN ?_ _ | refine blk_drew ?_ | refine blk_alloc ?_ _)); refine blk_put (cs := #[.int .i64 0, .int .i64 0, .int .i64 0]) ?_ 0 _ rfl; (with_reducible repeat (first | refine blk_drewN ?_ _ | refine blk_drew ?_ | refine blk_alloc ?_ _)); refine blk_far ?_ NE_R_E.out _; (with_reducible repeat (first | refine blk_drewN ?_ _ | refine blk_drew ?_ | refine blk_alloc ?_ _)); refine blk_far ?_ NE_R_E.out _; (with_reducible repeat (first | refine blk_drewN ?_ _ | refine blk_drew ?_ | refine blk_alloc ?_ _)); exact BK_R.out) Try.underlying26 rfl (by kernel_rfl)) rfl ?_
    exact ⟨rfl, by repeat (first | (with_reducible first | exact HB.out | apply below_alloc | apply pw_below_drewN | apply below_drew1 | refine below_set ?_ GE_E.out | refine below_set ?_ GE_R.out) | exact HB.out)⟩
  · rw [if_neg hq]
    go_enter Try.func28, Try.ntmps28
    go_wp2_with (first | ((with_reducible refine gate_dst (N := 2) rfl ?_); refine box_event ?hg (N := 2) ?hd (cs := #[.int .i64 h, .int .i64 g, .int .i64 b]) (t := 48) ?hr ?_; (case hd => rfl); (case hg => rfl); (case hr => first | (go_simp; done) | (go_simp; rfl)); intro g_E hg w1 hbox hb; have GE_E := Aside0.mk (by rw [hg]; exact (below_size (by repeat (first | (with_reducible first | exact HB.out | apply below_alloc | apply pw_below_drewN | apply below_drew1) | exact HB.out))) : w.heap.size ≤ g_E); have m_HB := Aside0.mk (below_step (by repeat (first | (with_reducible first | exact HB.out | apply below_alloc | apply pw_below_drewN | apply below_drew1) | exact HB.out)) hb); have k_E := Aside0.mk hbox; clear hb hbox hg; clear HB; have HB := m_HB; clear m_HB; have BK_E := k_E; clear k_E; have hc1_E_0 : w1.cell? ⟨g_E, 0, none⟩ = some (.int .i64 h) := (blk_cell BK_E.out 0).trans rfl; have hc1_E_1 : w1.cell? ⟨g_E, 1, none⟩ = some (.int .i64 g) := (blk_cell BK_E.out 1).trans rfl; have hc1_E_2 : w1.cell? ⟨g_E, 2, none⟩ = some (.int .i64 b) := (blk_cell BK_E.out 2).trans rfl; have hf1_E_0 := blk_frozen BK_E.out 0; have hf1_E_1 := blk_frozen BK_E.out 1; have hf1_E_2 := blk_frozen BK_E.out 2) | ((with_reducible refine gate_dst (N := 4) rfl ?_); refine box_event ?hg (N := 4) ?hd (cs := #[.int .i64 0, .int .i64 0, .int .i64 0]) (t := 26) ?hr ?_; (case hd => rfl); (case hg => rfl); (case hr => first | (go_simp; done) | (go_simp; rfl)); intro g_R hg w2 hbox hb; have GE_R := Aside0.mk (by rw [hg]; exact (below_size (by repeat (first | (with_reducible first | exact HB.out | apply below_alloc | apply pw_below_drewN | apply below_drew1 | refine below_set ?_ GE_E.out) | exact HB.out))) : w.heap.size ≤ g_R); have NE_E_R := Aside0.mk (by rw [hg]; exact Nat.ne_of_lt (blk_lt (o := .cells #[.int .i64 h, .int .i64 g, .int .i64 b] 48 (0, 0)) (by (with_reducible repeat (first | refine blk_drewN ?_ _ | refine blk_drew ?_ | refine blk_alloc ?_ _)); exact BK_E.out)) : g_E ≠ g_R); have NE_R_E := Aside0.mk (Ne.symm NE_E_R.out); have ne_E_R := NE_E_R.out; have ne_R_E := NE_R_E.out; have m_E := Aside0.mk (blk_below (g := g_E) (o := .cells #[.int .i64 h, .int .i64 g, .int .i64 b] 48 (0, 0)) (by (with_reducible repeat (first | refine blk_drewN ?_ _ | refine blk_drew ?_ | refine blk_alloc ?_ _)); exact BK_E.out) hb); have m_HB := Aside0.mk (below_step (by repeat (first | (with_reducible first | exact HB.out | apply below_alloc | apply pw_below_drewN | apply below_drew1 | refine below_set ?_ GE_E.out) | exact HB.out)) hb); have k_R := Aside0.mk hbox; clear hb hbox hg; clear HB; clear BK_E; have HB := m_HB; have BK_E := m_E; clear m_HB; clear m_E; have BK_R := k_R; clear k_R; have hc2_E_0 : w2.cell? ⟨g_E, 0, none⟩ = some (.int .i64 h) := (blk_cell BK_E.out 0).trans rfl; have hc2_E_1 : w2.cell? ⟨g_E, 1, none⟩ = some (.int .i64 g) := (blk_cell BK_E.out 1).trans rfl; have hc2_E_2 : w2.cell? ⟨g_E, 2, none⟩ = some (.int .i64 b) := (blk_cell BK_E.out 2).trans rfl; have hf2_E_0 := blk_frozen BK_E.out 0; have hf2_E_1 := blk_frozen BK_E.out 1; have hf2_E_2 := blk_frozen BK_E.out 2; have hc2_R_0 : w2.cell? ⟨g_R, 0, none⟩ = some (.int .i64 0) := (blk_cell BK_R.out 0).trans rfl; have hc2_R_1 : w2.cell? ⟨g_R, 1, none⟩ = some (.int .i64 0) := (blk_cell BK_R.out 1).trans rfl; have hc2_R_2 : w2.cell? ⟨g_R, 2, none⟩ = some (.int .i64 0) := (blk_cell BK_R.out 2).trans rfl; have hf2_R_0 := blk_frozen BK_R.out 0; have hf2_R_1 := blk_frozen BK_R.out 1; have hf2_R_2 := blk_frozen BK_R.out 2) | (go_at_call 27; (with_reducible refine (vec_With.calls h n r _ hr.out).mono ?_); rintro e w3 ⟨rfl, hd⟩; have hb := hd.below; clear hd; have m_E := Aside0.mk (blk_below (g := g_E) (o := .cells #[.int .i64 h, .int .i64 g, .int .i64 b] 48 (0, 0)) (by (with_reducible repeat (first | refine blk_drewN ?_ _ | refine blk_drew ?_ | refine blk_alloc ?_ _)); exact BK_E.out) hb); have m_R := Aside0.mk (blk_below (g := g_R) (o := .cells #[.int .i64 0, .int .i64 0, .int .i64 0] 26 (0, 0)) (by (with_reducible repeat (first | refine blk_drewN ?_ _ | refine blk_drew ?_ | refine blk_alloc ?_ _)); exact BK_R.out) hb); have m_HB := Aside0.mk (below_step (by repeat (first | (with_reducible first | exact HB.out | apply below_alloc | apply pw_below_drewN | apply below_drew1 | refine below_set ?_ GE_E.out | refine below_set ?_ GE_R.out) | exact HB.out)) hb); clear hb; clear HB; clear BK_E; clear BK_R; have HB := m_HB; have BK_E := m_E; have BK_R := m_R; clear m_HB; clear m_E; clear m_R; have hc3_E_0 : w3.cell? ⟨g_E, 0, none⟩ = some (.int .i64 h) := (blk_cell BK_E.out 0).trans rfl; have hc3_E_1 : w3.cell? ⟨g_E, 1, none⟩ = some (.int .i64 g) := (blk_cell BK_E.out 1).trans rfl; have hc3_E_2 : w3.cell? ⟨g_E, 2, none⟩ = some (.int .i64 b) := (blk_cell BK_E.out 2).trans rfl; have hf3_E_0 := blk_frozen BK_E.out 0; have hf3_E_1 := blk_frozen BK_E.out 1; have hf3_E_2 := blk_frozen BK_E.out 2; have hc3_R_0 : w3.cell? ⟨g_R, 0, none⟩ = some (.int .i64 0) := (blk_cell BK_R.out 0).trans rfl; have hc3_R_1 : w3.cell? ⟨g_R, 1, none⟩ = some (.int .i64 0) := (blk_cell BK_R.out 1).trans rfl; have hc3_R_2 : w3.cell? ⟨g_R, 2, none⟩ = some (.int .i64 0) := (blk_cell BK_R.out 2).trans rfl; have hf3_R_0 := blk_frozen BK_R.out 0; have hf3_R_1 := blk_frozen BK_R.out 1; have hf3_R_2 := blk_frozen BK_R.out 2))
    refine bodyPost_ret (results_cell_row rfl _ _ g_R 26 #[.int .i64 r, .int .i64 g, .int .i64 b] (0, 0) _ rfl (by (with_reducible repeat (first | refine blk_drewN ?_ _ | refine blk_drew ?_ | refine blk_alloc ?_ _)); refine blk_put (cs := #[.int .i64 r, .int .i64 g, .int .i64 0]) ?_ 2 _ rfl; (with_reducible repeat (first | refine blk_drewN ?_ _ | refine blk_drew ?_ | refine blk_alloc ?_ _)); refine blk_put (cs := #[.int .i64 r, .int .i64 0, .int .i64 0]) ?_ 1 _ rfl; (with_reducible repeat (first | refine blk_drewN ?_ _ | refine blk_drew ?_ | refine blk_alloc ?_ _)); refine blk_put (cs := #[.int .i64 0, .int .i64 0, .int .i64 0]) ?_ 0 _ rfl; (with_reducible repeat (first | refine blk_drewN ?_ _ | refine blk_drew ?_ | refine blk_alloc ?_ _)); refine blk_far ?_ NE_R_E.out _; (with_reducible repeat (first | refine blk_drewN ?_ _ | refine blk_drew ?_ | refine blk_alloc ?_ _)); exact BK_R.out) Try.underlying26 rfl (by kernel_rfl)) rfl ?_
    exact ⟨rfl, by repeat (first | (with_reducible first | exact HB.out | apply below_alloc | apply pw_below_drewN | apply below_drew1 | refine below_set ?_ GE_E.out | refine below_set ?_ GE_R.out) | exact HB.out)⟩

set_option maxHeartbeats 1000000 in
set_option maxRecDepth 100000 in
theorem clq_bad (h g b n r : Int) (w : World) :
    Calls Try.prog 29 #[.agg #[.int .i64 h, .int .i64 g, .int .i64 b], .int .i64 n] w fun e w' => e = .returned (.agg #[.int .i64 h, .int .i64 g, .int .i64 (if b < 1073741824 then wrap64 (b + 1) else b)]) ∧ Below w.heap.size w w' := by
  have hu26 := Try.underlying26
  have hu48 := Try.underlying48
  have HB := Aside0.mk (Below.refl w.heap.size w)
  by_cases hq : b < 1073741824
  · rw [if_pos hq]
    go_enter Try.func29, Try.ntmps29
    go_wp2_with (first | ((with_reducible refine gate_dst (N := 2) rfl ?_); refine box_event ?hg (N := 2) ?hd (cs := #[.int .i64 h, .int .i64 g, .int .i64 b]) (t := 48) ?hr ?_; (case hd => rfl); (case hg => rfl); (case hr => first | (go_simp; done) | (go_simp; rfl)); intro g_E hg w1 hbox hb; have GE_E := Aside0.mk (by rw [hg]; exact (below_size (by repeat (first | (with_reducible first | exact HB.out | apply below_alloc | apply pw_below_drewN | apply below_drew1) | exact HB.out))) : w.heap.size ≤ g_E); have m_HB := Aside0.mk (below_step (by repeat (first | (with_reducible first | exact HB.out | apply below_alloc | apply pw_below_drewN | apply below_drew1) | exact HB.out)) hb); have k_E := Aside0.mk hbox; clear hb hbox hg; clear HB; have HB := m_HB; clear m_HB; have BK_E := k_E; clear k_E; have hc1_E_0 : w1.cell? ⟨g_E, 0, none⟩ = some (.int .i64 h) := (blk_cell BK_E.out 0).trans rfl; have hc1_E_1 : w1.cell? ⟨g_E, 1, none⟩ = some (.int .i64 g) := (blk_cell BK_E.out 1).trans rfl; have hc1_E_2 : w1.cell? ⟨g_E, 2, none⟩ = some (.int .i64 b) := (blk_cell BK_E.out 2).trans rfl; have hf1_E_0 := blk_frozen BK_E.out 0; have hf1_E_1 := blk_frozen BK_E.out 1; have hf1_E_2 := blk_frozen BK_E.out 2) | ((with_reducible refine gate_dst (N := 4) rfl ?_); refine box_event ?hg (N := 4) ?hd (cs := #[.int .i64 0, .int .i64 0, .int .i64 0]) (t := 26) ?hr ?_; (case hd => rfl); (case hg => rfl); (case hr => first | (go_simp; done) | (go_simp; rfl)); intro g_R hg w2 hbox hb; have GE_R := Aside0.mk (by rw [hg]; exact (below_size (by repeat (first | (with_reducible first | exact HB.out | apply below_alloc | apply pw_below_drewN | apply below_drew1 | refine below_set ?_ GE_E.out) | exact HB.out))) : w.heap.size ≤ g_R); have NE_E_R := Aside0.mk (by rw [hg]; exact Nat.ne_of_lt (blk_lt (o := .cells #[.int .i64 h, .int .i64 g, .int .i64 b] 48 (0, 0)) (by (with_reducible repeat (first | refine blk_drewN ?_ _ | refine blk_drew ?_ | refine blk_alloc ?_ _)); exact BK_E.out)) : g_E ≠ g_R); have NE_R_E := Aside0.mk (Ne.symm NE_E_R.out); have ne_E_R := NE_E_R.out; have ne_R_E := NE_R_E.out; have m_E := Aside0.mk (blk_below (g := g_E) (o := .cells #[.int .i64 h, .int .i64 g, .int .i64 b] 48 (0, 0)) (by (with_reducible repeat (first | refine blk_drewN ?_ _ | refine blk_drew ?_ | refine blk_alloc ?_ _)); exact BK_E.out) hb); have m_HB := Aside0.mk (below_step (by repeat (first | (with_reducible first | exact HB.out | apply below_alloc | apply pw_below_drewN | apply below_drew1 | refine below_set ?_ GE_E.out) | exact HB.out)) hb); have k_R := Aside0.mk hbox; clear hb hbox hg; clear HB; clear BK_E; have HB := m_HB; have BK_E := m_E; clear m_HB; clear m_E; have BK_R := k_R; clear k_R; have hc2_E_0 : w2.cell? ⟨g_E, 0, none⟩ = some (.int .i64 h) := (blk_cell BK_E.out 0).trans rfl; have hc2_E_1 : w2.cell? ⟨g_E, 1, none⟩ = some (.int .i64 g) := (blk_cell BK_E.out 1).trans rfl; have hc2_E_2 : w2.cell? ⟨g_E, 2, none⟩ = some (.int .i64 b) := (blk_cell BK_E.out 2).trans rfl; have hf2_E_0 := blk_frozen BK_E.out 0; have hf2_E_1 := blk_frozen BK_E.out 1; have hf2_E_2 := blk_frozen BK_E.out 2; have hc2_R_0 : w2.cell? ⟨g_R, 0, none⟩ = some (.int .i64 0) := (blk_cell BK_R.out 0).trans rfl; have hc2_R_1 : w2.cell? ⟨g_R, 1, none⟩ = some (.int .i64 0) := (blk_cell BK_R.out 1).trans rfl; have hc2_R_2 : w2.cell? ⟨g_R, 2, none⟩ = some (.int .i64 0) := (blk_cell BK_R.out 2).trans rfl; have hf2_R_0 := blk_frozen BK_R.out 0; have hf2_R_1 := blk_frozen BK_R.out 1; have hf2_R_2 := blk_frozen BK_R.out 2))
    refine bodyPost_ret (results_cell_row rfl _ _ g_R 26 #[.int .i64 h, .int .i64 g, .int .i64 (wrap64 (b + 1))] (0, 0) _ rfl (by (with_reducible repeat (first | refine blk_drewN ?_ _ | refine blk_drew ?_ | refine blk_alloc ?_ _)); refine blk_put (cs := #[.int .i64 h, .int .i64 g, .int .i64 0]) ?_ 2 _ rfl; (with_reducible repeat (first | refine blk_drewN ?_ _ | refine blk_drew ?_ | refine blk_alloc ?_ _)); refine blk_put (cs := #[.int .i64 h, .int .i64 0, .int .i64 0]) ?_ 1 _ rfl; (with_reducible repeat (first | refine blk_drewN ?_ _ | refine blk_drew ?_ | refine blk_alloc ?_ _)); refine blk_put (cs := #[.int .i64 0, .int .i64 0, .int .i64 0]) ?_ 0 _ rfl; (with_reducible repeat (first | refine blk_drewN ?_ _ | refine blk_drew ?_ | refine blk_alloc ?_ _)); refine blk_far ?_ NE_R_E.out _; (with_reducible repeat (first | refine blk_drewN ?_ _ | refine blk_drew ?_ | refine blk_alloc ?_ _)); exact BK_R.out) Try.underlying26 rfl (by kernel_rfl)) rfl ?_
    exact ⟨rfl, by repeat (first | (with_reducible first | exact HB.out | apply below_alloc | apply pw_below_drewN | apply below_drew1 | refine below_set ?_ GE_E.out | refine below_set ?_ GE_R.out) | exact HB.out)⟩
  · rw [if_neg hq]
    go_enter Try.func29, Try.ntmps29
    go_wp2_with (first | ((with_reducible refine gate_dst (N := 2) rfl ?_); refine box_event ?hg (N := 2) ?hd (cs := #[.int .i64 h, .int .i64 g, .int .i64 b]) (t := 48) ?hr ?_; (case hd => rfl); (case hg => rfl); (case hr => first | (go_simp; done) | (go_simp; rfl)); intro g_E hg w1 hbox hb; have GE_E := Aside0.mk (by rw [hg]; exact (below_size (by repeat (first | (with_reducible first | exact HB.out | apply below_alloc | apply pw_below_drewN | apply below_drew1) | exact HB.out))) : w.heap.size ≤ g_E); have m_HB := Aside0.mk (below_step (by repeat (first | (with_reducible first | exact HB.out | apply below_alloc | apply pw_below_drewN | apply below_drew1) | exact HB.out)) hb); have k_E := Aside0.mk hbox; clear hb hbox hg; clear HB; have HB := m_HB; clear m_HB; have BK_E := k_E; clear k_E; have hc1_E_0 : w1.cell? ⟨g_E, 0, none⟩ = some (.int .i64 h) := (blk_cell BK_E.out 0).trans rfl; have hc1_E_1 : w1.cell? ⟨g_E, 1, none⟩ = some (.int .i64 g) := (blk_cell BK_E.out 1).trans rfl; have hc1_E_2 : w1.cell? ⟨g_E, 2, none⟩ = some (.int .i64 b) := (blk_cell BK_E.out 2).trans rfl; have hf1_E_0 := blk_frozen BK_E.out 0; have hf1_E_1 := blk_frozen BK_E.out 1; have hf1_E_2 := blk_frozen BK_E.out 2) | ((with_reducible refine gate_dst (N := 4) rfl ?_); refine box_event ?hg (N := 4) ?hd (cs := #[.int .i64 0, .int .i64 0, .int .i64 0]) (t := 26) ?hr ?_; (case hd => rfl); (case hg => rfl); (case hr => first | (go_simp; done) | (go_simp; rfl)); intro g_R hg w2 hbox hb; have GE_R := Aside0.mk (by rw [hg]; exact (below_size (by repeat (first | (with_reducible first | exact HB.out | apply below_alloc | apply pw_below_drewN | apply below_drew1 | refine below_set ?_ GE_E.out) | exact HB.out))) : w.heap.size ≤ g_R); have NE_E_R := Aside0.mk (by rw [hg]; exact Nat.ne_of_lt (blk_lt (o := .cells #[.int .i64 h, .int .i64 g, .int .i64 b] 48 (0, 0)) (by (with_reducible repeat (first | refine blk_drewN ?_ _ | refine blk_drew ?_ | refine blk_alloc ?_ _)); exact BK_E.out)) : g_E ≠ g_R); have NE_R_E := Aside0.mk (Ne.symm NE_E_R.out); have ne_E_R := NE_E_R.out; have ne_R_E := NE_R_E.out; have m_E := Aside0.mk (blk_below (g := g_E) (o := .cells #[.int .i64 h, .int .i64 g, .int .i64 b] 48 (0, 0)) (by (with_reducible repeat (first | refine blk_drewN ?_ _ | refine blk_drew ?_ | refine blk_alloc ?_ _)); exact BK_E.out) hb); have m_HB := Aside0.mk (below_step (by repeat (first | (with_reducible first | exact HB.out | apply below_alloc | apply pw_below_drewN | apply below_drew1 | refine below_set ?_ GE_E.out) | exact HB.out)) hb); have k_R := Aside0.mk hbox; clear hb hbox hg; clear HB; clear BK_E; have HB := m_HB; have BK_E := m_E; clear m_HB; clear m_E; have BK_R := k_R; clear k_R; have hc2_E_0 : w2.cell? ⟨g_E, 0, none⟩ = some (.int .i64 h) := (blk_cell BK_E.out 0).trans rfl; have hc2_E_1 : w2.cell? ⟨g_E, 1, none⟩ = some (.int .i64 g) := (blk_cell BK_E.out 1).trans rfl; have hc2_E_2 : w2.cell? ⟨g_E, 2, none⟩ = some (.int .i64 b) := (blk_cell BK_E.out 2).trans rfl; have hf2_E_0 := blk_frozen BK_E.out 0; have hf2_E_1 := blk_frozen BK_E.out 1; have hf2_E_2 := blk_frozen BK_E.out 2; have hc2_R_0 : w2.cell? ⟨g_R, 0, none⟩ = some (.int .i64 0) := (blk_cell BK_R.out 0).trans rfl; have hc2_R_1 : w2.cell? ⟨g_R, 1, none⟩ = some (.int .i64 0) := (blk_cell BK_R.out 1).trans rfl; have hc2_R_2 : w2.cell? ⟨g_R, 2, none⟩ = some (.int .i64 0) := (blk_cell BK_R.out 2).trans rfl; have hf2_R_0 := blk_frozen BK_R.out 0; have hf2_R_1 := blk_frozen BK_R.out 1; have hf2_R_2 := blk_frozen BK_R.out 2))
    refine bodyPost_ret (results_cell_row rfl _ _ g_R 26 #[.int .i64 h, .int .i64 g, .int .i64 b] (0, 0) _ rfl (by (with_reducible repeat (first | refine blk_drewN ?_ _ | refine blk_drew ?_ | refine blk_alloc ?_ _)); refine blk_put (cs := #[.int .i64 h, .int .i64 g, .int .i64 0]) ?_ 2 _ rfl; (with_reducible repeat (first | refine blk_drewN ?_ _ | refine blk_drew ?_ | refine blk_alloc ?_ _)); refine blk_put (cs := #[.int .i64 h, .int .i64 0, .int .i64 0]) ?_ 1 _ rfl; (with_reducible repeat (first | refine blk_drewN ?_ _ | refine blk_drew ?_ | refine blk_alloc ?_ _)); refine blk_put (cs := #[.int .i64 0, .int .i64 0, .int .i64 0]) ?_ 0 _ rfl; (with_reducible repeat (first | refine blk_drewN ?_ _ | refine blk_drew ?_ | refine blk_alloc ?_ _)); exact BK_R.out) Try.underlying26 rfl (by kernel_rfl)) rfl ?_
    exact ⟨rfl, by repeat (first | (with_reducible first | exact HB.out | apply below_alloc | apply pw_below_drewN | apply below_drew1 | refine below_set ?_ GE_E.out | refine below_set ?_ GE_R.out) | exact HB.out)⟩


theorem slot_miss {x : Int} (h1 : x ≠ 1) (h2 : x ≠ 2) : Instr.findNow (.int .i64) (.int .i64 x) slotRow.toList 0 = some none := by
  have e1 : (x == 1) = false := by simpa using h1
  have e2 : (x == 2) = false := by simpa using h2
  simp [Instr.findNow, Instr.sameNow, slotRow, e1, e2]

set_option maxHeartbeats 1000000 in
set_option maxRecDepth 100000 in
theorem clq_hear_good_ok (h g b n r : Int) (w : World) (hn0 : 0 ≤ n) (hn1 : n < 16) (hr_ : vec_With.f h n = some r) :
    Calls Try.prog 13 #[.agg #[.int .i64 h, .int .i64 g, .int .i64 b], .int .i64 n, .int .i64 1] w fun e w' => e = .returned (.agg #[.int .i64 r, .int .i64 (if g < 1073741824 then wrap64 (g + 1) else g), .int .i64 b]) ∧ Below w.heap.size w w' := by
  have hu26 := Try.underlying26
  have hu48 := Try.underlying48
  have HB := Aside0.mk (Below.refl w.heap.size w)
  have hr := Aside0.mk hr_
  clear hr_
  obtain ⟨q, hq⟩ : ∃ q, (if g < 1073741824 then wrap64 (g + 1) else g) = q := ⟨_, rfl⟩
  rw [hq]
  have HQ := Aside0.mk hq
  clear hq
  go_enter Try.func13, Try.ntmps13
  go_wp2_with (first | ((with_reducible refine gate_dst (N := 3) rfl ?_); refine box_event ?hg (N := 3) ?hd (cs := #[.int .i64 h, .int .i64 g, .int .i64 b]) (t := 26) ?hr ?_; (case hd => rfl); (case hg => rfl); (case hr => first | (go_simp; done) | (go_simp; rfl)); intro g_E hg w1 hbox hb; have GE_E := Aside0.mk (by rw [hg]; exact (below_size (by repeat (first | (with_reducible first | exact HB.out | apply below_alloc | apply pw_below_drewN | apply below_drew1) | exact HB.out))) : w.heap.size ≤ g_E); have m_HB := Aside0.mk (below_step (by repeat (first | (with_reducible first | exact HB.out | apply below_alloc | apply pw_below_drewN | apply below_drew1) | exact HB.out)) hb); have k_E := Aside0.mk hbox; clear hb hbox hg; clear HB; have HB := m_HB; clear m_HB; have BK_E := k_E; clear k_E; have hc1_E_0 : w1.cell? ⟨g_E, 0, none⟩ = some (.int .i64 h) := (blk_cell BK_E.out 0).trans rfl; have hc1_E_1 : w1.cell? ⟨g_E, 1, none⟩ = some (.int .i64 g) := (blk_cell BK_E.out 1).trans rfl; have hc1_E_2 : w1.cell? ⟨g_E, 2, none⟩ = some (.int .i64 b) := (blk_cell BK_E.out 2).trans rfl; have hf1_E_0 := blk_frozen BK_E.out 0; have hf1_E_1 := blk_frozen BK_E.out 1; have hf1_E_2 := blk_frozen BK_E.out 2) | ((with_reducible refine gate_dst (N := 6) rfl ?_); refine box_event ?hg (N := 6) ?hd (cs := #[.int .i64 0, .int .i64 0, .int .i64 0]) (t := 26) ?hr ?_; (case hd => rfl); (case hg => rfl); (case hr => first | (go_simp; done) | (go_simp; rfl)); intro g_R hg w2 hbox hb; have GE_R := Aside0.mk (by rw [hg]; exact (below_size (by repeat (first | (with_reducible first | exact HB.out | apply below_alloc | apply pw_below_drewN | apply below_drew1 | refine below_set ?_ GE_E.out) | exact HB.out))) : w.heap.size ≤ g_R); have NE_E_R := Aside0.mk (by rw [hg]; exact Nat.ne_of_lt (blk_lt (o := .cells #[.int .i64 h, .int .i64 g, .int .i64 b] 26 (0, 0)) (by (with_reducible repeat (first | refine blk_drewN ?_ _ | refine blk_drew ?_ | refine blk_alloc ?_ _)); exact BK_E.out)) : g_E ≠ g_R); have NE_R_E := Aside0.mk (Ne.symm NE_E_R.out); have ne_E_R := NE_E_R.out; have ne_R_E := NE_R_E.out; have m_E := Aside0.mk (blk_below (g := g_E) (o := .cells #[.int .i64 h, .int .i64 g, .int .i64 b] 26 (0, 0)) (by (with_reducible repeat (first | refine blk_drewN ?_ _ | refine blk_drew ?_ | refine blk_alloc ?_ _)); exact BK_E.out) hb); have m_HB := Aside0.mk (below_step (by repeat (first | (with_reducible first | exact HB.out | apply below_alloc | apply pw_below_drewN | apply below_drew1 | refine below_set ?_ GE_E.out) | exact HB.out)) hb); have k_R := Aside0.mk hbox; clear hb hbox hg; clear HB; clear BK_E; have HB := m_HB; have BK_E := m_E; clear m_HB; clear m_E; have BK_R := k_R; clear k_R; have hc2_E_0 : w2.cell? ⟨g_E, 0, none⟩ = some (.int .i64 h) := (blk_cell BK_E.out 0).trans rfl; have hc2_E_1 : w2.cell? ⟨g_E, 1, none⟩ = some (.int .i64 g) := (blk_cell BK_E.out 1).trans rfl; have hc2_E_2 : w2.cell? ⟨g_E, 2, none⟩ = some (.int .i64 b) := (blk_cell BK_E.out 2).trans rfl; have hf2_E_0 := blk_frozen BK_E.out 0; have hf2_E_1 := blk_frozen BK_E.out 1; have hf2_E_2 := blk_frozen BK_E.out 2; have hc2_R_0 : w2.cell? ⟨g_R, 0, none⟩ = some (.int .i64 0) := (blk_cell BK_R.out 0).trans rfl; have hc2_R_1 : w2.cell? ⟨g_R, 1, none⟩ = some (.int .i64 0) := (blk_cell BK_R.out 1).trans rfl; have hc2_R_2 : w2.cell? ⟨g_R, 2, none⟩ = some (.int .i64 0) := (blk_cell BK_R.out 2).trans rfl; have hf2_R_0 := blk_frozen BK_R.out 0; have hf2_R_1 := blk_frozen BK_R.out 1; have hf2_R_2 := blk_frozen BK_R.out 2) | (go_at_call 24; (with_reducible refine (clq_slots _).mono ?_); rintro e w3 ⟨mb, rfl, hge, hmap, hb⟩; have hlk := map_look (P := Try.prog) Try.underlying45 Try.underlying3 mb _ _ hmap 1 0 (.func (.func 28) #[] #[]) rfl; have m_E := Aside0.mk (blk_below (g := g_E) (o := .cells #[.int .i64 h, .int .i64 g, .int .i64 b] 26 (0, 0)) (by (with_reducible repeat (first | refine blk_drewN ?_ _ | refine blk_drew ?_ | refine blk_alloc ?_ _)); exact BK_E.out) hb); have m_R := Aside0.mk (blk_below (g := g_R) (o := .cells #[.int .i64 0, .int .i64 0, .int .i64 0] 26 (0, 0)) (by (with_reducible repeat (first | refine blk_drewN ?_ _ | refine blk_drew ?_ | refine blk_alloc ?_ _)); exact BK_R.out) hb); have m_HB := Aside0.mk (below_step (by repeat (first | (with_reducible first | exact HB.out | apply below_alloc | apply pw_below_drewN | apply below_drew1 | refine below_set ?_ GE_E.out | refine below_set ?_ GE_R.out) | exact HB.out)) hb); clear hb; clear HB; clear BK_E; clear BK_R; have HB := m_HB; have BK_E := m_E; have BK_R := m_R; clear m_HB; clear m_E; clear m_R; have hc3_E_0 : w3.cell? ⟨g_E, 0, none⟩ = some (.int .i64 h) := (blk_cell BK_E.out 0).trans rfl; have hc3_E_1 : w3.cell? ⟨g_E, 1, none⟩ = some (.int .i64 g) := (blk_cell BK_E.out 1).trans rfl; have hc3_E_2 : w3.cell? ⟨g_E, 2, none⟩ = some (.int .i64 b) := (blk_cell BK_E.out 2).trans rfl; have hf3_E_0 := blk_frozen BK_E.out 0; have hf3_E_1 := blk_frozen BK_E.out 1; have hf3_E_2 := blk_frozen BK_E.out 2; have hc3_R_0 : w3.cell? ⟨g_R, 0, none⟩ = some (.int .i64 0) := (blk_cell BK_R.out 0).trans rfl; have hc3_R_1 : w3.cell? ⟨g_R, 1, none⟩ = some (.int .i64 0) := (blk_cell BK_R.out 1).trans rfl; have hc3_R_2 : w3.cell? ⟨g_R, 2, none⟩ = some (.int .i64 0) := (blk_cell BK_R.out 2).trans rfl; have hf3_R_0 := blk_frozen BK_R.out 0; have hf3_R_1 := blk_frozen BK_R.out 1; have hf3_R_2 := blk_frozen BK_R.out 2) | (go_at_call 28; (with_reducible refine (clq_good h g b n r _ hr.out).mono ?_); rintro e w4 ⟨rfl, hb⟩; rw [HQ.out]; have m_E := Aside0.mk (blk_below (g := g_E) (o := .cells #[.int .i64 h, .int .i64 g, .int .i64 b] 26 (0, 0)) (by (with_reducible repeat (first | refine blk_drewN ?_ _ | refine blk_drew ?_ | refine blk_alloc ?_ _)); exact BK_E.out) hb); have m_R := Aside0.mk (blk_below (g := g_R) (o := .cells #[.int .i64 0, .int .i64 0, .int .i64 0] 26 (0, 0)) (by (with_reducible repeat (first | refine blk_drewN ?_ _ | refine blk_drew ?_ | refine blk_alloc ?_ _)); exact BK_R.out) hb); have m_HB := Aside0.mk (below_step (by repeat (first | (with_reducible first | exact HB.out | apply below_alloc | apply pw_below_drewN | apply below_drew1 | refine below_set ?_ GE_E.out | refine below_set ?_ GE_R.out) | exact HB.out)) hb); clear hb; clear HB; clear BK_E; clear BK_R; have HB := m_HB; have BK_E := m_E; have BK_R := m_R; clear m_HB; clear m_E; clear m_R; have hc4_E_0 : w4.cell? ⟨g_E, 0, none⟩ = some (.int .i64 h) := (blk_cell BK_E.out 0).trans rfl; have hc4_E_1 : w4.cell? ⟨g_E, 1, none⟩ = some (.int .i64 g) := (blk_cell BK_E.out 1).trans rfl; have hc4_E_2 : w4.cell? ⟨g_E, 2, none⟩ = some (.int .i64 b) := (blk_cell BK_E.out 2).trans rfl; have hf4_E_0 := blk_frozen BK_E.out 0; have hf4_E_1 := blk_frozen BK_E.out 1; have hf4_E_2 := blk_frozen BK_E.out 2; have hc4_R_0 : w4.cell? ⟨g_R, 0, none⟩ = some (.int .i64 0) := (blk_cell BK_R.out 0).trans rfl; have hc4_R_1 : w4.cell? ⟨g_R, 1, none⟩ = some (.int .i64 0) := (blk_cell BK_R.out 1).trans rfl; have hc4_R_2 : w4.cell? ⟨g_R, 2, none⟩ = some (.int .i64 0) := (blk_cell BK_R.out 2).trans rfl; have hf4_R_0 := blk_frozen BK_R.out 0; have hf4_R_1 := blk_frozen BK_R.out 1; have hf4_R_2 := blk_frozen BK_R.out 2))
  refine bodyPost_ret (results_cell_row rfl _ _ g_R 26 #[.int .i64 r, .int .i64 q, .int .i64 b] (0, 0) _ rfl (by (with_reducible repeat (first | refine blk_drewN ?_ _ | refine blk_drew ?_ | refine blk_alloc ?_ _)); refine blk_put (cs := #[.int .i64 r, .int .i64 q, .int .i64 0]) ?_ 2 _ rfl; (with_reducible repeat (first | refine blk_drewN ?_ _ | refine blk_drew ?_ | refine blk_alloc ?_ _)); refine blk_put (cs := #[.int .i64 r, .int .i64 0, .int .i64 0]) ?_ 1 _ rfl; (with_reducible repeat (first | refine blk_drewN ?_ _ | refine blk_drew ?_ | refine blk_alloc ?_ _)); refine blk_put (cs := #[.int .i64 0, .int .i64 0, .int .i64 0]) ?_ 0 _ rfl; (with_reducible repeat (first | refine blk_drewN ?_ _ | refine blk_drew ?_ | refine blk_alloc ?_ _)); exact BK_R.out) Try.underlying26 rfl (by kernel_rfl)) rfl ?_
  exact ⟨rfl, by repeat (first | (with_reducible first | exact HB.out | apply below_alloc | apply pw_below_drewN | apply below_drew1 | refine below_set ?_ GE_E.out | refine below_set ?_ GE_R.out) | exact HB.out)⟩

set_option maxHeartbeats 1000000 in
set_option maxRecDepth 100000 in
theorem clq_hear_good_lo (h g b n : Int) (w : World) (hn0 : n < 0) :
    Calls Try.prog 13 #[.agg #[.int .i64 h, .int .i64 g, .int .i64 b], .int .i64 n, .int .i64 1] w fun e w' => e = .returned (.agg #[.int .i64 h, .int .i64 g, .int .i64 b]) ∧ Below w.heap.size w w' := by
  have hu26 := Try.underlying26
  have hu48 := Try.underlying48
  have HB := Aside0.mk (Below.refl w.heap.size w)
  go_enter Try.func13, Try.ntmps13
  go_wp2_with (first | ((with_reducible refine gate_dst (N := 3) rfl ?_); refine box_event ?hg (N := 3) ?hd (cs := #[.int .i64 h, .int .i64 g, .int .i64 b]) (t := 26) ?hr ?_; (case hd => rfl); (case hg => rfl); (case hr => first | (go_simp; done) | (go_simp; rfl)); intro g_E hg w1 hbox hb; have GE_E := Aside0.mk (by rw [hg]; exact (below_size (by repeat (first | (with_reducible first | exact HB.out | apply below_alloc | apply pw_below_drewN | apply below_drew1) | exact HB.out))) : w.heap.size ≤ g_E); have m_HB := Aside0.mk (below_step (by repeat (first | (with_reducible first | exact HB.out | apply below_alloc | apply pw_below_drewN | apply below_drew1) | exact HB.out)) hb); have k_E := Aside0.mk hbox; clear hb hbox hg; clear HB; have HB := m_HB; clear m_HB; have BK_E := k_E; clear k_E; have hc1_E_0 : w1.cell? ⟨g_E, 0, none⟩ = some (.int .i64 h) := (blk_cell BK_E.out 0).trans rfl; have hc1_E_1 : w1.cell? ⟨g_E, 1, none⟩ = some (.int .i64 g) := (blk_cell BK_E.out 1).trans rfl; have hc1_E_2 : w1.cell? ⟨g_E, 2, none⟩ = some (.int .i64 b) := (blk_cell BK_E.out 2).trans rfl; have hf1_E_0 := blk_frozen BK_E.out 0; have hf1_E_1 := blk_frozen BK_E.out 1; have hf1_E_2 := blk_frozen BK_E.out 2) | ((with_reducible refine gate_dst (N := 6) rfl ?_); refine box_event ?hg (N := 6) ?hd (cs := #[.int .i64 0, .int .i64 0, .int .i64 0]) (t := 26) ?hr ?_; (case hd => rfl); (case hg => rfl); (case hr => first | (go_simp; done) | (go_simp; rfl)); intro g_R hg w2 hbox hb; have GE_R := Aside0.mk (by rw [hg]; exact (below_size (by repeat (first | (with_reducible first | exact HB.out | apply below_alloc | apply pw_below_drewN | apply below_drew1 | refine below_set ?_ GE_E.out) | exact HB.out))) : w.heap.size ≤ g_R); have NE_E_R := Aside0.mk (by rw [hg]; exact Nat.ne_of_lt (blk_lt (o := .cells #[.int .i64 h, .int .i64 g, .int .i64 b] 26 (0, 0)) (by (with_reducible repeat (first | refine blk_drewN ?_ _ | refine blk_drew ?_ | refine blk_alloc ?_ _)); exact BK_E.out)) : g_E ≠ g_R); have NE_R_E := Aside0.mk (Ne.symm NE_E_R.out); have ne_E_R := NE_E_R.out; have ne_R_E := NE_R_E.out; have m_E := Aside0.mk (blk_below (g := g_E) (o := .cells #[.int .i64 h, .int .i64 g, .int .i64 b] 26 (0, 0)) (by (with_reducible repeat (first | refine blk_drewN ?_ _ | refine blk_drew ?_ | refine blk_alloc ?_ _)); exact BK_E.out) hb); have m_HB := Aside0.mk (below_step (by repeat (first | (with_reducible first | exact HB.out | apply below_alloc | apply pw_below_drewN | apply below_drew1 | refine below_set ?_ GE_E.out) | exact HB.out)) hb); have k_R := Aside0.mk hbox; clear hb hbox hg; clear HB; clear BK_E; have HB := m_HB; have BK_E := m_E; clear m_HB; clear m_E; have BK_R := k_R; clear k_R; have hc2_E_0 : w2.cell? ⟨g_E, 0, none⟩ = some (.int .i64 h) := (blk_cell BK_E.out 0).trans rfl; have hc2_E_1 : w2.cell? ⟨g_E, 1, none⟩ = some (.int .i64 g) := (blk_cell BK_E.out 1).trans rfl; have hc2_E_2 : w2.cell? ⟨g_E, 2, none⟩ = some (.int .i64 b) := (blk_cell BK_E.out 2).trans rfl; have hf2_E_0 := blk_frozen BK_E.out 0; have hf2_E_1 := blk_frozen BK_E.out 1; have hf2_E_2 := blk_frozen BK_E.out 2; have hc2_R_0 : w2.cell? ⟨g_R, 0, none⟩ = some (.int .i64 0) := (blk_cell BK_R.out 0).trans rfl; have hc2_R_1 : w2.cell? ⟨g_R, 1, none⟩ = some (.int .i64 0) := (blk_cell BK_R.out 1).trans rfl; have hc2_R_2 : w2.cell? ⟨g_R, 2, none⟩ = some (.int .i64 0) := (blk_cell BK_R.out 2).trans rfl; have hf2_R_0 := blk_frozen BK_R.out 0; have hf2_R_1 := blk_frozen BK_R.out 1; have hf2_R_2 := blk_frozen BK_R.out 2) | (go_at_call 24; (with_reducible refine (clq_slots _).mono ?_); rintro e w3 ⟨mb, rfl, hge, hmap, hb⟩; have hlk := map_look (P := Try.prog) Try.underlying45 Try.underlying3 mb _ _ hmap 1 0 (.func (.func 28) #[] #[]) rfl; have m_E := Aside0.mk (blk_below (g := g_E) (o := .cells #[.int .i64 h, .int .i64 g, .int .i64 b] 26 (0, 0)) (by (with_reducible repeat (first | refine blk_drewN ?_ _ | refine blk_drew ?_ | refine blk_alloc ?_ _)); exact BK_E.out) hb); have m_R := Aside0.mk (blk_below (g := g_R) (o := .cells #[.int .i64 0, .int .i64 0, .int .i64 0] 26 (0, 0)) (by (with_reducible repeat (first | refine blk_drewN ?_ _ | refine blk_drew ?_ | refine blk_alloc ?_ _)); exact BK_R.out) hb); have m_HB := Aside0.mk (below_step (by repeat (first | (with_reducible first | exact HB.out | apply below_alloc | apply pw_below_drewN | apply below_drew1 | refine below_set ?_ GE_E.out | refine below_set ?_ GE_R.out) | exact HB.out)) hb); clear hb; clear HB; clear BK_E; clear BK_R; have HB := m_HB; have BK_E := m_E; have BK_R := m_R; clear m_HB; clear m_E; clear m_R; have hc3_E_0 : w3.cell? ⟨g_E, 0, none⟩ = some (.int .i64 h) := (blk_cell BK_E.out 0).trans rfl; have hc3_E_1 : w3.cell? ⟨g_E, 1, none⟩ = some (.int .i64 g) := (blk_cell BK_E.out 1).trans rfl; have hc3_E_2 : w3.cell? ⟨g_E, 2, none⟩ = some (.int .i64 b) := (blk_cell BK_E.out 2).trans rfl; have hf3_E_0 := blk_frozen BK_E.out 0; have hf3_E_1 := blk_frozen BK_E.out 1; have hf3_E_2 := blk_frozen BK_E.out 2; have hc3_R_0 : w3.cell? ⟨g_R, 0, none⟩ = some (.int .i64 0) := (blk_cell BK_R.out 0).trans rfl; have hc3_R_1 : w3.cell? ⟨g_R, 1, none⟩ = some (.int .i64 0) := (blk_cell BK_R.out 1).trans rfl; have hc3_R_2 : w3.cell? ⟨g_R, 2, none⟩ = some (.int .i64 0) := (blk_cell BK_R.out 2).trans rfl; have hf3_R_0 := blk_frozen BK_R.out 0; have hf3_R_1 := blk_frozen BK_R.out 1; have hf3_R_2 := blk_frozen BK_R.out 2))
  refine bodyPost_ret (results_cell_row rfl _ _ g_R 26 #[.int .i64 h, .int .i64 g, .int .i64 b] (0, 0) _ rfl (by (with_reducible repeat (first | refine blk_drewN ?_ _ | refine blk_drew ?_ | refine blk_alloc ?_ _)); refine blk_put (cs := #[.int .i64 h, .int .i64 g, .int .i64 0]) ?_ 2 _ rfl; (with_reducible repeat (first | refine blk_drewN ?_ _ | refine blk_drew ?_ | refine blk_alloc ?_ _)); refine blk_put (cs := #[.int .i64 h, .int .i64 0, .int .i64 0]) ?_ 1 _ rfl; (with_reducible repeat (first | refine blk_drewN ?_ _ | refine blk_drew ?_ | refine blk_alloc ?_ _)); refine blk_put (cs := #[.int .i64 0, .int .i64 0, .int .i64 0]) ?_ 0 _ rfl; (with_reducible repeat (first | refine blk_drewN ?_ _ | refine blk_drew ?_ | refine blk_alloc ?_ _)); exact BK_R.out) Try.underlying26 rfl (by kernel_rfl)) rfl ?_
  exact ⟨rfl, by repeat (first | (with_reducible first | exact HB.out | apply below_alloc | apply pw_below_drewN | apply below_drew1 | refine below_set ?_ GE_E.out | refine below_set ?_ GE_R.out) | exact HB.out)⟩

set_option maxHeartbeats 1000000 in
set_option maxRecDepth 100000 in
theorem clq_hear_good_hi (h g b n : Int) (w : World) (hn0 : 0 ≤ n) (hn1 : 16 ≤ n) :
    Calls Try.prog 13 #[.agg #[.int .i64 h, .int .i64 g, .int .i64 b], .int .i64 n, .int .i64 1] w fun e w' => e = .returned (.agg #[.int .i64 h, .int .i64 g, .int .i64 b]) ∧ Below w.heap.size w w' := by
  have hu26 := Try.underlying26
  have hu48 := Try.underlying48
  have HB := Aside0.mk (Below.refl w.heap.size w)
  go_enter Try.func13, Try.ntmps13
  go_wp2_with (first | ((with_reducible refine gate_dst (N := 3) rfl ?_); refine box_event ?hg (N := 3) ?hd (cs := #[.int .i64 h, .int .i64 g, .int .i64 b]) (t := 26) ?hr ?_; (case hd => rfl); (case hg => rfl); (case hr => first | (go_simp; done) | (go_simp; rfl)); intro g_E hg w1 hbox hb; have GE_E := Aside0.mk (by rw [hg]; exact (below_size (by repeat (first | (with_reducible first | exact HB.out | apply below_alloc | apply pw_below_drewN | apply below_drew1) | exact HB.out))) : w.heap.size ≤ g_E); have m_HB := Aside0.mk (below_step (by repeat (first | (with_reducible first | exact HB.out | apply below_alloc | apply pw_below_drewN | apply below_drew1) | exact HB.out)) hb); have k_E := Aside0.mk hbox; clear hb hbox hg; clear HB; have HB := m_HB; clear m_HB; have BK_E := k_E; clear k_E; have hc1_E_0 : w1.cell? ⟨g_E, 0, none⟩ = some (.int .i64 h) := (blk_cell BK_E.out 0).trans rfl; have hc1_E_1 : w1.cell? ⟨g_E, 1, none⟩ = some (.int .i64 g) := (blk_cell BK_E.out 1).trans rfl; have hc1_E_2 : w1.cell? ⟨g_E, 2, none⟩ = some (.int .i64 b) := (blk_cell BK_E.out 2).trans rfl; have hf1_E_0 := blk_frozen BK_E.out 0; have hf1_E_1 := blk_frozen BK_E.out 1; have hf1_E_2 := blk_frozen BK_E.out 2) | ((with_reducible refine gate_dst (N := 6) rfl ?_); refine box_event ?hg (N := 6) ?hd (cs := #[.int .i64 0, .int .i64 0, .int .i64 0]) (t := 26) ?hr ?_; (case hd => rfl); (case hg => rfl); (case hr => first | (go_simp; done) | (go_simp; rfl)); intro g_R hg w2 hbox hb; have GE_R := Aside0.mk (by rw [hg]; exact (below_size (by repeat (first | (with_reducible first | exact HB.out | apply below_alloc | apply pw_below_drewN | apply below_drew1 | refine below_set ?_ GE_E.out) | exact HB.out))) : w.heap.size ≤ g_R); have NE_E_R := Aside0.mk (by rw [hg]; exact Nat.ne_of_lt (blk_lt (o := .cells #[.int .i64 h, .int .i64 g, .int .i64 b] 26 (0, 0)) (by (with_reducible repeat (first | refine blk_drewN ?_ _ | refine blk_drew ?_ | refine blk_alloc ?_ _)); exact BK_E.out)) : g_E ≠ g_R); have NE_R_E := Aside0.mk (Ne.symm NE_E_R.out); have ne_E_R := NE_E_R.out; have ne_R_E := NE_R_E.out; have m_E := Aside0.mk (blk_below (g := g_E) (o := .cells #[.int .i64 h, .int .i64 g, .int .i64 b] 26 (0, 0)) (by (with_reducible repeat (first | refine blk_drewN ?_ _ | refine blk_drew ?_ | refine blk_alloc ?_ _)); exact BK_E.out) hb); have m_HB := Aside0.mk (below_step (by repeat (first | (with_reducible first | exact HB.out | apply below_alloc | apply pw_below_drewN | apply below_drew1 | refine below_set ?_ GE_E.out) | exact HB.out)) hb); have k_R := Aside0.mk hbox; clear hb hbox hg; clear HB; clear BK_E; have HB := m_HB; have BK_E := m_E; clear m_HB; clear m_E; have BK_R := k_R; clear k_R; have hc2_E_0 : w2.cell? ⟨g_E, 0, none⟩ = some (.int .i64 h) := (blk_cell BK_E.out 0).trans rfl; have hc2_E_1 : w2.cell? ⟨g_E, 1, none⟩ = some (.int .i64 g) := (blk_cell BK_E.out 1).trans rfl; have hc2_E_2 : w2.cell? ⟨g_E, 2, none⟩ = some (.int .i64 b) := (blk_cell BK_E.out 2).trans rfl; have hf2_E_0 := blk_frozen BK_E.out 0; have hf2_E_1 := blk_frozen BK_E.out 1; have hf2_E_2 := blk_frozen BK_E.out 2; have hc2_R_0 : w2.cell? ⟨g_R, 0, none⟩ = some (.int .i64 0) := (blk_cell BK_R.out 0).trans rfl; have hc2_R_1 : w2.cell? ⟨g_R, 1, none⟩ = some (.int .i64 0) := (blk_cell BK_R.out 1).trans rfl; have hc2_R_2 : w2.cell? ⟨g_R, 2, none⟩ = some (.int .i64 0) := (blk_cell BK_R.out 2).trans rfl; have hf2_R_0 := blk_frozen BK_R.out 0; have hf2_R_1 := blk_frozen BK_R.out 1; have hf2_R_2 := blk_frozen BK_R.out 2) | (go_at_call 24; (with_reducible refine (clq_slots _).mono ?_); rintro e w3 ⟨mb, rfl, hge, hmap, hb⟩; have hlk := map_look (P := Try.prog) Try.underlying45 Try.underlying3 mb _ _ hmap 1 0 (.func (.func 28) #[] #[]) rfl; have m_E := Aside0.mk (blk_below (g := g_E) (o := .cells #[.int .i64 h, .int .i64 g, .int .i64 b] 26 (0, 0)) (by (with_reducible repeat (first | refine blk_drewN ?_ _ | refine blk_drew ?_ | refine blk_alloc ?_ _)); exact BK_E.out) hb); have m_R := Aside0.mk (blk_below (g := g_R) (o := .cells #[.int .i64 0, .int .i64 0, .int .i64 0] 26 (0, 0)) (by (with_reducible repeat (first | refine blk_drewN ?_ _ | refine blk_drew ?_ | refine blk_alloc ?_ _)); exact BK_R.out) hb); have m_HB := Aside0.mk (below_step (by repeat (first | (with_reducible first | exact HB.out | apply below_alloc | apply pw_below_drewN | apply below_drew1 | refine below_set ?_ GE_E.out | refine below_set ?_ GE_R.out) | exact HB.out)) hb); clear hb; clear HB; clear BK_E; clear BK_R; have HB := m_HB; have BK_E := m_E; have BK_R := m_R; clear m_HB; clear m_E; clear m_R; have hc3_E_0 : w3.cell? ⟨g_E, 0, none⟩ = some (.int .i64 h) := (blk_cell BK_E.out 0).trans rfl; have hc3_E_1 : w3.cell? ⟨g_E, 1, none⟩ = some (.int .i64 g) := (blk_cell BK_E.out 1).trans rfl; have hc3_E_2 : w3.cell? ⟨g_E, 2, none⟩ = some (.int .i64 b) := (blk_cell BK_E.out 2).trans rfl; have hf3_E_0 := blk_frozen BK_E.out 0; have hf3_E_1 := blk_frozen BK_E.out 1; have hf3_E_2 := blk_frozen BK_E.out 2; have hc3_R_0 : w3.cell? ⟨g_R, 0, none⟩ = some (.int .i64 0) := (blk_cell BK_R.out 0).trans rfl; have hc3_R_1 : w3.cell? ⟨g_R, 1, none⟩ = some (.int .i64 0) := (blk_cell BK_R.out 1).trans rfl; have hc3_R_2 : w3.cell? ⟨g_R, 2, none⟩ = some (.int .i64 0) := (blk_cell BK_R.out 2).trans rfl; have hf3_R_0 := blk_frozen BK_R.out 0; have hf3_R_1 := blk_frozen BK_R.out 1; have hf3_R_2 := blk_frozen BK_R.out 2))
  refine bodyPost_ret (results_cell_row rfl _ _ g_R 26 #[.int .i64 h, .int .i64 g, .int .i64 b] (0, 0) _ rfl (by (with_reducible repeat (first | refine blk_drewN ?_ _ | refine blk_drew ?_ | refine blk_alloc ?_ _)); refine blk_put (cs := #[.int .i64 h, .int .i64 g, .int .i64 0]) ?_ 2 _ rfl; (with_reducible repeat (first | refine blk_drewN ?_ _ | refine blk_drew ?_ | refine blk_alloc ?_ _)); refine blk_put (cs := #[.int .i64 h, .int .i64 0, .int .i64 0]) ?_ 1 _ rfl; (with_reducible repeat (first | refine blk_drewN ?_ _ | refine blk_drew ?_ | refine blk_alloc ?_ _)); refine blk_put (cs := #[.int .i64 0, .int .i64 0, .int .i64 0]) ?_ 0 _ rfl; (with_reducible repeat (first | refine blk_drewN ?_ _ | refine blk_drew ?_ | refine blk_alloc ?_ _)); exact BK_R.out) Try.underlying26 rfl (by kernel_rfl)) rfl ?_
  exact ⟨rfl, by repeat (first | (with_reducible first | exact HB.out | apply below_alloc | apply pw_below_drewN | apply below_drew1 | refine below_set ?_ GE_E.out | refine below_set ?_ GE_R.out) | exact HB.out)⟩

set_option maxHeartbeats 1000000 in
set_option maxRecDepth 100000 in
theorem clq_hear_bad_ok (h g b n : Int) (w : World) (hn0 : 0 ≤ n) (hn1 : n < 16) :
    Calls Try.prog 13 #[.agg #[.int .i64 h, .int .i64 g, .int .i64 b], .int .i64 n, .int .i64 2] w fun e w' => e = .returned (.agg #[.int .i64 h, .int .i64 g, .int .i64 (if b < 1073741824 then wrap64 (b + 1) else b)]) ∧ Below w.heap.size w w' := by
  have hu26 := Try.underlying26
  have hu48 := Try.underlying48
  have HB := Aside0.mk (Below.refl w.heap.size w)
  obtain ⟨q, hq⟩ : ∃ q, (if b < 1073741824 then wrap64 (b + 1) else b) = q := ⟨_, rfl⟩
  rw [hq]
  have HQ := Aside0.mk hq
  clear hq
  go_enter Try.func13, Try.ntmps13
  go_wp2_with (first | ((with_reducible refine gate_dst (N := 3) rfl ?_); refine box_event ?hg (N := 3) ?hd (cs := #[.int .i64 h, .int .i64 g, .int .i64 b]) (t := 26) ?hr ?_; (case hd => rfl); (case hg => rfl); (case hr => first | (go_simp; done) | (go_simp; rfl)); intro g_E hg w1 hbox hb; have GE_E := Aside0.mk (by rw [hg]; exact (below_size (by repeat (first | (with_reducible first | exact HB.out | apply below_alloc | apply pw_below_drewN | apply below_drew1) | exact HB.out))) : w.heap.size ≤ g_E); have m_HB := Aside0.mk (below_step (by repeat (first | (with_reducible first | exact HB.out | apply below_alloc | apply pw_below_drewN | apply below_drew1) | exact HB.out)) hb); have k_E := Aside0.mk hbox; clear hb hbox hg; clear HB; have HB := m_HB; clear m_HB; have BK_E := k_E; clear k_E; have hc1_E_0 : w1.cell? ⟨g_E, 0, none⟩ = some (.int .i64 h) := (blk_cell BK_E.out 0).trans rfl; have hc1_E_1 : w1.cell? ⟨g_E, 1, none⟩ = some (.int .i64 g) := (blk_cell BK_E.out 1).trans rfl; have hc1_E_2 : w1.cell? ⟨g_E, 2, none⟩ = some (.int .i64 b) := (blk_cell BK_E.out 2).trans rfl; have hf1_E_0 := blk_frozen BK_E.out 0; have hf1_E_1 := blk_frozen BK_E.out 1; have hf1_E_2 := blk_frozen BK_E.out 2) | ((with_reducible refine gate_dst (N := 6) rfl ?_); refine box_event ?hg (N := 6) ?hd (cs := #[.int .i64 0, .int .i64 0, .int .i64 0]) (t := 26) ?hr ?_; (case hd => rfl); (case hg => rfl); (case hr => first | (go_simp; done) | (go_simp; rfl)); intro g_R hg w2 hbox hb; have GE_R := Aside0.mk (by rw [hg]; exact (below_size (by repeat (first | (with_reducible first | exact HB.out | apply below_alloc | apply pw_below_drewN | apply below_drew1 | refine below_set ?_ GE_E.out) | exact HB.out))) : w.heap.size ≤ g_R); have NE_E_R := Aside0.mk (by rw [hg]; exact Nat.ne_of_lt (blk_lt (o := .cells #[.int .i64 h, .int .i64 g, .int .i64 b] 26 (0, 0)) (by (with_reducible repeat (first | refine blk_drewN ?_ _ | refine blk_drew ?_ | refine blk_alloc ?_ _)); exact BK_E.out)) : g_E ≠ g_R); have NE_R_E := Aside0.mk (Ne.symm NE_E_R.out); have ne_E_R := NE_E_R.out; have ne_R_E := NE_R_E.out; have m_E := Aside0.mk (blk_below (g := g_E) (o := .cells #[.int .i64 h, .int .i64 g, .int .i64 b] 26 (0, 0)) (by (with_reducible repeat (first | refine blk_drewN ?_ _ | refine blk_drew ?_ | refine blk_alloc ?_ _)); exact BK_E.out) hb); have m_HB := Aside0.mk (below_step (by repeat (first | (with_reducible first | exact HB.out | apply below_alloc | apply pw_below_drewN | apply below_drew1 | refine below_set ?_ GE_E.out) | exact HB.out)) hb); have k_R := Aside0.mk hbox; clear hb hbox hg; clear HB; clear BK_E; have HB := m_HB; have BK_E := m_E; clear m_HB; clear m_E; have BK_R := k_R; clear k_R; have hc2_E_0 : w2.cell? ⟨g_E, 0, none⟩ = some (.int .i64 h) := (blk_cell BK_E.out 0).trans rfl; have hc2_E_1 : w2.cell? ⟨g_E, 1, none⟩ = some (.int .i64 g) := (blk_cell BK_E.out 1).trans rfl; have hc2_E_2 : w2.cell? ⟨g_E, 2, none⟩ = some (.int .i64 b) := (blk_cell BK_E.out 2).trans rfl; have hf2_E_0 := blk_frozen BK_E.out 0; have hf2_E_1 := blk_frozen BK_E.out 1; have hf2_E_2 := blk_frozen BK_E.out 2; have hc2_R_0 : w2.cell? ⟨g_R, 0, none⟩ = some (.int .i64 0) := (blk_cell BK_R.out 0).trans rfl; have hc2_R_1 : w2.cell? ⟨g_R, 1, none⟩ = some (.int .i64 0) := (blk_cell BK_R.out 1).trans rfl; have hc2_R_2 : w2.cell? ⟨g_R, 2, none⟩ = some (.int .i64 0) := (blk_cell BK_R.out 2).trans rfl; have hf2_R_0 := blk_frozen BK_R.out 0; have hf2_R_1 := blk_frozen BK_R.out 1; have hf2_R_2 := blk_frozen BK_R.out 2) | (go_at_call 24; (with_reducible refine (clq_slots _).mono ?_); rintro e w3 ⟨mb, rfl, hge, hmap, hb⟩; have hlk := map_look (P := Try.prog) Try.underlying45 Try.underlying3 mb _ _ hmap 2 1 (.func (.func 29) #[] #[]) rfl; have m_E := Aside0.mk (blk_below (g := g_E) (o := .cells #[.int .i64 h, .int .i64 g, .int .i64 b] 26 (0, 0)) (by (with_reducible repeat (first | refine blk_drewN ?_ _ | refine blk_drew ?_ | refine blk_alloc ?_ _)); exact BK_E.out) hb); have m_R := Aside0.mk (blk_below (g := g_R) (o := .cells #[.int .i64 0, .int .i64 0, .int .i64 0] 26 (0, 0)) (by (with_reducible repeat (first | refine blk_drewN ?_ _ | refine blk_drew ?_ | refine blk_alloc ?_ _)); exact BK_R.out) hb); have m_HB := Aside0.mk (below_step (by repeat (first | (with_reducible first | exact HB.out | apply below_alloc | apply pw_below_drewN | apply below_drew1 | refine below_set ?_ GE_E.out | refine below_set ?_ GE_R.out) | exact HB.out)) hb); clear hb; clear HB; clear BK_E; clear BK_R; have HB := m_HB; have BK_E := m_E; have BK_R := m_R; clear m_HB; clear m_E; clear m_R; have hc3_E_0 : w3.cell? ⟨g_E, 0, none⟩ = some (.int .i64 h) := (blk_cell BK_E.out 0).trans rfl; have hc3_E_1 : w3.cell? ⟨g_E, 1, none⟩ = some (.int .i64 g) := (blk_cell BK_E.out 1).trans rfl; have hc3_E_2 : w3.cell? ⟨g_E, 2, none⟩ = some (.int .i64 b) := (blk_cell BK_E.out 2).trans rfl; have hf3_E_0 := blk_frozen BK_E.out 0; have hf3_E_1 := blk_frozen BK_E.out 1; have hf3_E_2 := blk_frozen BK_E.out 2; have hc3_R_0 : w3.cell? ⟨g_R, 0, none⟩ = some (.int .i64 0) := (blk_cell BK_R.out 0).trans rfl; have hc3_R_1 : w3.cell? ⟨g_R, 1, none⟩ = some (.int .i64 0) := (blk_cell BK_R.out 1).trans rfl; have hc3_R_2 : w3.cell? ⟨g_R, 2, none⟩ = some (.int .i64 0) := (blk_cell BK_R.out 2).trans rfl; have hf3_R_0 := blk_frozen BK_R.out 0; have hf3_R_1 := blk_frozen BK_R.out 1; have hf3_R_2 := blk_frozen BK_R.out 2) | (go_at_call 29; (with_reducible refine (clq_bad h g b n 0 _).mono ?_); rintro e w4 ⟨rfl, hb⟩; rw [HQ.out]; have m_E := Aside0.mk (blk_below (g := g_E) (o := .cells #[.int .i64 h, .int .i64 g, .int .i64 b] 26 (0, 0)) (by (with_reducible repeat (first | refine blk_drewN ?_ _ | refine blk_drew ?_ | refine blk_alloc ?_ _)); exact BK_E.out) hb); have m_R := Aside0.mk (blk_below (g := g_R) (o := .cells #[.int .i64 0, .int .i64 0, .int .i64 0] 26 (0, 0)) (by (with_reducible repeat (first | refine blk_drewN ?_ _ | refine blk_drew ?_ | refine blk_alloc ?_ _)); exact BK_R.out) hb); have m_HB := Aside0.mk (below_step (by repeat (first | (with_reducible first | exact HB.out | apply below_alloc | apply pw_below_drewN | apply below_drew1 | refine below_set ?_ GE_E.out | refine below_set ?_ GE_R.out) | exact HB.out)) hb); clear hb; clear HB; clear BK_E; clear BK_R; have HB := m_HB; have BK_E := m_E; have BK_R := m_R; clear m_HB; clear m_E; clear m_R; have hc4_E_0 : w4.cell? ⟨g_E, 0, none⟩ = some (.int .i64 h) := (blk_cell BK_E.out 0).trans rfl; have hc4_E_1 : w4.cell? ⟨g_E, 1, none⟩ = some (.int .i64 g) := (blk_cell BK_E.out 1).trans rfl; have hc4_E_2 : w4.cell? ⟨g_E, 2, none⟩ = some (.int .i64 b) := (blk_cell BK_E.out 2).trans rfl; have hf4_E_0 := blk_frozen BK_E.out 0; have hf4_E_1 := blk_frozen BK_E.out 1; have hf4_E_2 := blk_frozen BK_E.out 2; have hc4_R_0 : w4.cell? ⟨g_R, 0, none⟩ = some (.int .i64 0) := (blk_cell BK_R.out 0).trans rfl; have hc4_R_1 : w4.cell? ⟨g_R, 1, none⟩ = some (.int .i64 0) := (blk_cell BK_R.out 1).trans rfl; have hc4_R_2 : w4.cell? ⟨g_R, 2, none⟩ = some (.int .i64 0) := (blk_cell BK_R.out 2).trans rfl; have hf4_R_0 := blk_frozen BK_R.out 0; have hf4_R_1 := blk_frozen BK_R.out 1; have hf4_R_2 := blk_frozen BK_R.out 2))
  refine bodyPost_ret (results_cell_row rfl _ _ g_R 26 #[.int .i64 h, .int .i64 g, .int .i64 q] (0, 0) _ rfl (by (with_reducible repeat (first | refine blk_drewN ?_ _ | refine blk_drew ?_ | refine blk_alloc ?_ _)); refine blk_put (cs := #[.int .i64 h, .int .i64 g, .int .i64 0]) ?_ 2 _ rfl; (with_reducible repeat (first | refine blk_drewN ?_ _ | refine blk_drew ?_ | refine blk_alloc ?_ _)); refine blk_put (cs := #[.int .i64 h, .int .i64 0, .int .i64 0]) ?_ 1 _ rfl; (with_reducible repeat (first | refine blk_drewN ?_ _ | refine blk_drew ?_ | refine blk_alloc ?_ _)); refine blk_put (cs := #[.int .i64 0, .int .i64 0, .int .i64 0]) ?_ 0 _ rfl; (with_reducible repeat (first | refine blk_drewN ?_ _ | refine blk_drew ?_ | refine blk_alloc ?_ _)); exact BK_R.out) Try.underlying26 rfl (by kernel_rfl)) rfl ?_
  exact ⟨rfl, by repeat (first | (with_reducible first | exact HB.out | apply below_alloc | apply pw_below_drewN | apply below_drew1 | refine below_set ?_ GE_E.out | refine below_set ?_ GE_R.out) | exact HB.out)⟩

set_option maxHeartbeats 1000000 in
set_option maxRecDepth 100000 in
theorem clq_hear_bad_lo (h g b n : Int) (w : World) (hn0 : n < 0) :
    Calls Try.prog 13 #[.agg #[.int .i64 h, .int .i64 g, .int .i64 b], .int .i64 n, .int .i64 2] w fun e w' => e = .returned (.agg #[.int .i64 h, .int .i64 g, .int .i64 b]) ∧ Below w.heap.size w w' := by
  have hu26 := Try.underlying26
  have hu48 := Try.underlying48
  have HB := Aside0.mk (Below.refl w.heap.size w)
  go_enter Try.func13, Try.ntmps13
  go_wp2_with (first | ((with_reducible refine gate_dst (N := 3) rfl ?_); refine box_event ?hg (N := 3) ?hd (cs := #[.int .i64 h, .int .i64 g, .int .i64 b]) (t := 26) ?hr ?_; (case hd => rfl); (case hg => rfl); (case hr => first | (go_simp; done) | (go_simp; rfl)); intro g_E hg w1 hbox hb; have GE_E := Aside0.mk (by rw [hg]; exact (below_size (by repeat (first | (with_reducible first | exact HB.out | apply below_alloc | apply pw_below_drewN | apply below_drew1) | exact HB.out))) : w.heap.size ≤ g_E); have m_HB := Aside0.mk (below_step (by repeat (first | (with_reducible first | exact HB.out | apply below_alloc | apply pw_below_drewN | apply below_drew1) | exact HB.out)) hb); have k_E := Aside0.mk hbox; clear hb hbox hg; clear HB; have HB := m_HB; clear m_HB; have BK_E := k_E; clear k_E; have hc1_E_0 : w1.cell? ⟨g_E, 0, none⟩ = some (.int .i64 h) := (blk_cell BK_E.out 0).trans rfl; have hc1_E_1 : w1.cell? ⟨g_E, 1, none⟩ = some (.int .i64 g) := (blk_cell BK_E.out 1).trans rfl; have hc1_E_2 : w1.cell? ⟨g_E, 2, none⟩ = some (.int .i64 b) := (blk_cell BK_E.out 2).trans rfl; have hf1_E_0 := blk_frozen BK_E.out 0; have hf1_E_1 := blk_frozen BK_E.out 1; have hf1_E_2 := blk_frozen BK_E.out 2) | ((with_reducible refine gate_dst (N := 6) rfl ?_); refine box_event ?hg (N := 6) ?hd (cs := #[.int .i64 0, .int .i64 0, .int .i64 0]) (t := 26) ?hr ?_; (case hd => rfl); (case hg => rfl); (case hr => first | (go_simp; done) | (go_simp; rfl)); intro g_R hg w2 hbox hb; have GE_R := Aside0.mk (by rw [hg]; exact (below_size (by repeat (first | (with_reducible first | exact HB.out | apply below_alloc | apply pw_below_drewN | apply below_drew1 | refine below_set ?_ GE_E.out) | exact HB.out))) : w.heap.size ≤ g_R); have NE_E_R := Aside0.mk (by rw [hg]; exact Nat.ne_of_lt (blk_lt (o := .cells #[.int .i64 h, .int .i64 g, .int .i64 b] 26 (0, 0)) (by (with_reducible repeat (first | refine blk_drewN ?_ _ | refine blk_drew ?_ | refine blk_alloc ?_ _)); exact BK_E.out)) : g_E ≠ g_R); have NE_R_E := Aside0.mk (Ne.symm NE_E_R.out); have ne_E_R := NE_E_R.out; have ne_R_E := NE_R_E.out; have m_E := Aside0.mk (blk_below (g := g_E) (o := .cells #[.int .i64 h, .int .i64 g, .int .i64 b] 26 (0, 0)) (by (with_reducible repeat (first | refine blk_drewN ?_ _ | refine blk_drew ?_ | refine blk_alloc ?_ _)); exact BK_E.out) hb); have m_HB := Aside0.mk (below_step (by repeat (first | (with_reducible first | exact HB.out | apply below_alloc | apply pw_below_drewN | apply below_drew1 | refine below_set ?_ GE_E.out) | exact HB.out)) hb); have k_R := Aside0.mk hbox; clear hb hbox hg; clear HB; clear BK_E; have HB := m_HB; have BK_E := m_E; clear m_HB; clear m_E; have BK_R := k_R; clear k_R; have hc2_E_0 : w2.cell? ⟨g_E, 0, none⟩ = some (.int .i64 h) := (blk_cell BK_E.out 0).trans rfl; have hc2_E_1 : w2.cell? ⟨g_E, 1, none⟩ = some (.int .i64 g) := (blk_cell BK_E.out 1).trans rfl; have hc2_E_2 : w2.cell? ⟨g_E, 2, none⟩ = some (.int .i64 b) := (blk_cell BK_E.out 2).trans rfl; have hf2_E_0 := blk_frozen BK_E.out 0; have hf2_E_1 := blk_frozen BK_E.out 1; have hf2_E_2 := blk_frozen BK_E.out 2; have hc2_R_0 : w2.cell? ⟨g_R, 0, none⟩ = some (.int .i64 0) := (blk_cell BK_R.out 0).trans rfl; have hc2_R_1 : w2.cell? ⟨g_R, 1, none⟩ = some (.int .i64 0) := (blk_cell BK_R.out 1).trans rfl; have hc2_R_2 : w2.cell? ⟨g_R, 2, none⟩ = some (.int .i64 0) := (blk_cell BK_R.out 2).trans rfl; have hf2_R_0 := blk_frozen BK_R.out 0; have hf2_R_1 := blk_frozen BK_R.out 1; have hf2_R_2 := blk_frozen BK_R.out 2) | (go_at_call 24; (with_reducible refine (clq_slots _).mono ?_); rintro e w3 ⟨mb, rfl, hge, hmap, hb⟩; have hlk := map_look (P := Try.prog) Try.underlying45 Try.underlying3 mb _ _ hmap 2 1 (.func (.func 29) #[] #[]) rfl; have m_E := Aside0.mk (blk_below (g := g_E) (o := .cells #[.int .i64 h, .int .i64 g, .int .i64 b] 26 (0, 0)) (by (with_reducible repeat (first | refine blk_drewN ?_ _ | refine blk_drew ?_ | refine blk_alloc ?_ _)); exact BK_E.out) hb); have m_R := Aside0.mk (blk_below (g := g_R) (o := .cells #[.int .i64 0, .int .i64 0, .int .i64 0] 26 (0, 0)) (by (with_reducible repeat (first | refine blk_drewN ?_ _ | refine blk_drew ?_ | refine blk_alloc ?_ _)); exact BK_R.out) hb); have m_HB := Aside0.mk (below_step (by repeat (first | (with_reducible first | exact HB.out | apply below_alloc | apply pw_below_drewN | apply below_drew1 | refine below_set ?_ GE_E.out | refine below_set ?_ GE_R.out) | exact HB.out)) hb); clear hb; clear HB; clear BK_E; clear BK_R; have HB := m_HB; have BK_E := m_E; have BK_R := m_R; clear m_HB; clear m_E; clear m_R; have hc3_E_0 : w3.cell? ⟨g_E, 0, none⟩ = some (.int .i64 h) := (blk_cell BK_E.out 0).trans rfl; have hc3_E_1 : w3.cell? ⟨g_E, 1, none⟩ = some (.int .i64 g) := (blk_cell BK_E.out 1).trans rfl; have hc3_E_2 : w3.cell? ⟨g_E, 2, none⟩ = some (.int .i64 b) := (blk_cell BK_E.out 2).trans rfl; have hf3_E_0 := blk_frozen BK_E.out 0; have hf3_E_1 := blk_frozen BK_E.out 1; have hf3_E_2 := blk_frozen BK_E.out 2; have hc3_R_0 : w3.cell? ⟨g_R, 0, none⟩ = some (.int .i64 0) := (blk_cell BK_R.out 0).trans rfl; have hc3_R_1 : w3.cell? ⟨g_R, 1, none⟩ = some (.int .i64 0) := (blk_cell BK_R.out 1).trans rfl; have hc3_R_2 : w3.cell? ⟨g_R, 2, none⟩ = some (.int .i64 0) := (blk_cell BK_R.out 2).trans rfl; have hf3_R_0 := blk_frozen BK_R.out 0; have hf3_R_1 := blk_frozen BK_R.out 1; have hf3_R_2 := blk_frozen BK_R.out 2))
  refine bodyPost_ret (results_cell_row rfl _ _ g_R 26 #[.int .i64 h, .int .i64 g, .int .i64 b] (0, 0) _ rfl (by (with_reducible repeat (first | refine blk_drewN ?_ _ | refine blk_drew ?_ | refine blk_alloc ?_ _)); refine blk_put (cs := #[.int .i64 h, .int .i64 g, .int .i64 0]) ?_ 2 _ rfl; (with_reducible repeat (first | refine blk_drewN ?_ _ | refine blk_drew ?_ | refine blk_alloc ?_ _)); refine blk_put (cs := #[.int .i64 h, .int .i64 0, .int .i64 0]) ?_ 1 _ rfl; (with_reducible repeat (first | refine blk_drewN ?_ _ | refine blk_drew ?_ | refine blk_alloc ?_ _)); refine blk_put (cs := #[.int .i64 0, .int .i64 0, .int .i64 0]) ?_ 0 _ rfl; (with_reducible repeat (first | refine blk_drewN ?_ _ | refine blk_drew ?_ | refine blk_alloc ?_ _)); exact BK_R.out) Try.underlying26 rfl (by kernel_rfl)) rfl ?_
  exact ⟨rfl, by repeat (first | (with_reducible first | exact HB.out | apply below_alloc | apply pw_below_drewN | apply below_drew1 | refine below_set ?_ GE_E.out | refine below_set ?_ GE_R.out) | exact HB.out)⟩

set_option maxHeartbeats 1000000 in
set_option maxRecDepth 100000 in
theorem clq_hear_bad_hi (h g b n : Int) (w : World) (hn0 : 0 ≤ n) (hn1 : 16 ≤ n) :
    Calls Try.prog 13 #[.agg #[.int .i64 h, .int .i64 g, .int .i64 b], .int .i64 n, .int .i64 2] w fun e w' => e = .returned (.agg #[.int .i64 h, .int .i64 g, .int .i64 b]) ∧ Below w.heap.size w w' := by
  have hu26 := Try.underlying26
  have hu48 := Try.underlying48
  have HB := Aside0.mk (Below.refl w.heap.size w)
  go_enter Try.func13, Try.ntmps13
  go_wp2_with (first | ((with_reducible refine gate_dst (N := 3) rfl ?_); refine box_event ?hg (N := 3) ?hd (cs := #[.int .i64 h, .int .i64 g, .int .i64 b]) (t := 26) ?hr ?_; (case hd => rfl); (case hg => rfl); (case hr => first | (go_simp; done) | (go_simp; rfl)); intro g_E hg w1 hbox hb; have GE_E := Aside0.mk (by rw [hg]; exact (below_size (by repeat (first | (with_reducible first | exact HB.out | apply below_alloc | apply pw_below_drewN | apply below_drew1) | exact HB.out))) : w.heap.size ≤ g_E); have m_HB := Aside0.mk (below_step (by repeat (first | (with_reducible first | exact HB.out | apply below_alloc | apply pw_below_drewN | apply below_drew1) | exact HB.out)) hb); have k_E := Aside0.mk hbox; clear hb hbox hg; clear HB; have HB := m_HB; clear m_HB; have BK_E := k_E; clear k_E; have hc1_E_0 : w1.cell? ⟨g_E, 0, none⟩ = some (.int .i64 h) := (blk_cell BK_E.out 0).trans rfl; have hc1_E_1 : w1.cell? ⟨g_E, 1, none⟩ = some (.int .i64 g) := (blk_cell BK_E.out 1).trans rfl; have hc1_E_2 : w1.cell? ⟨g_E, 2, none⟩ = some (.int .i64 b) := (blk_cell BK_E.out 2).trans rfl; have hf1_E_0 := blk_frozen BK_E.out 0; have hf1_E_1 := blk_frozen BK_E.out 1; have hf1_E_2 := blk_frozen BK_E.out 2) | ((with_reducible refine gate_dst (N := 6) rfl ?_); refine box_event ?hg (N := 6) ?hd (cs := #[.int .i64 0, .int .i64 0, .int .i64 0]) (t := 26) ?hr ?_; (case hd => rfl); (case hg => rfl); (case hr => first | (go_simp; done) | (go_simp; rfl)); intro g_R hg w2 hbox hb; have GE_R := Aside0.mk (by rw [hg]; exact (below_size (by repeat (first | (with_reducible first | exact HB.out | apply below_alloc | apply pw_below_drewN | apply below_drew1 | refine below_set ?_ GE_E.out) | exact HB.out))) : w.heap.size ≤ g_R); have NE_E_R := Aside0.mk (by rw [hg]; exact Nat.ne_of_lt (blk_lt (o := .cells #[.int .i64 h, .int .i64 g, .int .i64 b] 26 (0, 0)) (by (with_reducible repeat (first | refine blk_drewN ?_ _ | refine blk_drew ?_ | refine blk_alloc ?_ _)); exact BK_E.out)) : g_E ≠ g_R); have NE_R_E := Aside0.mk (Ne.symm NE_E_R.out); have ne_E_R := NE_E_R.out; have ne_R_E := NE_R_E.out; have m_E := Aside0.mk (blk_below (g := g_E) (o := .cells #[.int .i64 h, .int .i64 g, .int .i64 b] 26 (0, 0)) (by (with_reducible repeat (first | refine blk_drewN ?_ _ | refine blk_drew ?_ | refine blk_alloc ?_ _)); exact BK_E.out) hb); have m_HB := Aside0.mk (below_step (by repeat (first | (with_reducible first | exact HB.out | apply below_alloc | apply pw_below_drewN | apply below_drew1 | refine below_set ?_ GE_E.out) | exact HB.out)) hb); have k_R := Aside0.mk hbox; clear hb hbox hg; clear HB; clear BK_E; have HB := m_HB; have BK_E := m_E; clear m_HB; clear m_E; have BK_R := k_R; clear k_R; have hc2_E_0 : w2.cell? ⟨g_E, 0, none⟩ = some (.int .i64 h) := (blk_cell BK_E.out 0).trans rfl; have hc2_E_1 : w2.cell? ⟨g_E, 1, none⟩ = some (.int .i64 g) := (blk_cell BK_E.out 1).trans rfl; have hc2_E_2 : w2.cell? ⟨g_E, 2, none⟩ = some (.int .i64 b) := (blk_cell BK_E.out 2).trans rfl; have hf2_E_0 := blk_frozen BK_E.out 0; have hf2_E_1 := blk_frozen BK_E.out 1; have hf2_E_2 := blk_frozen BK_E.out 2; have hc2_R_0 : w2.cell? ⟨g_R, 0, none⟩ = some (.int .i64 0) := (blk_cell BK_R.out 0).trans rfl; have hc2_R_1 : w2.cell? ⟨g_R, 1, none⟩ = some (.int .i64 0) := (blk_cell BK_R.out 1).trans rfl; have hc2_R_2 : w2.cell? ⟨g_R, 2, none⟩ = some (.int .i64 0) := (blk_cell BK_R.out 2).trans rfl; have hf2_R_0 := blk_frozen BK_R.out 0; have hf2_R_1 := blk_frozen BK_R.out 1; have hf2_R_2 := blk_frozen BK_R.out 2) | (go_at_call 24; (with_reducible refine (clq_slots _).mono ?_); rintro e w3 ⟨mb, rfl, hge, hmap, hb⟩; have hlk := map_look (P := Try.prog) Try.underlying45 Try.underlying3 mb _ _ hmap 2 1 (.func (.func 29) #[] #[]) rfl; have m_E := Aside0.mk (blk_below (g := g_E) (o := .cells #[.int .i64 h, .int .i64 g, .int .i64 b] 26 (0, 0)) (by (with_reducible repeat (first | refine blk_drewN ?_ _ | refine blk_drew ?_ | refine blk_alloc ?_ _)); exact BK_E.out) hb); have m_R := Aside0.mk (blk_below (g := g_R) (o := .cells #[.int .i64 0, .int .i64 0, .int .i64 0] 26 (0, 0)) (by (with_reducible repeat (first | refine blk_drewN ?_ _ | refine blk_drew ?_ | refine blk_alloc ?_ _)); exact BK_R.out) hb); have m_HB := Aside0.mk (below_step (by repeat (first | (with_reducible first | exact HB.out | apply below_alloc | apply pw_below_drewN | apply below_drew1 | refine below_set ?_ GE_E.out | refine below_set ?_ GE_R.out) | exact HB.out)) hb); clear hb; clear HB; clear BK_E; clear BK_R; have HB := m_HB; have BK_E := m_E; have BK_R := m_R; clear m_HB; clear m_E; clear m_R; have hc3_E_0 : w3.cell? ⟨g_E, 0, none⟩ = some (.int .i64 h) := (blk_cell BK_E.out 0).trans rfl; have hc3_E_1 : w3.cell? ⟨g_E, 1, none⟩ = some (.int .i64 g) := (blk_cell BK_E.out 1).trans rfl; have hc3_E_2 : w3.cell? ⟨g_E, 2, none⟩ = some (.int .i64 b) := (blk_cell BK_E.out 2).trans rfl; have hf3_E_0 := blk_frozen BK_E.out 0; have hf3_E_1 := blk_frozen BK_E.out 1; have hf3_E_2 := blk_frozen BK_E.out 2; have hc3_R_0 : w3.cell? ⟨g_R, 0, none⟩ = some (.int .i64 0) := (blk_cell BK_R.out 0).trans rfl; have hc3_R_1 : w3.cell? ⟨g_R, 1, none⟩ = some (.int .i64 0) := (blk_cell BK_R.out 1).trans rfl; have hc3_R_2 : w3.cell? ⟨g_R, 2, none⟩ = some (.int .i64 0) := (blk_cell BK_R.out 2).trans rfl; have hf3_R_0 := blk_frozen BK_R.out 0; have hf3_R_1 := blk_frozen BK_R.out 1; have hf3_R_2 := blk_frozen BK_R.out 2))
  refine bodyPost_ret (results_cell_row rfl _ _ g_R 26 #[.int .i64 h, .int .i64 g, .int .i64 b] (0, 0) _ rfl (by (with_reducible repeat (first | refine blk_drewN ?_ _ | refine blk_drew ?_ | refine blk_alloc ?_ _)); refine blk_put (cs := #[.int .i64 h, .int .i64 g, .int .i64 0]) ?_ 2 _ rfl; (with_reducible repeat (first | refine blk_drewN ?_ _ | refine blk_drew ?_ | refine blk_alloc ?_ _)); refine blk_put (cs := #[.int .i64 h, .int .i64 0, .int .i64 0]) ?_ 1 _ rfl; (with_reducible repeat (first | refine blk_drewN ?_ _ | refine blk_drew ?_ | refine blk_alloc ?_ _)); refine blk_put (cs := #[.int .i64 0, .int .i64 0, .int .i64 0]) ?_ 0 _ rfl; (with_reducible repeat (first | refine blk_drewN ?_ _ | refine blk_drew ?_ | refine blk_alloc ?_ _)); exact BK_R.out) Try.underlying26 rfl (by kernel_rfl)) rfl ?_
  exact ⟨rfl, by repeat (first | (with_reducible first | exact HB.out | apply below_alloc | apply pw_below_drewN | apply below_drew1 | refine below_set ?_ GE_E.out | refine below_set ?_ GE_R.out) | exact HB.out)⟩

set_option maxHeartbeats 1000000 in
set_option maxRecDepth 100000 in
theorem clq_hear_any_ok (h g b n how : Int) (w : World) (hw1 : how ≠ 1) (hw2 : how ≠ 2) (hn0 : 0 ≤ n) (hn1 : n < 16) :
    Calls Try.prog 13 #[.agg #[.int .i64 h, .int .i64 g, .int .i64 b], .int .i64 n, .int .i64 how] w fun e w' => e = .returned (.agg #[.int .i64 h, .int .i64 g, .int .i64 b]) ∧ Below w.heap.size w w' := by
  have hu26 := Try.underlying26
  have hu48 := Try.underlying48
  have HB := Aside0.mk (Below.refl w.heap.size w)
  have hfn := Aside0.mk (slot_miss hw1 hw2)
  go_enter Try.func13, Try.ntmps13
  go_wp2_with (first | ((with_reducible refine gate_dst (N := 3) rfl ?_); refine box_event ?hg (N := 3) ?hd (cs := #[.int .i64 h, .int .i64 g, .int .i64 b]) (t := 26) ?hr ?_; (case hd => rfl); (case hg => rfl); (case hr => first | (go_simp; done) | (go_simp; rfl)); intro g_E hg w1 hbox hb; have GE_E := Aside0.mk (by rw [hg]; exact (below_size (by repeat (first | (with_reducible first | exact HB.out | apply below_alloc | apply pw_below_drewN | apply below_drew1) | exact HB.out))) : w.heap.size ≤ g_E); have m_HB := Aside0.mk (below_step (by repeat (first | (with_reducible first | exact HB.out | apply below_alloc | apply pw_below_drewN | apply below_drew1) | exact HB.out)) hb); have k_E := Aside0.mk hbox; clear hb hbox hg; clear HB; have HB := m_HB; clear m_HB; have BK_E := k_E; clear k_E; have hc1_E_0 : w1.cell? ⟨g_E, 0, none⟩ = some (.int .i64 h) := (blk_cell BK_E.out 0).trans rfl; have hc1_E_1 : w1.cell? ⟨g_E, 1, none⟩ = some (.int .i64 g) := (blk_cell BK_E.out 1).trans rfl; have hc1_E_2 : w1.cell? ⟨g_E, 2, none⟩ = some (.int .i64 b) := (blk_cell BK_E.out 2).trans rfl; have hf1_E_0 := blk_frozen BK_E.out 0; have hf1_E_1 := blk_frozen BK_E.out 1; have hf1_E_2 := blk_frozen BK_E.out 2) | ((with_reducible refine gate_dst (N := 6) rfl ?_); refine box_event ?hg (N := 6) ?hd (cs := #[.int .i64 0, .int .i64 0, .int .i64 0]) (t := 26) ?hr ?_; (case hd => rfl); (case hg => rfl); (case hr => first | (go_simp; done) | (go_simp; rfl)); intro g_R hg w2 hbox hb; have GE_R := Aside0.mk (by rw [hg]; exact (below_size (by repeat (first | (with_reducible first | exact HB.out | apply below_alloc | apply pw_below_drewN | apply below_drew1 | refine below_set ?_ GE_E.out) | exact HB.out))) : w.heap.size ≤ g_R); have NE_E_R := Aside0.mk (by rw [hg]; exact Nat.ne_of_lt (blk_lt (o := .cells #[.int .i64 h, .int .i64 g, .int .i64 b] 26 (0, 0)) (by (with_reducible repeat (first | refine blk_drewN ?_ _ | refine blk_drew ?_ | refine blk_alloc ?_ _)); exact BK_E.out)) : g_E ≠ g_R); have NE_R_E := Aside0.mk (Ne.symm NE_E_R.out); have ne_E_R := NE_E_R.out; have ne_R_E := NE_R_E.out; have m_E := Aside0.mk (blk_below (g := g_E) (o := .cells #[.int .i64 h, .int .i64 g, .int .i64 b] 26 (0, 0)) (by (with_reducible repeat (first | refine blk_drewN ?_ _ | refine blk_drew ?_ | refine blk_alloc ?_ _)); exact BK_E.out) hb); have m_HB := Aside0.mk (below_step (by repeat (first | (with_reducible first | exact HB.out | apply below_alloc | apply pw_below_drewN | apply below_drew1 | refine below_set ?_ GE_E.out) | exact HB.out)) hb); have k_R := Aside0.mk hbox; clear hb hbox hg; clear HB; clear BK_E; have HB := m_HB; have BK_E := m_E; clear m_HB; clear m_E; have BK_R := k_R; clear k_R; have hc2_E_0 : w2.cell? ⟨g_E, 0, none⟩ = some (.int .i64 h) := (blk_cell BK_E.out 0).trans rfl; have hc2_E_1 : w2.cell? ⟨g_E, 1, none⟩ = some (.int .i64 g) := (blk_cell BK_E.out 1).trans rfl; have hc2_E_2 : w2.cell? ⟨g_E, 2, none⟩ = some (.int .i64 b) := (blk_cell BK_E.out 2).trans rfl; have hf2_E_0 := blk_frozen BK_E.out 0; have hf2_E_1 := blk_frozen BK_E.out 1; have hf2_E_2 := blk_frozen BK_E.out 2; have hc2_R_0 : w2.cell? ⟨g_R, 0, none⟩ = some (.int .i64 0) := (blk_cell BK_R.out 0).trans rfl; have hc2_R_1 : w2.cell? ⟨g_R, 1, none⟩ = some (.int .i64 0) := (blk_cell BK_R.out 1).trans rfl; have hc2_R_2 : w2.cell? ⟨g_R, 2, none⟩ = some (.int .i64 0) := (blk_cell BK_R.out 2).trans rfl; have hf2_R_0 := blk_frozen BK_R.out 0; have hf2_R_1 := blk_frozen BK_R.out 1; have hf2_R_2 := blk_frozen BK_R.out 2) | (go_at_call 24; (with_reducible refine (clq_slots _).mono ?_); rintro e w3 ⟨mb, rfl, hge, hmap, hb⟩; have hlk := map_miss (P := Try.prog) Try.underlying45 Try.underlying3 mb _ _ hmap how .nilFunc (Try.zeroValue43 _) hfn.out; have m_E := Aside0.mk (blk_below (g := g_E) (o := .cells #[.int .i64 h, .int .i64 g, .int .i64 b] 26 (0, 0)) (by (with_reducible repeat (first | refine blk_drewN ?_ _ | refine blk_drew ?_ | refine blk_alloc ?_ _)); exact BK_E.out) hb); have m_R := Aside0.mk (blk_below (g := g_R) (o := .cells #[.int .i64 0, .int .i64 0, .int .i64 0] 26 (0, 0)) (by (with_reducible repeat (first | refine blk_drewN ?_ _ | refine blk_drew ?_ | refine blk_alloc ?_ _)); exact BK_R.out) hb); have m_HB := Aside0.mk (below_step (by repeat (first | (with_reducible first | exact HB.out | apply below_alloc | apply pw_below_drewN | apply below_drew1 | refine below_set ?_ GE_E.out | refine below_set ?_ GE_R.out) | exact HB.out)) hb); clear hb; clear HB; clear BK_E; clear BK_R; have HB := m_HB; have BK_E := m_E; have BK_R := m_R; clear m_HB; clear m_E; clear m_R; have hc3_E_0 : w3.cell? ⟨g_E, 0, none⟩ = some (.int .i64 h) := (blk_cell BK_E.out 0).trans rfl; have hc3_E_1 : w3.cell? ⟨g_E, 1, none⟩ = some (.int .i64 g) := (blk_cell BK_E.out 1).trans rfl; have hc3_E_2 : w3.cell? ⟨g_E, 2, none⟩ = some (.int .i64 b) := (blk_cell BK_E.out 2).trans rfl; have hf3_E_0 := blk_frozen BK_E.out 0; have hf3_E_1 := blk_frozen BK_E.out 1; have hf3_E_2 := blk_frozen BK_E.out 2; have hc3_R_0 : w3.cell? ⟨g_R, 0, none⟩ = some (.int .i64 0) := (blk_cell BK_R.out 0).trans rfl; have hc3_R_1 : w3.cell? ⟨g_R, 1, none⟩ = some (.int .i64 0) := (blk_cell BK_R.out 1).trans rfl; have hc3_R_2 : w3.cell? ⟨g_R, 2, none⟩ = some (.int .i64 0) := (blk_cell BK_R.out 2).trans rfl; have hf3_R_0 := blk_frozen BK_R.out 0; have hf3_R_1 := blk_frozen BK_R.out 1; have hf3_R_2 := blk_frozen BK_R.out 2))
  refine bodyPost_ret (results_cell_row rfl _ _ g_R 26 #[.int .i64 h, .int .i64 g, .int .i64 b] (0, 0) _ rfl (by (with_reducible repeat (first | refine blk_drewN ?_ _ | refine blk_drew ?_ | refine blk_alloc ?_ _)); refine blk_put (cs := #[.int .i64 h, .int .i64 g, .int .i64 0]) ?_ 2 _ rfl; (with_reducible repeat (first | refine blk_drewN ?_ _ | refine blk_drew ?_ | refine blk_alloc ?_ _)); refine blk_put (cs := #[.int .i64 h, .int .i64 0, .int .i64 0]) ?_ 1 _ rfl; (with_reducible repeat (first | refine blk_drewN ?_ _ | refine blk_drew ?_ | refine blk_alloc ?_ _)); refine blk_put (cs := #[.int .i64 0, .int .i64 0, .int .i64 0]) ?_ 0 _ rfl; (with_reducible repeat (first | refine blk_drewN ?_ _ | refine blk_drew ?_ | refine blk_alloc ?_ _)); exact BK_R.out) Try.underlying26 rfl (by kernel_rfl)) rfl ?_
  exact ⟨rfl, by repeat (first | (with_reducible first | exact HB.out | apply below_alloc | apply pw_below_drewN | apply below_drew1 | refine below_set ?_ GE_E.out | refine below_set ?_ GE_R.out) | exact HB.out)⟩

set_option maxHeartbeats 1000000 in
set_option maxRecDepth 100000 in
theorem clq_hear_any_lo (h g b n how : Int) (w : World) (hw1 : how ≠ 1) (hw2 : how ≠ 2) (hn0 : n < 0) :
    Calls Try.prog 13 #[.agg #[.int .i64 h, .int .i64 g, .int .i64 b], .int .i64 n, .int .i64 how] w fun e w' => e = .returned (.agg #[.int .i64 h, .int .i64 g, .int .i64 b]) ∧ Below w.heap.size w w' := by
  have hu26 := Try.underlying26
  have hu48 := Try.underlying48
  have HB := Aside0.mk (Below.refl w.heap.size w)
  have hfn := Aside0.mk (slot_miss hw1 hw2)
  go_enter Try.func13, Try.ntmps13
  go_wp2_with (first | ((with_reducible refine gate_dst (N := 3) rfl ?_); refine box_event ?hg (N := 3) ?hd (cs := #[.int .i64 h, .int .i64 g, .int .i64 b]) (t := 26) ?hr ?_; (case hd => rfl); (case hg => rfl); (case hr => first | (go_simp; done) | (go_simp; rfl)); intro g_E hg w1 hbox hb; have GE_E := Aside0.mk (by rw [hg]; exact (below_size (by repeat (first | (with_reducible first | exact HB.out | apply below_alloc | apply pw_below_drewN | apply below_drew1) | exact HB.out))) : w.heap.size ≤ g_E); have m_HB := Aside0.mk (below_step (by repeat (first | (with_reducible first | exact HB.out | apply below_alloc | apply pw_below_drewN | apply below_drew1) | exact HB.out)) hb); have k_E := Aside0.mk hbox; clear hb hbox hg; clear HB; have HB := m_HB; clear m_HB; have BK_E := k_E; clear k_E; have hc1_E_0 : w1.cell? ⟨g_E, 0, none⟩ = some (.int .i64 h) := (blk_cell BK_E.out 0).trans rfl; have hc1_E_1 : w1.cell? ⟨g_E, 1, none⟩ = some (.int .i64 g) := (blk_cell BK_E.out 1).trans rfl; have hc1_E_2 : w1.cell? ⟨g_E, 2, none⟩ = some (.int .i64 b) := (blk_cell BK_E.out 2).trans rfl; have hf1_E_0 := blk_frozen BK_E.out 0; have hf1_E_1 := blk_frozen BK_E.out 1; have hf1_E_2 := blk_frozen BK_E.out 2) | ((with_reducible refine gate_dst (N := 6) rfl ?_); refine box_event ?hg (N := 6) ?hd (cs := #[.int .i64 0, .int .i64 0, .int .i64 0]) (t := 26) ?hr ?_; (case hd => rfl); (case hg => rfl); (case hr => first | (go_simp; done) | (go_simp; rfl)); intro g_R hg w2 hbox hb; have GE_R := Aside0.mk (by rw [hg]; exact (below_size (by repeat (first | (with_reducible first | exact HB.out | apply below_alloc | apply pw_below_drewN | apply below_drew1 | refine below_set ?_ GE_E.out) | exact HB.out))) : w.heap.size ≤ g_R); have NE_E_R := Aside0.mk (by rw [hg]; exact Nat.ne_of_lt (blk_lt (o := .cells #[.int .i64 h, .int .i64 g, .int .i64 b] 26 (0, 0)) (by (with_reducible repeat (first | refine blk_drewN ?_ _ | refine blk_drew ?_ | refine blk_alloc ?_ _)); exact BK_E.out)) : g_E ≠ g_R); have NE_R_E := Aside0.mk (Ne.symm NE_E_R.out); have ne_E_R := NE_E_R.out; have ne_R_E := NE_R_E.out; have m_E := Aside0.mk (blk_below (g := g_E) (o := .cells #[.int .i64 h, .int .i64 g, .int .i64 b] 26 (0, 0)) (by (with_reducible repeat (first | refine blk_drewN ?_ _ | refine blk_drew ?_ | refine blk_alloc ?_ _)); exact BK_E.out) hb); have m_HB := Aside0.mk (below_step (by repeat (first | (with_reducible first | exact HB.out | apply below_alloc | apply pw_below_drewN | apply below_drew1 | refine below_set ?_ GE_E.out) | exact HB.out)) hb); have k_R := Aside0.mk hbox; clear hb hbox hg; clear HB; clear BK_E; have HB := m_HB; have BK_E := m_E; clear m_HB; clear m_E; have BK_R := k_R; clear k_R; have hc2_E_0 : w2.cell? ⟨g_E, 0, none⟩ = some (.int .i64 h) := (blk_cell BK_E.out 0).trans rfl; have hc2_E_1 : w2.cell? ⟨g_E, 1, none⟩ = some (.int .i64 g) := (blk_cell BK_E.out 1).trans rfl; have hc2_E_2 : w2.cell? ⟨g_E, 2, none⟩ = some (.int .i64 b) := (blk_cell BK_E.out 2).trans rfl; have hf2_E_0 := blk_frozen BK_E.out 0; have hf2_E_1 := blk_frozen BK_E.out 1; have hf2_E_2 := blk_frozen BK_E.out 2; have hc2_R_0 : w2.cell? ⟨g_R, 0, none⟩ = some (.int .i64 0) := (blk_cell BK_R.out 0).trans rfl; have hc2_R_1 : w2.cell? ⟨g_R, 1, none⟩ = some (.int .i64 0) := (blk_cell BK_R.out 1).trans rfl; have hc2_R_2 : w2.cell? ⟨g_R, 2, none⟩ = some (.int .i64 0) := (blk_cell BK_R.out 2).trans rfl; have hf2_R_0 := blk_frozen BK_R.out 0; have hf2_R_1 := blk_frozen BK_R.out 1; have hf2_R_2 := blk_frozen BK_R.out 2) | (go_at_call 24; (with_reducible refine (clq_slots _).mono ?_); rintro e w3 ⟨mb, rfl, hge, hmap, hb⟩; have hlk := map_miss (P := Try.prog) Try.underlying45 Try.underlying3 mb _ _ hmap how .nilFunc (Try.zeroValue43 _) hfn.out; have m_E := Aside0.mk (blk_below (g := g_E) (o := .cells #[.int .i64 h, .int .i64 g, .int .i64 b] 26 (0, 0)) (by (with_reducible repeat (first | refine blk_drewN ?_ _ | refine blk_drew ?_ | refine blk_alloc ?_ _)); exact BK_E.out) hb); have m_R := Aside0.mk (blk_below (g := g_R) (o := .cells #[.int .i64 0, .int .i64 0, .int .i64 0] 26 (0, 0)) (by (with_reducible repeat (first | refine blk_drewN ?_ _ | refine blk_drew ?_ | refine blk_alloc ?_ _)); exact BK_R.out) hb); have m_HB := Aside0.mk (below_step (by repeat (first | (with_reducible first | exact HB.out | apply below_alloc | apply pw_below_drewN | apply below_drew1 | refine below_set ?_ GE_E.out | refine below_set ?_ GE_R.out) | exact HB.out)) hb); clear hb; clear HB; clear BK_E; clear BK_R; have HB := m_HB; have BK_E := m_E; have BK_R := m_R; clear m_HB; clear m_E; clear m_R; have hc3_E_0 : w3.cell? ⟨g_E, 0, none⟩ = some (.int .i64 h) := (blk_cell BK_E.out 0).trans rfl; have hc3_E_1 : w3.cell? ⟨g_E, 1, none⟩ = some (.int .i64 g) := (blk_cell BK_E.out 1).trans rfl; have hc3_E_2 : w3.cell? ⟨g_E, 2, none⟩ = some (.int .i64 b) := (blk_cell BK_E.out 2).trans rfl; have hf3_E_0 := blk_frozen BK_E.out 0; have hf3_E_1 := blk_frozen BK_E.out 1; have hf3_E_2 := blk_frozen BK_E.out 2; have hc3_R_0 : w3.cell? ⟨g_R, 0, none⟩ = some (.int .i64 0) := (blk_cell BK_R.out 0).trans rfl; have hc3_R_1 : w3.cell? ⟨g_R, 1, none⟩ = some (.int .i64 0) := (blk_cell BK_R.out 1).trans rfl; have hc3_R_2 : w3.cell? ⟨g_R, 2, none⟩ = some (.int .i64 0) := (blk_cell BK_R.out 2).trans rfl; have hf3_R_0 := blk_frozen BK_R.out 0; have hf3_R_1 := blk_frozen BK_R.out 1; have hf3_R_2 := blk_frozen BK_R.out 2))
  refine bodyPost_ret (results_cell_row rfl _ _ g_R 26 #[.int .i64 h, .int .i64 g, .int .i64 b] (0, 0) _ rfl (by (with_reducible repeat (first | refine blk_drewN ?_ _ | refine blk_drew ?_ | refine blk_alloc ?_ _)); refine blk_put (cs := #[.int .i64 h, .int .i64 g, .int .i64 0]) ?_ 2 _ rfl; (with_reducible repeat (first | refine blk_drewN ?_ _ | refine blk_drew ?_ | refine blk_alloc ?_ _)); refine blk_put (cs := #[.int .i64 h, .int .i64 0, .int .i64 0]) ?_ 1 _ rfl; (with_reducible repeat (first | refine blk_drewN ?_ _ | refine blk_drew ?_ | refine blk_alloc ?_ _)); refine blk_put (cs := #[.int .i64 0, .int .i64 0, .int .i64 0]) ?_ 0 _ rfl; (with_reducible repeat (first | refine blk_drewN ?_ _ | refine blk_drew ?_ | refine blk_alloc ?_ _)); exact BK_R.out) Try.underlying26 rfl (by kernel_rfl)) rfl ?_
  exact ⟨rfl, by repeat (first | (with_reducible first | exact HB.out | apply below_alloc | apply pw_below_drewN | apply below_drew1 | refine below_set ?_ GE_E.out | refine below_set ?_ GE_R.out) | exact HB.out)⟩

set_option maxHeartbeats 1000000 in
set_option maxRecDepth 100000 in
theorem clq_hear_any_hi (h g b n how : Int) (w : World) (hw1 : how ≠ 1) (hw2 : how ≠ 2) (hn0 : 0 ≤ n) (hn1 : 16 ≤ n) :
    Calls Try.prog 13 #[.agg #[.int .i64 h, .int .i64 g, .int .i64 b], .int .i64 n, .int .i64 how] w fun e w' => e = .returned (.agg #[.int .i64 h, .int .i64 g, .int .i64 b]) ∧ Below w.heap.size w w' := by
  have hu26 := Try.underlying26
  have hu48 := Try.underlying48
  have HB := Aside0.mk (Below.refl w.heap.size w)
  have hfn := Aside0.mk (slot_miss hw1 hw2)
  go_enter Try.func13, Try.ntmps13
  go_wp2_with (first | ((with_reducible refine gate_dst (N := 3) rfl ?_); refine box_event ?hg (N := 3) ?hd (cs := #[.int .i64 h, .int .i64 g, .int .i64 b]) (t := 26) ?hr ?_; (case hd => rfl); (case hg => rfl); (case hr => first | (go_simp; done) | (go_simp; rfl)); intro g_E hg w1 hbox hb; have GE_E := Aside0.mk (by rw [hg]; exact (below_size (by repeat (first | (with_reducible first | exact HB.out | apply below_alloc | apply pw_below_drewN | apply below_drew1) | exact HB.out))) : w.heap.size ≤ g_E); have m_HB := Aside0.mk (below_step (by repeat (first | (with_reducible first | exact HB.out | apply below_alloc | apply pw_below_drewN | apply below_drew1) | exact HB.out)) hb); have k_E := Aside0.mk hbox; clear hb hbox hg; clear HB; have HB := m_HB; clear m_HB; have BK_E := k_E; clear k_E; have hc1_E_0 : w1.cell? ⟨g_E, 0, none⟩ = some (.int .i64 h) := (blk_cell BK_E.out 0).trans rfl; have hc1_E_1 : w1.cell? ⟨g_E, 1, none⟩ = some (.int .i64 g) := (blk_cell BK_E.out 1).trans rfl; have hc1_E_2 : w1.cell? ⟨g_E, 2, none⟩ = some (.int .i64 b) := (blk_cell BK_E.out 2).trans rfl; have hf1_E_0 := blk_frozen BK_E.out 0; have hf1_E_1 := blk_frozen BK_E.out 1; have hf1_E_2 := blk_frozen BK_E.out 2) | ((with_reducible refine gate_dst (N := 6) rfl ?_); refine box_event ?hg (N := 6) ?hd (cs := #[.int .i64 0, .int .i64 0, .int .i64 0]) (t := 26) ?hr ?_; (case hd => rfl); (case hg => rfl); (case hr => first | (go_simp; done) | (go_simp; rfl)); intro g_R hg w2 hbox hb; have GE_R := Aside0.mk (by rw [hg]; exact (below_size (by repeat (first | (with_reducible first | exact HB.out | apply below_alloc | apply pw_below_drewN | apply below_drew1 | refine below_set ?_ GE_E.out) | exact HB.out))) : w.heap.size ≤ g_R); have NE_E_R := Aside0.mk (by rw [hg]; exact Nat.ne_of_lt (blk_lt (o := .cells #[.int .i64 h, .int .i64 g, .int .i64 b] 26 (0, 0)) (by (with_reducible repeat (first | refine blk_drewN ?_ _ | refine blk_drew ?_ | refine blk_alloc ?_ _)); exact BK_E.out)) : g_E ≠ g_R); have NE_R_E := Aside0.mk (Ne.symm NE_E_R.out); have ne_E_R := NE_E_R.out; have ne_R_E := NE_R_E.out; have m_E := Aside0.mk (blk_below (g := g_E) (o := .cells #[.int .i64 h, .int .i64 g, .int .i64 b] 26 (0, 0)) (by (with_reducible repeat (first | refine blk_drewN ?_ _ | refine blk_drew ?_ | refine blk_alloc ?_ _)); exact BK_E.out) hb); have m_HB := Aside0.mk (below_step (by repeat (first | (with_reducible first | exact HB.out | apply below_alloc | apply pw_below_drewN | apply below_drew1 | refine below_set ?_ GE_E.out) | exact HB.out)) hb); have k_R := Aside0.mk hbox; clear hb hbox hg; clear HB; clear BK_E; have HB := m_HB; have BK_E := m_E; clear m_HB; clear m_E; have BK_R := k_R; clear k_R; have hc2_E_0 : w2.cell? ⟨g_E, 0, none⟩ = some (.int .i64 h) := (blk_cell BK_E.out 0).trans rfl; have hc2_E_1 : w2.cell? ⟨g_E, 1, none⟩ = some (.int .i64 g) := (blk_cell BK_E.out 1).trans rfl; have hc2_E_2 : w2.cell? ⟨g_E, 2, none⟩ = some (.int .i64 b) := (blk_cell BK_E.out 2).trans rfl; have hf2_E_0 := blk_frozen BK_E.out 0; have hf2_E_1 := blk_frozen BK_E.out 1; have hf2_E_2 := blk_frozen BK_E.out 2; have hc2_R_0 : w2.cell? ⟨g_R, 0, none⟩ = some (.int .i64 0) := (blk_cell BK_R.out 0).trans rfl; have hc2_R_1 : w2.cell? ⟨g_R, 1, none⟩ = some (.int .i64 0) := (blk_cell BK_R.out 1).trans rfl; have hc2_R_2 : w2.cell? ⟨g_R, 2, none⟩ = some (.int .i64 0) := (blk_cell BK_R.out 2).trans rfl; have hf2_R_0 := blk_frozen BK_R.out 0; have hf2_R_1 := blk_frozen BK_R.out 1; have hf2_R_2 := blk_frozen BK_R.out 2) | (go_at_call 24; (with_reducible refine (clq_slots _).mono ?_); rintro e w3 ⟨mb, rfl, hge, hmap, hb⟩; have hlk := map_miss (P := Try.prog) Try.underlying45 Try.underlying3 mb _ _ hmap how .nilFunc (Try.zeroValue43 _) hfn.out; have m_E := Aside0.mk (blk_below (g := g_E) (o := .cells #[.int .i64 h, .int .i64 g, .int .i64 b] 26 (0, 0)) (by (with_reducible repeat (first | refine blk_drewN ?_ _ | refine blk_drew ?_ | refine blk_alloc ?_ _)); exact BK_E.out) hb); have m_R := Aside0.mk (blk_below (g := g_R) (o := .cells #[.int .i64 0, .int .i64 0, .int .i64 0] 26 (0, 0)) (by (with_reducible repeat (first | refine blk_drewN ?_ _ | refine blk_drew ?_ | refine blk_alloc ?_ _)); exact BK_R.out) hb); have m_HB := Aside0.mk (below_step (by repeat (first | (with_reducible first | exact HB.out | apply below_alloc | apply pw_below_drewN | apply below_drew1 | refine below_set ?_ GE_E.out | refine below_set ?_ GE_R.out) | exact HB.out)) hb); clear hb; clear HB; clear BK_E; clear BK_R; have HB := m_HB; have BK_E := m_E; have BK_R := m_R; clear m_HB; clear m_E; clear m_R; have hc3_E_0 : w3.cell? ⟨g_E, 0, none⟩ = some (.int .i64 h) := (blk_cell BK_E.out 0).trans rfl; have hc3_E_1 : w3.cell? ⟨g_E, 1, none⟩ = some (.int .i64 g) := (blk_cell BK_E.out 1).trans rfl; have hc3_E_2 : w3.cell? ⟨g_E, 2, none⟩ = some (.int .i64 b) := (blk_cell BK_E.out 2).trans rfl; have hf3_E_0 := blk_frozen BK_E.out 0; have hf3_E_1 := blk_frozen BK_E.out 1; have hf3_E_2 := blk_frozen BK_E.out 2; have hc3_R_0 : w3.cell? ⟨g_R, 0, none⟩ = some (.int .i64 0) := (blk_cell BK_R.out 0).trans rfl; have hc3_R_1 : w3.cell? ⟨g_R, 1, none⟩ = some (.int .i64 0) := (blk_cell BK_R.out 1).trans rfl; have hc3_R_2 : w3.cell? ⟨g_R, 2, none⟩ = some (.int .i64 0) := (blk_cell BK_R.out 2).trans rfl; have hf3_R_0 := blk_frozen BK_R.out 0; have hf3_R_1 := blk_frozen BK_R.out 1; have hf3_R_2 := blk_frozen BK_R.out 2))
  refine bodyPost_ret (results_cell_row rfl _ _ g_R 26 #[.int .i64 h, .int .i64 g, .int .i64 b] (0, 0) _ rfl (by (with_reducible repeat (first | refine blk_drewN ?_ _ | refine blk_drew ?_ | refine blk_alloc ?_ _)); refine blk_put (cs := #[.int .i64 h, .int .i64 g, .int .i64 0]) ?_ 2 _ rfl; (with_reducible repeat (first | refine blk_drewN ?_ _ | refine blk_drew ?_ | refine blk_alloc ?_ _)); refine blk_put (cs := #[.int .i64 h, .int .i64 0, .int .i64 0]) ?_ 1 _ rfl; (with_reducible repeat (first | refine blk_drewN ?_ _ | refine blk_drew ?_ | refine blk_alloc ?_ _)); refine blk_put (cs := #[.int .i64 0, .int .i64 0, .int .i64 0]) ?_ 0 _ rfl; (with_reducible repeat (first | refine blk_drewN ?_ _ | refine blk_drew ?_ | refine blk_alloc ?_ _)); exact BK_R.out) Try.underlying26 rfl (by kernel_rfl)) rfl ?_
  exact ⟨rfl, by repeat (first | (with_reducible first | exact HB.out | apply below_alloc | apply pw_below_drewN | apply below_drew1 | refine below_set ?_ GE_E.out | refine below_set ?_ GE_R.out) | exact HB.out)⟩


/-! ### clique_Hear: function 13 (given) -/
def clique_Hear.f (a0_0 : Int) (a0_1 : Int) (a0_2 : Int) (a1 : Int) (a2 : Int) : Option (Int × Int × Int) :=
  if a1 < 0 then some (a0_0, a0_1, a0_2)
  else if a1 < 16 then
    (if a2 = 1 then (vec_With.f a0_0 a1).bind fun r => some (r, (if a0_1 < 1073741824 then wrap64 (a0_1 + 1) else a0_1), a0_2)
     else if a2 = 2 then some (a0_0, a0_1, (if a0_2 < 1073741824 then wrap64 (a0_2 + 1) else a0_2)) else some (a0_0, a0_1, a0_2))
  else some (a0_0, a0_1, a0_2)
theorem clique_Hear.calls (a0_0 : Int) (a0_1 : Int) (a0_2 : Int) (a1 : Int) (a2 : Int) (r1 : Int) (r2 : Int) (r3 : Int) (w : World) (h : clique_Hear.f a0_0 a0_1 a0_2 a1 a2 = some (r1, r2, r3)) :
    Calls Try.prog 13 #[.agg #[.int .i64 a0_0, .int .i64 a0_1, .int .i64 a0_2], .int .i64 a1, .int .i64 a2] w fun e w' => e = .returned (.agg #[.int .i64 r1, .int .i64 r2, .int .i64 r3]) ∧ Below w.heap.size w w' := by
  unfold clique_Hear.f at h
  by_cases h1 : a1 < 0
  · rw [if_pos h1] at h
    injection h with h
    injection h with e1 e2
    injection e2 with e2 e3
    subst e1 e2 e3
    by_cases g1 : a2 = 1
    · subst g1
      exact clq_hear_good_lo a0_0 a0_1 a0_2 a1 w h1
    · by_cases g2 : a2 = 2
      · subst g2
        exact clq_hear_bad_lo a0_0 a0_1 a0_2 a1 w h1
      · exact clq_hear_any_lo a0_0 a0_1 a0_2 a1 a2 w g1 g2 h1
  · rw [if_neg h1] at h
    by_cases h2 : a1 < 16
    · rw [if_pos h2] at h
      by_cases g1 : a2 = 1
      · rw [if_pos g1] at h
        obtain ⟨r, hr, h⟩ := Option.bind_eq_some_iff.mp h
        injection h with h
        injection h with e1 e2
        injection e2 with e2 e3
        subst e1 e2 e3 g1
        exact clq_hear_good_ok a0_0 a0_1 a0_2 a1 _ w (by omega) h2 hr
      · rw [if_neg g1] at h
        by_cases g2 : a2 = 2
        · rw [if_pos g2] at h
          injection h with h
          injection h with e1 e2
          injection e2 with e2 e3
          subst e1 e2 e3 g2
          exact clq_hear_bad_ok a0_0 a0_1 a0_2 a1 w (by omega) h2
        · rw [if_neg g2] at h
          injection h with h
          injection h with e1 e2
          injection e2 with e2 e3
          subst e1 e2 e3
          exact clq_hear_any_ok a0_0 a0_1 a0_2 a1 a2 w g1 g2 (by omega) h2
    · rw [if_neg h2] at h
      injection h with h
      injection h with e1 e2
      injection e2 with e2 e3
      subst e1 e2 e3
      by_cases g1 : a2 = 1
      · subst g1
        exact clq_hear_good_hi a0_0 a0_1 a0_2 a1 w (by omega) (by omega)
      · by_cases g2 : a2 = 2
        · subst g2
          exact clq_hear_bad_hi a0_0 a0_1 a0_2 a1 w (by omega) (by omega)
        · exact clq_hear_any_hi a0_0 a0_1 a0_2 a1 a2 w g1 g2 (by omega) (by omega)


/-! ### clique_Stays: function 14 -/
def clique_Stays.f (a0_0 : Int) (a0_1 : Int) (a0_2 : Int) : Option (Bool) := some (decide (a0_1 ≥ a0_2))
set_option maxHeartbeats 8000000 in
set_option maxRecDepth 100000 in
theorem clique_Stays.calls (a0_0 : Int) (a0_1 : Int) (a0_2 : Int) (r : Bool) (w : World) (h : clique_Stays.f a0_0 a0_1 a0_2 = some r) :
    Calls Try.prog 14 #[.agg #[.int .i64 a0_0, .int .i64 a0_1, .int .i64 a0_2]] w fun e w' => e = .returned (.bool r) ∧ Below w.heap.size w w' := by
  have hu26 := Try.underlying26
  have HB := Aside0.mk (Below.refl w.heap.size w)
  have H : (some (decide (a0_1 ≥ a0_2))) = some r := h
  clear h
  obtain rfl := Option.some.inj H
  go_enter Try.func14, Try.ntmps14
  go_wp2_with (first | ((with_reducible refine gate_dst (N := 1) rfl ?_); refine box_event ?hg (N := 1) ?hd (cs := #[.int .i64 a0_0, .int .i64 a0_1, .int .i64 a0_2]) (t := 26) ?hr ?_; (case hd => rfl); (case hg => rfl); (case hr => first | (go_simp; done) | (go_simp; rfl)); intro gb104 hg w2 hbox hb; have n0_ := Aside0.mk (below_step (by repeat (first | (with_reducible first | exact HB.out | apply below_alloc | apply pw_below_drewN | apply below_drew1) | exact HB.out)) hb); have n1_ := Aside0.mk (hbox); have n2_ := Aside0.mk ((by rw [hg]; exact (below_size (by repeat (first | (with_reducible first | exact HB.out | apply below_alloc | apply pw_below_drewN | apply below_drew1) | exact HB.out))) : w.heap.size ≤ gb104)); have n3_ := Aside0.mk ((by rw [hg]; exact (below_size (by repeat (first | (with_reducible first | exact HB.out | apply below_alloc | apply pw_below_drewN | apply below_drew1) | exact HB.out))) : w.heap.size ≤ gb104)); clear HB; have HB := n0_; have BK104 := n1_; have GW104 := n2_; have GE104 := n3_; clear n0_ n1_ n2_ n3_; clear hb hbox hg; have hcz3_0 : w2.cell? ⟨gb104, 0, none⟩ = some (.int .i64 a0_0) := (blk_cell BK104.out 0).trans rfl; have hcz3_1 : w2.cell? ⟨gb104, 1, none⟩ = some (.int .i64 a0_1) := (blk_cell BK104.out 1).trans rfl; have hcz3_2 : w2.cell? ⟨gb104, 2, none⟩ = some (.int .i64 a0_2) := (blk_cell BK104.out 2).trans rfl; have hfz3_0 := blk_frozen BK104.out 0; have hfz3_1 := blk_frozen BK104.out 1; have hfz3_2 := blk_frozen BK104.out 2))
  go_ret
  exact ⟨by first | rfl | (simp [errW_none, errW_some] <;> rfl) | (simp [*, errW_none, errW_some] <;> rfl), by repeat (first | (with_reducible first | exact HB.out | apply below_alloc | apply pw_below_drewN | apply below_drew1 | refine below_set ?_ GE104.out) | exact HB.out)⟩

/-! ### vec_Has: function 26 -/
def vec_Has.f (a0 : Int) (a1 : Int) : Option (Bool) := (vec_node.f a1).bind fun t105 => (if t105 = true then (if 0 ≤ a1 then (some ((Go.bits .and .i64 (shr .i64 a0 a1) 1) == 1)) else (none)) else (some false))
set_option maxHeartbeats 8000000 in
set_option maxRecDepth 100000 in
theorem vec_Has.calls (a0 : Int) (a1 : Int) (r : Bool) (w : World) (h : vec_Has.f a0 a1 = some r) :
    Calls Try.prog 26 #[.int .i64 a0, .int .i64 a1] w fun e w' => e = .returned (.bool r) ∧ Drawn0 w w' := by
  have H : ((vec_node.f a1).bind fun t105 => (if t105 = true then (if 0 ≤ a1 then (some ((Go.bits .and .i64 (shr .i64 a0 a1) 1) == 1)) else (none)) else (some false))) = some r := h
  clear h
  replace H := Option.bind_eq_some_iff.mp H
  obtain ⟨t105, A30, H⟩ := H
  replace H : (if t105 = true then (if 0 ≤ a1 then (some ((Go.bits .and .i64 (shr .i64 a0 a1) 1) == 1)) else (none)) else (some false)) = some r := H
  have A3 := Aside0.mk A30
  clear A30
  by_cases c4 : t105 = true
  · subst c4
    have H1 : (if 0 ≤ a1 then (some ((Go.bits .and .i64 (shr .i64 a0 a1) 1) == 1)) else (none)) = some r := by rw [if_pos rfl] at H; exact H
    clear H
    have H := H1
    clear H1
    by_cases c5 : 0 ≤ a1
    · rw [if_pos c5] at H
      have c5b0 := eq_true c5
      have c5b1 : decide (0 ≤ a1) = true := decide_eq_true c5
      clear c5
      obtain ⟨ji6, hji6⟩ : ∃ j_ : Int, (shr .i64 a0 a1) = j_ := ⟨_, rfl⟩
      replace H : (some ((Go.bits .and .i64 (ji6) 1) == 1)) = some r := by first | (rw [hji6] at H; exact H) | (simp only [hji6] at H ⊢; exact H)
      (try rw [hji6] at A3)
      have hji6_ : (a0 / 2 ^ min a1.toNat 64) = ji6 := hji6
      have hji6z : a1 ≤ 64 → (a0 / 2 ^ a1.toNat) = ji6 := shr_small hji6
      obtain rfl := Option.some.inj H
      go_enter Try.func26, Try.ntmps26
      go_wp2_with (first | ((with_reducible refine gate_callee (f := 31) rfl ?_); refine goesL_ (some 6) rfl rfl Try.func31 (by kernel_rfl) rfl #[.int .i64 a1] rfl (by (try simp only [List.map_toArray, List.map_cons, List.map_nil]); first | done | rfl | (simp only [List.length_drop, List.length_take]; rfl)) ?_; (with_reducible refine (vec_node.calls a1 true _ A3.out).mono ?_); rintro e w' ⟨rfl, ⟨nd, rfl⟩⟩; refine ⟨_, rfl, ?_⟩))
      go_ret
      exact ⟨by first | rfl | (simp; done) | (simp only [← hji6] <;> first | rfl | (simp; done) | (simp [mn, mx]; done)) | (simp [*]; done), by repeat (first | exact Drawn0.refl _ | apply Drawn0.step)⟩
    · rw [if_neg c5] at H
      exact absurd H (by simp)
  · replace c4 := Bool.eq_false_iff.mpr c4
    subst c4
    have H1 : (some false) = some r := by rw [if_neg (show ¬ (false = true) by decide)] at H; exact H
    clear H
    have H := H1
    clear H1
    obtain rfl := Option.some.inj H
    go_enter Try.func26, Try.ntmps26
    go_wp2_with (first | ((with_reducible refine gate_callee (f := 31) rfl ?_); refine goesL_ (some 6) rfl rfl Try.func31 (by kernel_rfl) rfl #[.int .i64 a1] rfl (by (try simp only [List.map_toArray, List.map_cons, List.map_nil]); first | done | rfl | (simp only [List.length_drop, List.length_take]; rfl)) ?_; (with_reducible refine (vec_node.calls a1 false _ A3.out).mono ?_); rintro e w' ⟨rfl, ⟨nd, rfl⟩⟩; refine ⟨_, rfl, ?_⟩))
    go_ret
    exact ⟨by first | rfl | (simp; done) | (simp [*]; done), by repeat (first | exact Drawn0.refl _ | apply Drawn0.step)⟩

section
attribute [local go_sem] Oper.semAt_some

/-! ### first: an iterator over the first sixteen of a slice; its contract -/
def upto {α : Type} (f : Nat → α) (k : Nat) : List α := (List.range k).map f
theorem upto_succ {α : Type} (f : Nat → α) (k : Nat) : upto f (k + 1) = upto f k ++ [f k] := by simp [upto, List.range_succ]
theorem upto_length {α : Type} (f : Nat → α) (k : Nat) : (upto f k).length = k := by simp [upto]
/-- The address A has the whole numbers zs, in a block below n₀. -/
def IntsAt (n₀ : Nat) (W : World) (A : Option Addr) (zs : List Int) : Prop :=
  ∀ j, j < zs.length → ∃ ad, A = some ad ∧ ad.block < n₀ ∧ W.cell? (ad.add j) = some (.int .i64 (zs[j]?.getD 0))
theorem add_block (ad : Addr) (j : Nat) : (ad.add j).block = ad.block := by
  unfold Addr.add
  split <;> rfl
theorem IntsAt.below {n₀ : Nat} {X Y : World} (h : Below n₀ X Y) {A : Option Addr} {zs : List Int} (hI : IntsAt n₀ X A zs) : IntsAt n₀ Y A zs := fun j hj =>
  let ⟨ad, e, hb, hc⟩ := hI j hj
  ⟨ad, e, hb, (h.cell (p := ad.add j) (by rw [add_block]; exact hb)).trans hc⟩
theorem IntsAt.of_C {w : World} {A : Option Addr} {zs : List Int} (h : Kd.C (Kd.int .i64) w A zs.length zs) : IntsAt w.heap.size w A zs := fun j hj => by
  obtain ⟨ad, e, hc⟩ := h.2.2 (by omega)
  obtain ⟨c, hl, hR, hcell⟩ := hc j _ (List.getElem?_eq_getElem hj)
  obtain rfl : c = [.int .i64 zs[j]] := hR
  have h1 := hcell 0 _ rfl
  have h2 : w.cell? (ad.add j) = some (.int .i64 (zs[j]?.getD 0)) := by
    rw [List.getElem?_eq_getElem hj]
    have : j * (Kd.int .i64).sz + 0 = j := by
      show j * 1 + 0 = j
      omega
    rw [this] at h1
    exact h1
  exact ⟨ad, e, by have := World.block_lt_of_cell? w _ h2; rwa [add_block] at this, h2⟩

set_option maxRecDepth 100000 in
set_option maxHeartbeats 2000000 in
theorem clq_first1 (F : Fence) (n : Nat) (h30 : F.fn 30) (hro : F.round = none) (hn : 1 ≤ n) (l Bs n₀ : Nat) (A : Option Addr) (c : Nat) (zs : List Int) (m : Nat) (hm : (if (16 : Int) < (zs.length : Int) then 16 else (zs.length : Int)) = (m : Int)) (hc : zs.length ≤ c) (J Jx : List (Nat × Int) → World → Prop)
    (hY : ∀ pre x W, J pre W → pre.length < m → YieldAt F (n - 1) Try.prog l #[.int .i64 (x.1 : Int), .int .i64 x.2] W fun e W' =>
      (e = .returned (.bool true) ∧ J (pre ++ [x]) W' ∧ Below n₀ W W') ∨ (e = .returned (.bool false) ∧ Jx (pre ++ [x]) W'))
    (W : World) (hBs : W.cell? ⟨Bs, 0, none⟩ = some (.slice A zs.length c)) (hI : IntsAt n₀ W A zs) (h0 : J [] W) :
    CallsIn F n Try.prog 30 #[.func (.yield l) #[] #[], .pointer (some ⟨Bs, 0, none⟩)] W fun e W' => (∃ v, e = .returned v) ∧
      ((∃ ys, ys = upto (fun j => (j, zs[j]?.getD 0)) m ∧ J ys W') ∨ (∃ pre, (∃ k, k ≤ m ∧ pre = upto (fun j => (j, zs[j]?.getD 0)) k) ∧ Jx pre W')) := by
  have hml : m ≤ zs.length := by split at hm <;> omega
  have hm16 : m ≤ 16 := by split at hm <;> omega
  obtain ⟨i0, hi, hzz⟩ := Option.map_eq_some_iff.1 (show (Try.prog.info? 3).map (fun i => (i.zero, i.size, i.bytes)) = some (some (.int .i64 0), 1, 8) by kernel_rfl)
  have hsz : i0.size = 1 := by simp only [Prod.mk.injEq] at hzz; exact hzz.2.1
  have hsl : ∀ W : World, (Instr.slice 30 (.slice A zs.length c) none (some (.int .i64 (m : Int))) none).run Try.prog W = .ok (.slice A m c) W := fun W => by
    have h := (print_take_int (k := .i64) 30 3 Try.underlying30 hi hsz A c zs (m : Int) (by omega) (by omega) hc).1 W
    rw [show (zs.take (m : Int).toNat).length = m by rw [List.length_take]; omega] at h
    exact h
  clear hi hsz hzz
  refine callsIn_of_wp Try.func30 rfl h30 ?_ hro
  simp only [Try.ntmps30, List.size_toArray, List.length_cons, List.length_nil, Nat.reduceAdd, Nat.reduceSub, Array.replicate_succ, Array.replicate_zero, List.push_toArray, List.append_toArray, List.nil_append, List.cons_append]
  gi_wp2
  gi_loopw [11] (fun i wr => ∃ k : Nat, k ≤ m ∧ i = .int .i64 k ∧ J (upto (fun j => (j, zs[j]?.getD 0)) k) wr ∧ Below n₀ W wr)
    (fun i _ => m - (intOf i).toNat)
  case atStart => exact ⟨0, Nat.zero_le _, rfl, h0, Below.refl _ _⟩
  case round =>
    obtain ⟨k, hk, rfl, hJs, hnx⟩ := hrel
    by_cases hlt : k < m
    · obtain ⟨ad, rfl, hb, hcx⟩ := hI.below hnx k (by omega)
      obtain ⟨fn, tmps, assign, body, hy, hR⟩ := hY _ (k, zs[k]?.getD 0) wr hJs (by rw [upto_length]; exact hlt)
      dsimp only at hy
      gi_wp2
      refine hR.mono ?_
      rintro e W3 (⟨rfl, hJ3, hk3⟩ | ⟨rfl, hJx3⟩)
      · gi_wp2
        go_roundw
        case rel => exact ⟨k + 1, by omega, by simp, by rw [upto_succ]; exact hJ3, hnx.trans hk3⟩
        case measure => simp [intOf]; omega
      · gi_wp2
        refine bodyPost_ret (results_none rfl _ _ _) rfl ?_
        exact ⟨⟨_, rfl⟩, .inr ⟨_, ⟨k + 1, by omega, (upto_succ _ _).symm⟩, hJx3⟩⟩
    · obtain rfl : k = m := by omega
      gi_wp2
      go_end0
      exact ⟨⟨_, rfl⟩, .inl ⟨_, rfl, hJs⟩⟩

set_option maxHeartbeats 1000000 in
theorem clq_first (F : Fence) (n : Nat) (h25 : F.fn 25) (hro : F.round = none) (a : Option Addr) (len cap : Nat) (w : World) :
    CallsIn F n Try.prog 25 #[.slice a len cap] w fun e w' => e = .returned (.func (.func 30) #[] #[.pointer (some ⟨w.heap.size, 0, none⟩)]) ∧ w' = w.alloc (.cells #[.slice a len cap] 30) := by
  refine callsIn_of_wp Try.func25 rfl h25 ?_ hro
  simp only [Try.ntmps25, List.size_toArray, List.length_cons, List.length_nil, Nat.reduceAdd, Nat.reduceSub, Array.replicate_succ, Array.replicate_zero, List.push_toArray, List.append_toArray, List.nil_append, List.cons_append]
  gi_wp2
  go_ret
  exact ⟨rfl, rfl⟩

theorem clq_stops (F : Fence) (n : Nat) (h30 : F.fn 30) (hro : F.round = none) (hn : 1 ≤ n) (Bs n₀ : Nat) (A : Option Addr) (c : Nat) (zs : List Int) (m : Nat) (hm : (if (16 : Int) < (zs.length : Int) then 16 else (zs.length : Int)) = (m : Int)) (hc : zs.length ≤ c) (w : World) (hBs : Bs < w.heap.size) (hn₀ : n₀ ≤ w.heap.size)
    (hcl : w.cell? ⟨Bs, 0, none⟩ = some (.slice A zs.length c)) (hI : IntsAt n₀ w A zs) :
    SeqStopsK F n Try.prog 30 #[.pointer (some ⟨Bs, 0, none⟩)] (fun x : Nat × Int => #[Value.int .i64 (x.1 : Int), Value.int .i64 x.2]) (Below n₀) (fun ys => ys = upto (fun j => (j, zs[j]?.getD 0)) m)
      (fun pre => ∃ k, k ≤ m ∧ pre = upto (fun j => (j, zs[j]?.getD 0)) k) m w := fun l J Jx W hW _ _ hY h0 =>
  clq_first1 F n h30 hro hn l Bs n₀ A c zs m hm hc J Jx hY W ((hW.cell (p := ⟨Bs, 0, none⟩) hBs).trans hcl) (hI.below (hW.mono hn₀)) h0

/-! ### clique_Ages: function 15 (given) -/
theorem drewN_others (W : World) (n : Nat) : KeepsOthers W (W.drewN n) := ⟨Nat.le_refl _, fun _ _ h _ => h⟩
theorem drawn_ {W W1 : World} (h : Drawn0 W W1) : W1.heap = W.heap ∧ KeepsOthers W W1 ∧ ∀ B, Below B W W1 := by
  obtain ⟨n, rfl⟩ := h
  exact ⟨rfl, drewN_others W n, fun B => ⟨rfl, rfl, rfl, Nat.le_refl _, fun _ _ => rfl⟩⟩
theorem ownsRow_heap {W W1 : World} (h : W1.heap = W.heap) {n₀ e size : Nat} {v : Value} {k : Nat} {xs : List Value} (hr : W.ownsRow n₀ e size v k xs) : W1.ownsRow n₀ e size v k xs := own_move hr (fun _ _ => by rw [h])
/-- Whether a vector has a node. -/
def hasB (v i : Int) : Bool := (vec_Has.f v i).getD false
theorem has_eq (v i : Int) : vec_Has.f v i = some (hasB v i) := by
  unfold hasB
  unfold vec_Has.f vec_node.f
  by_cases h : i ≥ 0
  · rw [if_pos h, Option.bind_some]
    by_cases h2 : decide (i < 16) = true
    · rw [if_pos h2, if_pos (by omega)]
      rfl
    · rw [if_neg h2]
      rfl
  · rw [if_neg h, Option.bind_some, if_neg (by decide)]
    rfl
def ageOf (h : Int) (p : Nat × Int) : Int := if hasB h (p.1 : Int) = true then 0 else if p.2 ≥ 1000 then 1000 else mx (wrap64 (p.2 + 1)) 1
def firsts (zs : List Int) : List (Nat × Int) := upto (fun j => (j, zs[j]?.getD 0)) (min zs.length 16)
def clique_Ages.f (a0 : Int) (l1 : List Int) : Option (List Int) := some ((firsts l1).map (ageOf a0))
theorem reps_map {W : World} {base : Nat} {ok : Nat → Prop} {xs : List Int} : Reps ((Kd.int .i64).M W base ok) 1 xs (xs.map (Value.int .i64)) := by
  induction xs with
  | nil => exact Reps.none _ _
  | cons x xs ih => exact Reps.one rfl ih

set_option maxRecDepth 100000 in
set_option maxHeartbeats 2000000 in
theorem clq_ages (F : Fence) (n : Nat) (hF : F = Fence.wide) (hn : 3 ≤ n) (h : Int) (a : Option Addr) (c : Nat) (zs : List Int) (m : Nat) (hm : (if (16 : Int) < (zs.length : Int) then 16 else (zs.length : Int)) = (m : Int)) (hc : zs.length ≤ c) (w : World) (hI : IntsAt w.heap.size w a zs) :
    CallsIn F n Try.prog 15 #[.int .i64 h, .slice a zs.length c] w fun e W' => ∃ v, e = .returned v ∧
      W'.ownsRow w.heap.size 3 1 v ((upto (fun j => (j, zs[j]?.getD 0)) m).map (ageOf h)).length (((upto (fun j => (j, zs[j]?.getD 0)) m).map (ageOf h)).map (Value.int .i64)) ∧ Below w.heap.size w W' := by
  subst hF
  have hro : Fence.wide.round = none := rfl
  have h1 : 1 ≤ n := by omega
  have hm16 : m ≤ 16 := by split at hm <;> omega
  have hHas := has_eq h
  have HH := Aside0.mk hHas
  clear hHas
  obtain ⟨i0, hi, hzz⟩ := Option.map_eq_some_iff.1 (show (Try.prog.info? 3).map (fun i => (i.zero, i.size, i.bytes)) = some (some (.int .i64 0), 1, 8) by kernel_rfl)
  simp only [Prod.mk.injEq] at hzz
  obtain ⟨hz0, hz1, hz2⟩ := hzz
  refine callsIn_of_wp_marks Try.func15 rfl trivial ?_ hro
  simp only [Try.ntmps15, List.size_toArray, List.length_cons, List.length_nil, Nat.reduceAdd, Nat.reduceSub, Array.replicate_succ, Array.replicate_zero, List.push_toArray, List.append_toArray, List.nil_append, List.cons_append]
  gi_wp2_with (refine ⟨trivial, ?_⟩; gi_at_call 25; refine (clq_first Fence.wide (n - 1) trivial hro _ _ _ _).mono ?_; rintro e w' ⟨rfl, rfl⟩)
  have bH := Boxed.new w 3 (.int .i64 h)
  have bO := Boxed.new (w.alloc (.cells #[.int .i64 h] 3)) 30 (.slice none 0 0)
  have bN := Boxed.new ((w.alloc (.cells #[.int .i64 h] 3)).alloc (.cells #[.slice none 0 0] 30)) 30 (.slice a zs.length c)
  simp only [World.size_alloc] at bO bN
  have hB0 : Below w.heap.size w (((w.alloc (.cells #[.int .i64 h] 3)).alloc (.cells #[.slice none 0 0] 30)).alloc (.cells #[.slice a zs.length c] 30)) := (((Below.refl _ w).alloc (Nat.le_refl _) _).alloc (by simp) _).alloc (by simp; omega) _
  refine wpIn_rangeFunc_ownG hro h1 (gf := 30) (lb := #[.pointer (some ⟨w.heap.size + 1 + 1, 0, none⟩)]) rfl trivial (enters_of Try.func30 (by kernel_rfl) rfl)
    (clq_stops Fence.wide (n - 1) trivial hro (by omega) (w.heap.size + 1 + 1) w.heap.size a c zs m hm hc _ (by simp) (by simp; omega) bN.cell (hI.below hB0)) belowK_t (belowK_b (by simp; omega)) (Below.refl _ _) (fun _ => rfl)
    (fun pre W => (Boxed W w.heap.size 3 (.int .i64 h) ∧ ∃ v, Boxed W (w.heap.size + 1) 30 v ∧ W.ownsRow (w.heap.size + 1) 3 1 v pre.length ((pre.map (ageOf h)).map (Value.int .i64)) ∧ True) ∧ Below w.heap.size w W)
    (fun _ _ _ => False)
    (OwnFrom.and (OwnFrom.and (Own.from (boxed_own _ _ _) _) (Own.from (holdsRow_own (w.heap.size + 1) (w.heap.size + 1) 30 3 1 (fun pre : List (Nat × Int) => pre.length) (fun pre => (pre.map (ageOf h)).map (Value.int .i64)) (fun pre v => True)) _)) (ownFrom_below (Nat.le_refl _) (by simp; omega)))
    (fun _ _ _ _ _ hs _ _ => hs)
    ⟨⟨(bH.alloc _).alloc _, _, bO.alloc _, World.ownsRow_nil _ _ _ _, trivial⟩, hB0⟩
    (fun x => { tmps := #[.int .i64 h, .slice a zs.length c, .pointer (some ⟨w.heap.size, 0, none⟩), undef, .pointer (some ⟨w.heap.size + 1, 0, none⟩), .int .i64 (x.1 : Int), .int .i64 x.2, .slice a zs.length c, .func (.func 30) #[] #[.pointer (some ⟨w.heap.size + 1 + 1, 0, none⟩)], .int .i64 (x.1 : Int), .int .i64 x.2, undef, undef, undef, undef, undef, undef, undef, undef, undef, undef, undef, undef, undef, undef, undef], defers := [] }) ?assign ?body ?done ?stop
  case assign =>
    intro l x W K hK
    gi_wp2
    exact hK
  case body =>
    rintro l pre x W ⟨⟨hh, v, hv, hrow, _⟩, hB⟩ hlt
    have hch := hh.cell
    have hBs : w.heap.size + 1 ≤ W.heap.size := Nat.le_of_lt hv.lt
    by_cases g1 : hasB h (x.1 : Int) = true
    · have ey : ageOf h x = 0 := if_pos g1
      gi_wp2_with (first | (refine ⟨trivial, fun _ => by omega, ?_⟩; gi_at_call 26; refine (CallsIn.inRound l (callsIn_wide.2 (vec_Has.calls h (x.1 : Int) _ _ (HH.out _)))).mono ?_; rintro e W1 ⟨rfl, hd⟩; obtain ⟨hp1, hk1, hb1⟩ := drawn_ hd; have hv1 : Boxed W1 (w.heap.size + 1) 30 v := (congrArg (fun q => q[w.heap.size + 1]?) hp1).trans hv; have hrow1 := ownsRow_heap hp1 hrow; have hh1 : Boxed W1 w.heap.size 3 (.int .i64 h) := (congrArg (fun q => q[w.heap.size]?) hp1).trans hh; have hs1 : w.heap.size + 1 ≤ W1.heap.size := Nat.le_trans hBs (Nat.le_of_eq (congrArg Array.size hp1).symm); have hc1 := hv1.cell; clear hd hp1) | (gi_at_builtin; refine wpListIn_append_own _ rfl _ _ 30 rfl (w.heap.size + 1) 3 i0 (.int .i64 0) 1 8 Try.underlying30 hi hz0 hz1 hz2 rfl (by decide) _ _ _ rfl (hrow1.alloc _) ⟨W1.heap.size, 0, none⟩ 1 1 [.int .i64 0] rfl rfl (cell_one_new _ _ _) (by simp [Value.oneCell']) (by simp only [maxLen]; omega) (by omega) (by simp; omega) ?_; intro v' w1 hown' hgrow _; obtain ⟨g', cap', rfl⟩ := ownsRow_succ hown'; obtain ⟨hv2, hv3, hr2, hk2, hb2⟩ := hv1.appended (by decide) hrow1 hs1 (Nat.le_refl _) hown' hgrow; have hc2 := hv2.cell; have hf2 := hv2.frozen))
      exact ⟨(hk1.trans hk2).from _, (hb1 _).trans (hb2.mono (Nat.le_succ _)), ⟨(hb2.block w.heap.size (Nat.lt_succ_self _)).trans hh1, _, hv3, by simpa [ey] using hr2, trivial⟩, hB.trans ((hb1 _).trans (hb2.mono (Nat.le_succ _)))⟩
    · by_cases g2 : x.2 ≥ 1000
      · have ey : ageOf h x = 1000 := by rw [ageOf, if_neg g1, if_pos g2]
        gi_wp2_with (first | (refine ⟨trivial, fun _ => by omega, ?_⟩; gi_at_call 26; refine (CallsIn.inRound l (callsIn_wide.2 (vec_Has.calls h (x.1 : Int) _ _ (HH.out _)))).mono ?_; rintro e W1 ⟨rfl, hd⟩; obtain ⟨hp1, hk1, hb1⟩ := drawn_ hd; have hv1 : Boxed W1 (w.heap.size + 1) 30 v := (congrArg (fun q => q[w.heap.size + 1]?) hp1).trans hv; have hrow1 := ownsRow_heap hp1 hrow; have hh1 : Boxed W1 w.heap.size 3 (.int .i64 h) := (congrArg (fun q => q[w.heap.size]?) hp1).trans hh; have hs1 : w.heap.size + 1 ≤ W1.heap.size := Nat.le_trans hBs (Nat.le_of_eq (congrArg Array.size hp1).symm); have hc1 := hv1.cell; clear hd hp1) | (gi_at_builtin; refine wpListIn_append_own _ rfl _ _ 30 rfl (w.heap.size + 1) 3 i0 (.int .i64 0) 1 8 Try.underlying30 hi hz0 hz1 hz2 rfl (by decide) _ _ _ rfl (hrow1.alloc _) ⟨W1.heap.size, 0, none⟩ 1 1 [.int .i64 1000] rfl rfl (cell_one_new _ _ _) (by simp [Value.oneCell']) (by simp only [maxLen]; omega) (by omega) (by simp; omega) ?_; intro v' w1 hown' hgrow _; obtain ⟨g', cap', rfl⟩ := ownsRow_succ hown'; obtain ⟨hv2, hv3, hr2, hk2, hb2⟩ := hv1.appended (by decide) hrow1 hs1 (Nat.le_refl _) hown' hgrow; have hc2 := hv2.cell; have hf2 := hv2.frozen))
        exact ⟨(hk1.trans hk2).from _, (hb1 _).trans (hb2.mono (Nat.le_succ _)), ⟨(hb2.block w.heap.size (Nat.lt_succ_self _)).trans hh1, _, hv3, by simpa [ey] using hr2, trivial⟩, hB.trans ((hb1 _).trans (hb2.mono (Nat.le_succ _)))⟩
      · by_cases g3 : wrap64 (x.2 + 1) < 1
        · have ey : ageOf h x = 1 := by rw [ageOf, if_neg g1, if_neg g2, mx, if_pos g3]
          gi_wp2_with (first | (refine ⟨trivial, fun _ => by omega, ?_⟩; gi_at_call 26; refine (CallsIn.inRound l (callsIn_wide.2 (vec_Has.calls h (x.1 : Int) _ _ (HH.out _)))).mono ?_; rintro e W1 ⟨rfl, hd⟩; obtain ⟨hp1, hk1, hb1⟩ := drawn_ hd; have hv1 : Boxed W1 (w.heap.size + 1) 30 v := (congrArg (fun q => q[w.heap.size + 1]?) hp1).trans hv; have hrow1 := ownsRow_heap hp1 hrow; have hh1 : Boxed W1 w.heap.size 3 (.int .i64 h) := (congrArg (fun q => q[w.heap.size]?) hp1).trans hh; have hs1 : w.heap.size + 1 ≤ W1.heap.size := Nat.le_trans hBs (Nat.le_of_eq (congrArg Array.size hp1).symm); have hc1 := hv1.cell; clear hd hp1) | (gi_at_builtin; refine wpListIn_append_own _ rfl _ _ 30 rfl (w.heap.size + 1) 3 i0 (.int .i64 0) 1 8 Try.underlying30 hi hz0 hz1 hz2 rfl (by decide) _ _ _ rfl (hrow1.alloc _) ⟨W1.heap.size, 0, none⟩ 1 1 [.int .i64 1] rfl rfl (cell_one_new _ _ _) (by simp [Value.oneCell']) (by simp only [maxLen]; omega) (by omega) (by simp; omega) ?_; intro v' w1 hown' hgrow _; obtain ⟨g', cap', rfl⟩ := ownsRow_succ hown'; obtain ⟨hv2, hv3, hr2, hk2, hb2⟩ := hv1.appended (by decide) hrow1 hs1 (Nat.le_refl _) hown' hgrow; have hc2 := hv2.cell; have hf2 := hv2.frozen))
          exact ⟨(hk1.trans hk2).from _, (hb1 _).trans (hb2.mono (Nat.le_succ _)), ⟨(hb2.block w.heap.size (Nat.lt_succ_self _)).trans hh1, _, hv3, by simpa [ey] using hr2, trivial⟩, hB.trans ((hb1 _).trans (hb2.mono (Nat.le_succ _)))⟩
        · have ey : ageOf h x = wrap64 (x.2 + 1) := by rw [ageOf, if_neg g1, if_neg g2, mx, if_neg g3]
          gi_wp2_with (first | (refine ⟨trivial, fun _ => by omega, ?_⟩; gi_at_call 26; refine (CallsIn.inRound l (callsIn_wide.2 (vec_Has.calls h (x.1 : Int) _ _ (HH.out _)))).mono ?_; rintro e W1 ⟨rfl, hd⟩; obtain ⟨hp1, hk1, hb1⟩ := drawn_ hd; have hv1 : Boxed W1 (w.heap.size + 1) 30 v := (congrArg (fun q => q[w.heap.size + 1]?) hp1).trans hv; have hrow1 := ownsRow_heap hp1 hrow; have hh1 : Boxed W1 w.heap.size 3 (.int .i64 h) := (congrArg (fun q => q[w.heap.size]?) hp1).trans hh; have hs1 : w.heap.size + 1 ≤ W1.heap.size := Nat.le_trans hBs (Nat.le_of_eq (congrArg Array.size hp1).symm); have hc1 := hv1.cell; clear hd hp1) | (gi_at_builtin; refine wpListIn_append_own _ rfl _ _ 30 rfl (w.heap.size + 1) 3 i0 (.int .i64 0) 1 8 Try.underlying30 hi hz0 hz1 hz2 rfl (by decide) _ _ _ rfl (hrow1.alloc _) ⟨W1.heap.size, 0, none⟩ 1 1 [.int .i64 (wrap64 (x.2 + 1))] rfl rfl (cell_one_new _ _ _) (by simp [Value.oneCell']) (by simp only [maxLen]; omega) (by omega) (by simp; omega) ?_; intro v' w1 hown' hgrow _; obtain ⟨g', cap', rfl⟩ := ownsRow_succ hown'; obtain ⟨hv2, hv3, hr2, hk2, hb2⟩ := hv1.appended (by decide) hrow1 hs1 (Nat.le_refl _) hown' hgrow; have hc2 := hv2.cell; have hf2 := hv2.frozen))
          exact ⟨(hk1.trans hk2).from _, (hb1 _).trans (hb2.mono (Nat.le_succ _)), ⟨(hb2.block w.heap.size (Nat.lt_succ_self _)).trans hh1, _, hv3, by simpa [ey] using hr2, trivial⟩, hB.trans ((hb1 _).trans (hb2.mono (Nat.le_succ _)))⟩
  case done =>
    rintro D ys W hD rfl ⟨⟨hh, v, hv, hrow, _⟩, hB⟩ hK
    obtain ⟨A', n', c', rfl⟩ : ∃ A' n' c', v = .slice A' n' c' := by
      rcases hrow.2 with ⟨rfl, _⟩ | ⟨g, cap, cur, rfl, _⟩
      · exact ⟨_, _, _, rfl⟩
      · exact ⟨_, _, _, rfl⟩
    have hcl := hv.cell
    have hfz := hv.frozen
    gi_wp2
    have hK' := (KeepsOthers.setCell W ⟨w.heap.size + 1, 0, none⟩ (.slice A' n' c')).same D _ hK rfl
    refine ⟨by simp, .inl ⟨_, _, rfl, run_takeDeferred hK', ?_⟩⟩
    have hc5 := cell_kept (World.cell?_setCell_same' W ⟨w.heap.size + 1, 0, none⟩ (.slice A' n' c') (by rw [hcl]; rfl)) (grownBy_putObj' _ D (.deferred none)) (fun r e => by cases e; exact ⟨_, hK', rfl⟩)
    have hlt1 : some (w.heap.size + 1) ≠ (Value.slice A' n' c').ownBlock := hv.not_row (by decide) hrow
    have hrow2 := ownsRow_putObj (hrow.kept (grownBy_setCell' W (w.heap.size + 1) (.slice A' n' c')) (.inr hlt1.symm)) (.deferred none) hK' rfl
    refine ⟨.slice A' n' c', by simp [results, Try.f15, go_sem, hc5], .slice A' n' c', rfl, ?_, (hB.setCell (p := ⟨w.heap.size + 1, 0, none⟩) (by simp) _).trans (belowK_b (w := w) (Nat.le_refl _) _ D _ _ (by simp at hD; omega) hK' rfl rfl)⟩
    have := own_weaken hrow2 (Nat.le_succ w.heap.size)
    rw [List.length_map]
    exact this
  case stop =>
    rintro D c pre W _ _ h _
    exact h.elim

theorem min_int (zs : List Int) : (if (16 : Int) < (zs.length : Int) then 16 else (zs.length : Int)) = ((min zs.length 16 : Nat) : Int) := by
  split <;> omega
theorem clique_Ages.calls (a0 : Int) (A1 : Option Addr) (c1 : Nat) (l1 : List Int) (r : List Int) (w : World) (hr1 : Kd.C (Kd.int .i64) w A1 l1.length l1) (hc1 : l1.length ≤ c1) (h : clique_Ages.f a0 l1 = some r) :
    Calls Try.prog 15 #[.int .i64 a0, .slice A1 l1.length c1] w fun e w' => ∃ v0_ : Value, e = .returned (v0_) ∧ Kd.R (Kd.int .i64) 3 w' w.heap.size (fun _ => True) v0_ r ∧ Below w.heap.size w w' := by
  obtain rfl := Option.some.inj h
  refine callsIn_wide.1 ((clq_ages Fence.wide 3 rfl (by omega) a0 A1 c1 l1 _ (min_int l1) hc1 w (IntsAt.of_C hr1)).mono ?_)
  rintro e w' ⟨v, rfl, ho, hb⟩
  exact ⟨v, rfl, ⟨fun _ _ => trivial, _, ho, reps_map⟩, hb⟩

end

section
attribute [local go_sem] Oper.semAt_some
/-! ### clique_Alive: function 16 (given) -/
def withI (v i : Int) : Int := (vec_With.f v i).getD 0
theorem with_eq (v i : Int) : vec_With.f v i = some (withI v i) := by
  unfold withI
  unfold vec_With.f vec_node.f
  by_cases h : i ≥ 0
  · rw [if_pos h, Option.bind_some]
    by_cases h2 : decide (i < 16) = true
    · rw [if_pos h2, if_pos (by omega)]
      rfl
    · rw [if_neg h2]
      rfl
  · rw [if_neg h, Option.bind_some, if_neg (by decide)]
    rfl
def liveStep (p : Int) (v : Int) (x : Nat × Int) : Int := if x.2 ≥ 0 then (if x.2 ≤ p then withI v (x.1 : Int) else v) else v
def clique_Alive.f (a0 : Int) (l1 : List Int) : Option Int := some ((firsts l1).foldl (liveStep a0) 0)

set_option maxRecDepth 100000 in
set_option maxHeartbeats 2000000 in
theorem clq_alive (F : Fence) (n : Nat) (hF : F = Fence.wide) (hn : 3 ≤ n) (h : Int) (a : Option Addr) (c : Nat) (zs : List Int) (m : Nat) (hm : (if (16 : Int) < (zs.length : Int) then 16 else (zs.length : Int)) = (m : Int)) (hc : zs.length ≤ c) (w : World) (hI : IntsAt w.heap.size w a zs) :
    CallsIn F n Try.prog 16 #[.int .i64 h, .slice a zs.length c] w fun e W' => e = .returned (.int .i64 ((upto (fun j => (j, zs[j]?.getD 0)) m).foldl (liveStep h) 0)) ∧ Below w.heap.size w W' := by
  subst hF
  have hro : Fence.wide.round = none := rfl
  have h1 : 1 ≤ n := by omega
  have HH := Aside0.mk with_eq
  refine callsIn_of_wp_marks Try.func16 rfl trivial ?_ hro
  simp only [Try.ntmps16, List.size_toArray, List.length_cons, List.length_nil, Nat.reduceAdd, Nat.reduceSub, Array.replicate_succ, Array.replicate_zero, List.push_toArray, List.append_toArray, List.nil_append, List.cons_append]
  gi_wp2_with (refine ⟨trivial, ?_⟩; gi_at_call 25; refine (clq_first Fence.wide (n - 1) trivial hro _ _ _ _).mono ?_; rintro e w' ⟨rfl, rfl⟩)
  have bH := Boxed.new w 3 (.int .i64 h)
  have bO := Boxed.new (w.alloc (.cells #[.int .i64 h] 3)) 3 (.int .i64 0)
  have bN := Boxed.new ((w.alloc (.cells #[.int .i64 h] 3)).alloc (.cells #[.int .i64 0] 3)) 30 (.slice a zs.length c)
  simp only [World.size_alloc] at bO bN
  have hB0 : Below w.heap.size w (((w.alloc (.cells #[.int .i64 h] 3)).alloc (.cells #[.int .i64 0] 3)).alloc (.cells #[.slice a zs.length c] 30)) := (((Below.refl _ w).alloc (Nat.le_refl _) _).alloc (by simp) _).alloc (by simp; omega) _
  refine wpIn_rangeFunc_ownG hro h1 (gf := 30) (lb := #[.pointer (some ⟨w.heap.size + 1 + 1, 0, none⟩)]) rfl trivial (enters_of Try.func30 (by kernel_rfl) rfl)
    (clq_stops Fence.wide (n - 1) trivial hro (by omega) (w.heap.size + 1 + 1) w.heap.size a c zs m hm hc _ (by simp) (by simp; omega) bN.cell (hI.below hB0)) belowK_t (belowK_b (by simp; omega)) (Below.refl _ _) (fun _ => rfl)
    (fun pre W => (Boxed W w.heap.size 3 (.int .i64 h) ∧ Boxed W (w.heap.size + 1) 3 (.int .i64 (pre.foldl (liveStep h) 0))) ∧ Below w.heap.size w W)
    (fun _ _ _ => False)
    (OwnFrom.and (OwnFrom.and (Own.from (boxed_own _ _ _) _) (Own.from (boxed_own _ _ (fun pre : List (Nat × Int) => .int .i64 (pre.foldl (liveStep h) 0))) _)) (ownFrom_below (Nat.le_refl _) (by simp; omega)))
    (fun _ _ _ _ _ hs _ _ => hs)
    ⟨⟨(bH.alloc _).alloc _, bO.alloc _⟩, hB0⟩
    (fun x => { tmps := #[.int .i64 h, .slice a zs.length c, .pointer (some ⟨w.heap.size, 0, none⟩), undef, .pointer (some ⟨w.heap.size + 1, 0, none⟩), .int .i64 (x.1 : Int), .int .i64 x.2, .slice a zs.length c, .func (.func 30) #[] #[.pointer (some ⟨w.heap.size + 1 + 1, 0, none⟩)], .int .i64 (x.1 : Int), .int .i64 x.2, undef, undef, undef, undef, undef, undef, undef, undef, undef, undef, undef], defers := [] }) ?assign ?body ?done ?stop
  case assign =>
    intro l x W K hK
    gi_wp2
    exact hK
  case body =>
    rintro l pre x W ⟨⟨hh, hv⟩, hB⟩ hlt
    have hch := hh.cell
    have hcv := hv.cell
    have hfv := hv.frozen
    obtain ⟨q, hq⟩ : ∃ q, pre.foldl (liveStep h) 0 = q := ⟨_, rfl⟩
    rw [hq] at hv hcv
    by_cases g1 : x.2 ≥ 0
    · by_cases g2 : x.2 ≤ h
      · have ey : (pre ++ [x]).foldl (liveStep h) 0 = withI q (x.1 : Int) := by rw [List.foldl_append, hq]; show liveStep h q x = _; rw [liveStep, if_pos g1, if_pos g2]
        clear hq
        gi_wp2_with (refine ⟨trivial, fun _ => by omega, ?_⟩; gi_at_call 27; refine (CallsIn.inRound l (callsIn_wide.2 (vec_With.calls q (x.1 : Int) _ _ (HH.out _ _)))).mono ?_; rintro e W1 ⟨rfl, hd⟩; obtain ⟨hp1, hk1, hb1⟩ := drawn_ hd; have hv1 : Boxed W1 (w.heap.size + 1) 3 (.int .i64 q) := (congrArg (fun q => q[w.heap.size + 1]?) hp1).trans hv; have hh1 : Boxed W1 w.heap.size 3 (.int .i64 h) := (congrArg (fun q => q[w.heap.size]?) hp1).trans hh; have hc1 := hv1.cell; have hf1 := hv1.frozen; clear hd hp1)
        exact ⟨(hk1.trans (KeepsOthers.setCell _ _ _)).from _, (hb1 _).setCell (p := ⟨w.heap.size + 1, 0, none⟩) (Nat.le_succ _) _, ⟨hh1.other (by omega) _, by rw [ey]; exact hv1.set _⟩, (hB.trans (hb1 _)).setCell (p := ⟨w.heap.size + 1, 0, none⟩) (Nat.le_succ _) _⟩
      · have ey : (pre ++ [x]).foldl (liveStep h) 0 = q := by rw [List.foldl_append, hq]; show liveStep h q x = _; rw [liveStep, if_pos g1, if_neg g2]
        clear hq
        gi_wp2
        exact ⟨KeepsFrom.refl _ _, Below.refl _ _, ⟨hh, by rw [ey]; exact hv⟩, hB⟩
    · have ey : (pre ++ [x]).foldl (liveStep h) 0 = q := by rw [List.foldl_append, hq]; show liveStep h q x = _; rw [liveStep, if_neg g1]
      clear hq
      gi_wp2
      exact ⟨KeepsFrom.refl _ _, Below.refl _ _, ⟨hh, by rw [ey]; exact hv⟩, hB⟩
  case done =>
    rintro D ys W hD rfl ⟨⟨hh, hv⟩, hB⟩ hK
    have hcl := hv.cell
    have hfz := hv.frozen
    obtain ⟨q, hq⟩ : ∃ q, (upto (fun j => (j, zs[j]?.getD 0)) m).foldl (liveStep h) 0 = q := ⟨_, rfl⟩
    rw [hq] at hv hcl
    have HQ := Aside0.mk hq
    clear hq
    gi_wp2
    have hK' := (KeepsOthers.setCell W ⟨w.heap.size + 1, 0, none⟩ (.int .i64 q)).same D _ hK rfl
    refine ⟨by simp, .inl ⟨_, _, rfl, run_takeDeferred hK', ?_⟩⟩
    have hc5 := cell_kept (World.cell?_setCell_same' W ⟨w.heap.size + 1, 0, none⟩ (.int .i64 q) (by rw [hcl]; rfl)) (grownBy_putObj' _ D (.deferred none)) (fun r e => by cases e; exact ⟨_, hK', rfl⟩)
    exact ⟨.int .i64 q, by simp [results, Try.f16, go_sem, hc5], by rw [HQ.out], (hB.setCell (p := ⟨w.heap.size + 1, 0, none⟩) (by simp) _).trans (belowK_b (w := w) (Nat.le_refl _) _ D _ _ (by simp at hD; omega) hK' rfl rfl)⟩
  case stop =>
    rintro D c pre W _ _ h _
    exact h.elim
theorem clique_Alive.calls (a0 : Int) (A1 : Option Addr) (c1 : Nat) (l1 : List Int) (r : Int) (w : World) (hr1 : Kd.C (Kd.int .i64) w A1 l1.length l1) (hc1 : l1.length ≤ c1) (h : clique_Alive.f a0 l1 = some r) :
    Calls Try.prog 16 #[.int .i64 a0, .slice A1 l1.length c1] w fun e w' => e = .returned (.int .i64 r) ∧ Below w.heap.size w w' := by
  obtain rfl := Option.some.inj h
  exact callsIn_wide.1 (clq_alive Fence.wide 3 rfl (by omega) a0 A1 c1 l1 _ (min_int l1) hc1 w (IntsAt.of_C hr1))
end

/-! ### clique_Acked: function 19 -/
def clique_Acked.l0 : Nat → Int → Int → List Int → Int → Int → Option (Int)
  | 0, _, _, _, _, _ => none
  | k + 1, x0, x4, x7, x8, x9 => if x9 < x8 then (if 0 ≤ x9 then (if x9 < (x7.length : Int) then ((vec_Has.f (rd x7 x9) x0).bind fun t107 => (if t107 = true then (clique_Acked.l0 k x0 (wrap64 (x4 + 1)) x7 x8 (wrap64 (x9 + 1))) else (clique_Acked.l0 k x0 x4 x7 x8 (wrap64 (x9 + 1))))) else (none)) else (none)) else (some x4)
def clique_Acked.f (k : Nat) (a0 : Int) (l1 : List Int) : Option (Int) := clique_Acked.l0 k a0 0 l1 (l1.length : Int) 0
theorem clique_Acked.mono_l : ∀ k, (∀ y0 y1 y2 y3 y4, LeO (clique_Acked.l0 k y0 y1 y2 y3 y4) (clique_Acked.l0 (k + 1) y0 y1 y2 y3 y4))
  | 0 => fun _ _ _ _ _ r h => by simp [clique_Acked.l0] at h
  | k + 1 => by
    have ih0 := clique_Acked.mono_l k
    · intro y0 y1 y2 y3 y4
      unfold clique_Acked.l0
      repeat' first
      | (with_reducible exact ih0 _ _ _ _ _)
      | (with_reducible exact LeO.refl _)
      | (with_reducible exact LeO.none _)
      | (with_reducible refine LeO.ite ?_ ?_)
      | (with_reducible refine LeO.bind ?_ (fun _ => ?_))
      | exact ih0 _ _ _ _ _
      | exact LeO.none _
      | refine LeO.ite ?_ ?_
      | refine LeO.bind ?_ (fun _ => ?_)
theorem clique_Acked.mono : ∀ a0 a1 k, LeO (clique_Acked.f k a0 a1) (clique_Acked.f (k + 1) a0 a1) := by
  intro a0 a1 k
  have ih0 := clique_Acked.mono_l k
  unfold clique_Acked.f
  repeat' first
      | (with_reducible exact ih0 _ _ _ _ _)
      | (with_reducible exact LeO.refl _)
      | (with_reducible exact LeO.none _)
      | (with_reducible refine LeO.ite ?_ ?_)
      | (with_reducible refine LeO.bind ?_ (fun _ => ?_))
      | exact ih0 _ _ _ _ _
      | exact LeO.none _
      | refine LeO.ite ?_ ?_
      | refine LeO.bind ?_ (fun _ => ?_)
set_option maxHeartbeats 8000000 in
set_option maxRecDepth 100000 in
theorem clique_Acked.calls (k : Nat) (a0 : Int) (A1 : Option Addr) (c1 : Nat) (l1 : List Int) (r : Int) (w : World) (hr1 : Kd.C (Kd.int .i64) w A1 l1.length l1) (hc1 : l1.length ≤ c1) (h : clique_Acked.f k a0 l1 = some r) :
    Calls Try.prog 19 #[.int .i64 a0, .slice A1 l1.length c1] w fun e w' => e = .returned (.int .i64 r) ∧ Drawn0 w w' := by
  have HR1 := Aside0.mk hr1
  have HC1 := Aside0.mk hc1
  clear hr1 hc1
  have H : (clique_Acked.l0 k a0 0 l1 (l1.length : Int) 0) = some r := h
  clear h
  have H' := Aside0.mk H
  clear H
  go_enter Try.func19, Try.ntmps19
  go_wp2
  go_loopg [4, 9] k (fun kq v4 v9 w' => ∃ (x4_1 : Int) (x9_1 : Int), v4 = .int .i64 x4_1 ∧ v9 = .int .i64 x9_1 ∧ Aside0 (clique_Acked.l0 kq a0 x4_1 l1 (l1.length : Int) x9_1 = some r) ∧ Aside0 (kq ≤ k) ∧ Drawn0 w w')
  case atStart => exact ⟨(0), (0), (by first | rfl | (simp; done) | (simp [*]; done)), (by first | rfl | (simp; done) | (simp [*]; done)), H', ⟨Nat.le_refl _⟩, by repeat (first | exact Drawn0.refl _ | apply Drawn0.step)⟩
  case round =>
    clear H'
    try clear c1
    try clear p2
    obtain ⟨x4_1, x9_1, rfl, rfl, HA, HK1, ⟨m1, rfl⟩⟩ := hrel
    cases gk with
    | zero => exact absurd HA.out (by simp [clique_Acked.l0])
    | succ k1 =>
      have H := HA.out
      clear HA
      simp only [clique_Acked.l0] at H
      by_cases c3 : x9_1 < (l1.length : Int)
      · rw [if_pos c3] at H
        have c3b0 : decide (x9_1 < (l1.length : Int)) = true := decide_eq_true c3
        clear c3
        by_cases c4 : 0 ≤ x9_1
        · rw [if_pos c4] at H
          have c4b0 : decide (0 ≤ x9_1) = true := decide_eq_true c4
          clear c4
          by_cases c5 : x9_1 < (l1.length : Int)
          · rw [if_pos c5] at H
            have c5b0 : decide (x9_1 < (l1.length : Int)) = true := decide_eq_true c5
            clear c5
            replace H := Option.bind_eq_some_iff.mp H
            obtain ⟨t107, A60, H⟩ := H
            replace H : (if t107 = true then (clique_Acked.l0 k1 a0 (wrap64 (x4_1 + 1)) l1 (l1.length : Int) (wrap64 (x9_1 + 1))) else (clique_Acked.l0 k1 a0 x4_1 l1 (l1.length : Int) (wrap64 (x9_1 + 1)))) = some r := H
            have A6 := Aside0.mk A60
            clear A60
            by_cases c7 : t107 = true
            · subst c7
              have H1 : (clique_Acked.l0 k1 a0 (wrap64 (x4_1 + 1)) l1 (l1.length : Int) (wrap64 (x9_1 + 1))) = some r := by rw [if_pos rfl] at H; exact H
              clear H
              have H := H1
              clear H1
              have H' := Aside0.mk H
              clear H
              have p106 : 0 ≤ (x9_1 : Int) := of_decide_eq_true (by first | (with_reducible assumption) | assumption)
              have q106 : x9_1 < (l1.length : Int) := of_decide_eq_true (by first | (with_reducible assumption) | assumption)
              obtain ⟨ad106, e106, hx106_0⟩ := Kd.at_int HR1.out x9_1 p106 q106
              cases e106
              replace p106 := eq_true p106
              replace q106 := eq_true q106
              go_wp2_with (first | ((with_reducible refine gate_callee (f := 26) rfl ?_); refine goesL_ (some 15) rfl rfl Try.func26 (by kernel_rfl) rfl #[.int .i64 (rd l1 x9_1), .int .i64 a0] rfl (by (try simp only [List.map_toArray, List.map_cons, List.map_nil]); first | done | rfl | (simp only [List.length_drop, List.length_take]; rfl)) ?_; (with_reducible refine (vec_Has.calls (rd l1 x9_1) a0 true _ A6.out).mono ?_); rintro e w' ⟨rfl, ⟨nd, rfl⟩⟩; refine ⟨_, rfl, ?_⟩))
              go_roundg k1
              case measure => have := HK1.out; omega
              case rel => exact ⟨(wrap64 (x4_1 + 1)), (wrap64 (x9_1 + 1)), (by first | rfl | (simp; done) | (simp [*]; done)), (by first | rfl | (simp; done) | (simp [*]; done)), H', ⟨by have := HK1.out; omega⟩, by repeat (first | exact Drawn0.refl _ | apply Drawn0.step)⟩
            · replace c7 := Bool.eq_false_iff.mpr c7
              subst c7
              have H1 : (clique_Acked.l0 k1 a0 x4_1 l1 (l1.length : Int) (wrap64 (x9_1 + 1))) = some r := by rw [if_neg (show ¬ (false = true) by decide)] at H; exact H
              clear H
              have H := H1
              clear H1
              have H' := Aside0.mk H
              clear H
              have p106 : 0 ≤ (x9_1 : Int) := of_decide_eq_true (by first | (with_reducible assumption) | assumption)
              have q106 : x9_1 < (l1.length : Int) := of_decide_eq_true (by first | (with_reducible assumption) | assumption)
              obtain ⟨ad106, e106, hx106_0⟩ := Kd.at_int HR1.out x9_1 p106 q106
              cases e106
              replace p106 := eq_true p106
              replace q106 := eq_true q106
              go_wp2_with (first | ((with_reducible refine gate_callee (f := 26) rfl ?_); refine goesL_ (some 15) rfl rfl Try.func26 (by kernel_rfl) rfl #[.int .i64 (rd l1 x9_1), .int .i64 a0] rfl (by (try simp only [List.map_toArray, List.map_cons, List.map_nil]); first | done | rfl | (simp only [List.length_drop, List.length_take]; rfl)) ?_; (with_reducible refine (vec_Has.calls (rd l1 x9_1) a0 false _ A6.out).mono ?_); rintro e w' ⟨rfl, ⟨nd, rfl⟩⟩; refine ⟨_, rfl, ?_⟩))
              go_roundg k1
              case measure => have := HK1.out; omega
              case rel => exact ⟨(x4_1), (wrap64 (x9_1 + 1)), (by first | rfl | (simp; done) | (simp [*]; done)), (by first | rfl | (simp; done) | (simp [*]; done)), H', ⟨by have := HK1.out; omega⟩, by repeat (first | exact Drawn0.refl _ | apply Drawn0.step)⟩
          · rw [if_neg c5] at H
            exact absurd H (by simp)
        · rw [if_neg c4] at H
          exact absurd H (by simp)
      · rw [if_neg c3] at H
        have c3b0 : decide (x9_1 < (l1.length : Int)) = false := decide_eq_false c3
        clear c3
        obtain rfl := Option.some.inj H
        go_wp2
        go_ret
        exact ⟨by first | rfl | (simp; done) | (simp [*]; done), by repeat (first | exact Drawn0.refl _ | apply Drawn0.step)⟩

end Go.Proofs.Ytmbmpcjlddnpcaa.PG
