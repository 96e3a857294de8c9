-- Laid by a program of this session (wip/myprint.py, over the kit's print.py), not by print.sh.
import Derived.Test.YtbjmoebajdhdoaaPDx0
import Derived.Test.YtbjmoebajdhdoaaPDx1
import Derived.Test.YtbjmoebajdhdoaaPDx3
namespace Go.Proofs.Ytbjmoebajdhdoaa.PD
open Go.RowKit Go.Proofs.YtbjmoebajdhdoaaW.PrintWords Go.Proofs.YtbjmoebajdhdoaaW.PrintLast Go.Proofs.YtbjmoebajdhdoaaW.PrintMore
attribute [local go_sem] max2_int min2_int max_two min_two max_three min_three max_four min_four   -- for this text's walks alone
set_option linter.unusedVariables false
set_option linter.unusedSimpArgs false

/-! ### omnibuslaw11_LatticeAgree: function 4 -/
/-- The element of an array of four at a running place. -/
def latsel.f (a0_0 a0_1 a0_2 a0_3 a1 : Int) : Option Int := if a1 = 0 then some a0_0 else if a1 = 1 then some a0_1 else if a1 = 2 then some a0_2 else if a1 = 3 then some a0_3 else none
theorem latsel.cases {x0 x1 x2 x3 i t : Int} (h : latsel.f x0 x1 x2 x3 i = some t) : (i = 0 ∧ x0 = t) ∨ (i = 1 ∧ x1 = t) ∨ (i = 2 ∧ x2 = t) ∨ (i = 3 ∧ x3 = t) := by
  unfold latsel.f at h
  by_cases h0 : i = 0
  · rw [if_pos h0] at h
    exact .inl ⟨h0, Option.some.inj h⟩
  · rw [if_neg h0] at h
    by_cases h1 : i = 1
    · rw [if_pos h1] at h
      exact .inr (.inl ⟨h1, Option.some.inj h⟩)
    · rw [if_neg h1] at h
      by_cases h2 : i = 2
      · rw [if_pos h2] at h
        exact .inr (.inr (.inl ⟨h2, Option.some.inj h⟩))
      · rw [if_neg h2] at h
        by_cases h3 : i = 3
        · rw [if_pos h3] at h
          exact .inr (.inr (.inr ⟨h3, Option.some.inj h⟩))
        · rw [if_neg h3] at h
          exact absurd h (by simp)
theorem latsel.low {x0 x1 x2 x3 i t : Int} (h : latsel.f x0 x1 x2 x3 i = some t) : (0 ≤ i) = True := eq_true (by rcases latsel.cases h with ⟨e, _⟩ | ⟨e, _⟩ | ⟨e, _⟩ | ⟨e, _⟩ <;> omega)
theorem latsel.high {x0 x1 x2 x3 i t : Int} (h : latsel.f x0 x1 x2 x3 i = some t) : (i < 4) = True := eq_true (by rcases latsel.cases h with ⟨e, _⟩ | ⟨e, _⟩ | ⟨e, _⟩ | ⟨e, _⟩ <;> omega)
theorem latsel.cell {w : World} {g t : Nat} {x0 x1 x2 x3 i v : Int} (hb : w.heap[g]? = some (.cells #[.int .i64 x0, .int .i64 x1, .int .i64 x2, .int .i64 x3] t (0, 0))) (h : latsel.f x0 x1 x2 x3 i = some v) : w.cell? ⟨g, i.toNat, none⟩ = some (.int .i64 v) := by
  rcases latsel.cases h with ⟨rfl, rfl⟩ | ⟨rfl, rfl⟩ | ⟨rfl, rfl⟩ | ⟨rfl, rfl⟩
  · show w.cell? ⟨g, 0, none⟩ = _
    exact (blk_cell hb 0).trans rfl
  · show w.cell? ⟨g, 1, none⟩ = _
    exact (blk_cell hb 1).trans rfl
  · show w.cell? ⟨g, 2, none⟩ = _
    exact (blk_cell hb 2).trans rfl
  · show w.cell? ⟨g, 3, none⟩ = _
    exact (blk_cell hb 3).trans rfl
mutual
def omnibuslaw11_LatticeAgree.j0 : Nat → Bool → Int → Int → Int → Int → Int → Bool → Int → Int → Int → Int → Int → Int → Option (Bool)
  | 0, _, _, _, _, _, _, _, _, _, _, _, _, _ => none
  | k + 1, x15, x17, x18, x19, x24, x25, x87, x131000, x131001, x131002, x131003, x135000, x135001 => if x87 = true then (some false) else (if x18 < x19 then (omnibuslaw11_LatticeAgree.j1 k x15 x17 x18 x19 x24 x25 (-1) x131000 x131001 x131002 x131003 x135000 x135001) else (omnibuslaw11_LatticeAgree.j1 k x15 x17 x18 x19 x24 x25 0 x131000 x131001 x131002 x131003 x135000 x135001))
def omnibuslaw11_LatticeAgree.j1 : Nat → Bool → Int → Int → Int → Int → Int → Int → Int → Int → Int → Int → Int → Int → Option (Bool)
  | 0, _, _, _, _, _, _, _, _, _, _, _, _, _ => none
  | k + 1, x15, x17, x18, x19, x24, x25, x26, x131000, x131001, x131002, x131003, x135000, x135001 => if x18 > x19 then (omnibuslaw11_LatticeAgree.j2 k x15 x17 x18 x24 x25 1 x131000 x131001 x131002 x131003 x135000 x135001) else (omnibuslaw11_LatticeAgree.j2 k x15 x17 x18 x24 x25 x26 x131000 x131001 x131002 x131003 x135000 x135001)
def omnibuslaw11_LatticeAgree.j2 : Nat → Bool → Int → Int → Int → Int → Int → Int → Int → Int → Int → Int → Int → Option (Bool)
  | 0, _, _, _, _, _, _, _, _, _, _, _, _ => none
  | k + 1, x15, x17, x18, x24, x25, x26, x131000, x131001, x131002, x131003, x135000, x135001 => omnibuslaw11_LatticeAgree.l0 k x15 x17 x18 x24 x25 x26 0 x131000 x131001 x131002 x131003 x135000 x135001
def omnibuslaw11_LatticeAgree.l0 : Nat → Bool → Int → Int → Int → Int → Int → Int → Int → Int → Int → Int → Int → Int → Option (Bool)
  | 0, _, _, _, _, _, _, _, _, _, _, _, _, _ => none
  | k + 1, x15, x17, x18, x24, x25, x26, x27, x131000, x131001, x131002, x131003, x135000, x135001 => if x27 < 4 then ((latsel.f x131000 x131001 x131002 x131003 x27).bind fun t147 => ((omnibuslaw11_pick.f t147 (wrap64 ((wrap64 (2 * x17)) + 1))).bind fun t148 => ((lattice_Epoch.f x135000 x135001 (wrap64 (x24 + (wrap64 (t148 - x17))))).bind fun bt149 => ((latsel.f x131000 x131001 x131002 x131003 (wrap64 (3 - x27))).bind fun t151 => ((omnibuslaw11_pick.f t151 (wrap64 ((wrap64 (2 * x17)) + 1))).bind fun t152 => ((lattice_Order.f x135000 x135001 (wrap64 (x24 + (wrap64 (t148 - x17)))) (wrap64 ((wrap64 (x25 + t152)) - x17))).bind fun bt153 => ((lattice_Near.f x135000 x135001 (wrap64 (t148 - x17))).bind fun t155 => (if t155 = true then (if bt149.2 = 0 then (if bt149.1 = x18 then (if bt153.2 = 0 then (if bt153.1 = x26 then (omnibuslaw11_LatticeAgree.l0 k x15 x17 x18 x24 x25 x26 (wrap64 (x27 + 1)) x131000 x131001 x131002 x131003 x135000 x135001) else (some false)) else (some false)) else (some false)) else (some false)) else (some false))))))))) else (if x15 = true then ((lattice_Near.f x135000 x135001 (wrap64 (x17 + 1))).bind fun t145 => (if t145 = true then (some false) else ((lattice_Near.f x135000 x135001 (wrap64 ((wrap64 (-x17)) - 1))).bind fun t146 => (some (!t146))))) else (some false))
end
def omnibuslaw11_LatticeAgree.f (k : Nat) (a0 : Int) (a1 : Int) (a2 : Int) (a3 : Int) (a4 : Int) (a5 : Int) (a6_0 : Int) (a6_1 : Int) (a6_2 : Int) (a6_3 : Int) : Option (Bool) := (omnibuslaw11_awake.f).bind fun t131 => ((omnibuslaw11_Lattice.f a0 a1).bind fun bt132 => ((omnibuslaw11_pick.f a2 1048576).bind fun t135 => ((omnibuslaw11_pick.f a3 1048576).bind fun t136 => ((lattice_Begin.f bt132.1 bt132.2 (wrap64 (t135 - 524288))).bind fun bt137 => ((lattice_Begin.f bt132.1 bt132.2 (wrap64 (t136 - 524288))).bind fun bt139 => ((omnibuslaw11_pick.f a4 bt132.1).bind fun t141 => ((omnibuslaw11_pick.f a5 bt132.1).bind fun t142 => (if bt137.2 = 0 then (if bt139.2 = 0 then ((lattice_Active.f bt132.1 bt132.2 (wrap64 (bt137.1 + t141))).bind fun t143 => (if t143 = true then ((lattice_Active.f bt132.1 bt132.2 (wrap64 (bt139.1 + t142))).bind fun t144 => (omnibuslaw11_LatticeAgree.j0 k t131 (wrap64 (Int.tdiv bt132.2 2)) (wrap64 (t135 - 524288)) (wrap64 (t136 - 524288)) (wrap64 (bt137.1 + t141)) (wrap64 (bt139.1 + t142)) (!t144) a6_0 a6_1 a6_2 a6_3 bt132.1 bt132.2)) else (omnibuslaw11_LatticeAgree.j0 k t131 (wrap64 (Int.tdiv bt132.2 2)) (wrap64 (t135 - 524288)) (wrap64 (t136 - 524288)) (wrap64 (bt137.1 + t141)) (wrap64 (bt139.1 + t142)) true a6_0 a6_1 a6_2 a6_3 bt132.1 bt132.2))) else (omnibuslaw11_LatticeAgree.j0 k t131 (wrap64 (Int.tdiv bt132.2 2)) (wrap64 (t135 - 524288)) (wrap64 (t136 - 524288)) (wrap64 (bt137.1 + t141)) (wrap64 (bt139.1 + t142)) true a6_0 a6_1 a6_2 a6_3 bt132.1 bt132.2)) else (omnibuslaw11_LatticeAgree.j0 k t131 (wrap64 (Int.tdiv bt132.2 2)) (wrap64 (t135 - 524288)) (wrap64 (t136 - 524288)) (wrap64 (bt137.1 + t141)) (wrap64 (bt139.1 + t142)) true a6_0 a6_1 a6_2 a6_3 bt132.1 bt132.2)))))))))
theorem omnibuslaw11_LatticeAgree.mono_l : ∀ k, (∀ y0 y1 y2 y3 y4 y5 y6 y7 y8 y9 y10 y11 y12, LeO (omnibuslaw11_LatticeAgree.j0 k y0 y1 y2 y3 y4 y5 y6 y7 y8 y9 y10 y11 y12) (omnibuslaw11_LatticeAgree.j0 (k + 1) y0 y1 y2 y3 y4 y5 y6 y7 y8 y9 y10 y11 y12)) ∧ (∀ y0 y1 y2 y3 y4 y5 y6 y7 y8 y9 y10 y11 y12, LeO (omnibuslaw11_LatticeAgree.j1 k y0 y1 y2 y3 y4 y5 y6 y7 y8 y9 y10 y11 y12) (omnibuslaw11_LatticeAgree.j1 (k + 1) y0 y1 y2 y3 y4 y5 y6 y7 y8 y9 y10 y11 y12)) ∧ (∀ y0 y1 y2 y3 y4 y5 y6 y7 y8 y9 y10 y11, LeO (omnibuslaw11_LatticeAgree.j2 k y0 y1 y2 y3 y4 y5 y6 y7 y8 y9 y10 y11) (omnibuslaw11_LatticeAgree.j2 (k + 1) y0 y1 y2 y3 y4 y5 y6 y7 y8 y9 y10 y11)) ∧ (∀ y0 y1 y2 y3 y4 y5 y6 y7 y8 y9 y10 y11 y12, LeO (omnibuslaw11_LatticeAgree.l0 k y0 y1 y2 y3 y4 y5 y6 y7 y8 y9 y10 y11 y12) (omnibuslaw11_LatticeAgree.l0 (k + 1) y0 y1 y2 y3 y4 y5 y6 y7 y8 y9 y10 y11 y12))
  | 0 => ⟨fun _ _ _ _ _ _ _ _ _ _ _ _ _ r h => by simp [omnibuslaw11_LatticeAgree.j0] at h, fun _ _ _ _ _ _ _ _ _ _ _ _ _ r h => by simp [omnibuslaw11_LatticeAgree.j1] at h, fun _ _ _ _ _ _ _ _ _ _ _ _ r h => by simp [omnibuslaw11_LatticeAgree.j2] at h, fun _ _ _ _ _ _ _ _ _ _ _ _ _ r h => by simp [omnibuslaw11_LatticeAgree.l0] at h⟩
  | k + 1 => by
    obtain ⟨ih0, ih1, ih2, ih3⟩ := omnibuslaw11_LatticeAgree.mono_l k
    refine ⟨?_, ?_, ?_, ?_⟩
    · intro y0 y1 y2 y3 y4 y5 y6 y7 y8 y9 y10 y11 y12
      unfold omnibuslaw11_LatticeAgree.j0
      repeat' first
      | (with_reducible exact ih0 _ _ _ _ _ _ _ _ _ _ _ _ _)
      | (with_reducible exact ih1 _ _ _ _ _ _ _ _ _ _ _ _ _)
      | (with_reducible exact ih2 _ _ _ _ _ _ _ _ _ _ _ _)
      | (with_reducible exact ih3 _ _ _ _ _ _ _ _ _ _ _ _ _)
      | (with_reducible exact LeO.refl _)
      | (with_reducible exact LeO.none _)
      | (with_reducible refine LeO.ite ?_ ?_)
      | (with_reducible refine LeO.bind ?_ (fun _ => ?_))
      | exact ih0 _ _ _ _ _ _ _ _ _ _ _ _ _
      | exact ih1 _ _ _ _ _ _ _ _ _ _ _ _ _
      | exact ih2 _ _ _ _ _ _ _ _ _ _ _ _
      | exact ih3 _ _ _ _ _ _ _ _ _ _ _ _ _
      | exact LeO.none _
      | refine LeO.ite ?_ ?_
      | refine LeO.bind ?_ (fun _ => ?_)
    · intro y0 y1 y2 y3 y4 y5 y6 y7 y8 y9 y10 y11 y12
      unfold omnibuslaw11_LatticeAgree.j1
      repeat' first
      | (with_reducible exact ih0 _ _ _ _ _ _ _ _ _ _ _ _ _)
      | (with_reducible exact ih1 _ _ _ _ _ _ _ _ _ _ _ _ _)
      | (with_reducible exact ih2 _ _ _ _ _ _ _ _ _ _ _ _)
      | (with_reducible exact ih3 _ _ _ _ _ _ _ _ _ _ _ _ _)
      | (with_reducible exact LeO.refl _)
      | (with_reducible exact LeO.none _)
      | (with_reducible refine LeO.ite ?_ ?_)
      | (with_reducible refine LeO.bind ?_ (fun _ => ?_))
      | exact ih0 _ _ _ _ _ _ _ _ _ _ _ _ _
      | exact ih1 _ _ _ _ _ _ _ _ _ _ _ _ _
      | exact ih2 _ _ _ _ _ _ _ _ _ _ _ _
      | exact ih3 _ _ _ _ _ _ _ _ _ _ _ _ _
      | exact LeO.none _
      | refine LeO.ite ?_ ?_
      | refine LeO.bind ?_ (fun _ => ?_)
    · intro y0 y1 y2 y3 y4 y5 y6 y7 y8 y9 y10 y11
      unfold omnibuslaw11_LatticeAgree.j2
      repeat' first
      | (with_reducible exact ih0 _ _ _ _ _ _ _ _ _ _ _ _ _)
      | (with_reducible exact ih1 _ _ _ _ _ _ _ _ _ _ _ _ _)
      | (with_reducible exact ih2 _ _ _ _ _ _ _ _ _ _ _ _)
      | (with_reducible exact ih3 _ _ _ _ _ _ _ _ _ _ _ _ _)
      | (with_reducible exact LeO.refl _)
      | (with_reducible exact LeO.none _)
      | (with_reducible refine LeO.ite ?_ ?_)
      | (with_reducible refine LeO.bind ?_ (fun _ => ?_))
      | exact ih0 _ _ _ _ _ _ _ _ _ _ _ _ _
      | exact ih1 _ _ _ _ _ _ _ _ _ _ _ _ _
      | exact ih2 _ _ _ _ _ _ _ _ _ _ _ _
      | exact ih3 _ _ _ _ _ _ _ _ _ _ _ _ _
      | exact LeO.none _
      | refine LeO.ite ?_ ?_
      | refine LeO.bind ?_ (fun _ => ?_)
    · intro y0 y1 y2 y3 y4 y5 y6 y7 y8 y9 y10 y11 y12
      unfold omnibuslaw11_LatticeAgree.l0
      repeat' first
      | (with_reducible exact ih0 _ _ _ _ _ _ _ _ _ _ _ _ _)
      | (with_reducible exact ih1 _ _ _ _ _ _ _ _ _ _ _ _ _)
      | (with_reducible exact ih2 _ _ _ _ _ _ _ _ _ _ _ _)
      | (with_reducible exact ih3 _ _ _ _ _ _ _ _ _ _ _ _ _)
      | (with_reducible exact LeO.refl _)
      | (with_reducible exact LeO.none _)
      | (with_reducible refine LeO.ite ?_ ?_)
      | (with_reducible refine LeO.bind ?_ (fun _ => ?_))
      | exact ih0 _ _ _ _ _ _ _ _ _ _ _ _ _
      | exact ih1 _ _ _ _ _ _ _ _ _ _ _ _ _
      | exact ih2 _ _ _ _ _ _ _ _ _ _ _ _
      | exact ih3 _ _ _ _ _ _ _ _ _ _ _ _ _
      | exact LeO.none _
      | refine LeO.ite ?_ ?_
      | refine LeO.bind ?_ (fun _ => ?_)
theorem omnibuslaw11_LatticeAgree.mono : ∀ a0 a1 a2 a3 a4 a5 a6 a7 a8 a9 k, LeO (omnibuslaw11_LatticeAgree.f k a0 a1 a2 a3 a4 a5 a6 a7 a8 a9) (omnibuslaw11_LatticeAgree.f (k + 1) a0 a1 a2 a3 a4 a5 a6 a7 a8 a9) := by
  intro a0 a1 a2 a3 a4 a5 a6 a7 a8 a9 k
  obtain ⟨ih0, ih1, ih2, ih3⟩ := omnibuslaw11_LatticeAgree.mono_l k
  unfold omnibuslaw11_LatticeAgree.f
  repeat' first
      | (with_reducible exact ih0 _ _ _ _ _ _ _ _ _ _ _ _ _)
      | (with_reducible exact ih1 _ _ _ _ _ _ _ _ _ _ _ _ _)
      | (with_reducible exact ih2 _ _ _ _ _ _ _ _ _ _ _ _)
      | (with_reducible exact ih3 _ _ _ _ _ _ _ _ _ _ _ _ _)
      | (with_reducible exact LeO.refl _)
      | (with_reducible exact LeO.none _)
      | (with_reducible refine LeO.ite ?_ ?_)
      | (with_reducible refine LeO.bind ?_ (fun _ => ?_))
      | exact ih0 _ _ _ _ _ _ _ _ _ _ _ _ _
      | exact ih1 _ _ _ _ _ _ _ _ _ _ _ _ _
      | exact ih2 _ _ _ _ _ _ _ _ _ _ _ _
      | exact ih3 _ _ _ _ _ _ _ _ _ _ _ _ _
      | exact LeO.none _
      | refine LeO.ite ?_ ?_
      | refine LeO.bind ?_ (fun _ => ?_)
def omnibuslaw11_LatticeAgree.T22 : Bool × List (List Nat × List Nat) := (true, [([], []), ([], []), ([], []), ([1, 2], [1, 2]), ([], []), ([], []), ([5], [5]), ([6], [6]), ([7], [7]), ([], []), ([9], [9]), ([10], [10]), ([8, 11], [8, 11]), ([4, 12], [4, 12]), ([], []), ([13, 14], [13, 14]), ([0, 3, 15, 12], [0, 3, 15]), ([16], [16]), ([17], [17]), ([17], [17]), ([18, 16, 0, 1, 2, 3, 4, 5, 6, 7, 8, 9, 10, 11, 12, 13, 14, 15, 16, 17, 18], [18]), ([19, 20, 0, 1, 2, 3, 4, 5, 6, 7, 8, 9, 10, 11, 12, 13, 14, 15, 16, 17, 18, 19, 20], [19])])
def omnibuslaw11_LatticeAgree.B22 : List Nat := [0, 0, 0, 6, 0, 0, 32, 96, 224, 0, 512, 1536, 4064, 8176, 0, 32752, 65535, 131071, 262143, 262143, 524287, 2097151]
theorem omnibuslaw11_LatticeAgree.tab22 : rtab .any (opsOf Try.f4 22) = omnibuslaw11_LatticeAgree.T22 := by kernel_rfl
theorem omnibuslaw11_LatticeAgree.bits22 : waitsOk omnibuslaw11_LatticeAgree.T22.2 omnibuslaw11_LatticeAgree.B22 = true := by kernel_rfl
set_option maxHeartbeats 8000000 in
set_option maxRecDepth 100000 in
theorem omnibuslaw11_LatticeAgree.calls (k : Nat) (a0 : Int) (a1 : Int) (a2 : Int) (a3 : Int) (a4 : Int) (a5 : Int) (a6_0 : Int) (a6_1 : Int) (a6_2 : Int) (a6_3 : Int) (r : Bool) (w : World) (h : omnibuslaw11_LatticeAgree.f k a0 a1 a2 a3 a4 a5 a6_0 a6_1 a6_2 a6_3 = some r) (hr_ : r = true) :
    Calls Try.prog 4 #[.int .i64 a0, .int .i64 a1, .int .i64 a2, .int .i64 a3, .int .i64 a4, .int .i64 a5, .agg #[.int .i64 a6_0, .int .i64 a6_1, .int .i64 a6_2, .int .i64 a6_3]] w fun e w' => e = .returned (.bool r) ∧ Below w.heap.size w w' := by
  have hu37 := Try.underlying37
  have hu23 := Try.underlying23
  have HT := Aside0.mk hr_
  clear hr_
  have HB := Aside0.mk (Below.refl w.heap.size w)
  have H : ((omnibuslaw11_awake.f).bind fun t131 => ((omnibuslaw11_Lattice.f a0 a1).bind fun bt132 => ((omnibuslaw11_pick.f a2 1048576).bind fun t135 => ((omnibuslaw11_pick.f a3 1048576).bind fun t136 => ((lattice_Begin.f bt132.1 bt132.2 (wrap64 (t135 - 524288))).bind fun bt137 => ((lattice_Begin.f bt132.1 bt132.2 (wrap64 (t136 - 524288))).bind fun bt139 => ((omnibuslaw11_pick.f a4 bt132.1).bind fun t141 => ((omnibuslaw11_pick.f a5 bt132.1).bind fun t142 => (if bt137.2 = 0 then (if bt139.2 = 0 then ((lattice_Active.f bt132.1 bt132.2 (wrap64 (bt137.1 + t141))).bind fun t143 => (if t143 = true then ((lattice_Active.f bt132.1 bt132.2 (wrap64 (bt139.1 + t142))).bind fun t144 => (omnibuslaw11_LatticeAgree.j0 k t131 (wrap64 (Int.tdiv bt132.2 2)) (wrap64 (t135 - 524288)) (wrap64 (t136 - 524288)) (wrap64 (bt137.1 + t141)) (wrap64 (bt139.1 + t142)) (!t144) a6_0 a6_1 a6_2 a6_3 bt132.1 bt132.2)) else (omnibuslaw11_LatticeAgree.j0 k t131 (wrap64 (Int.tdiv bt132.2 2)) (wrap64 (t135 - 524288)) (wrap64 (t136 - 524288)) (wrap64 (bt137.1 + t141)) (wrap64 (bt139.1 + t142)) true a6_0 a6_1 a6_2 a6_3 bt132.1 bt132.2))) else (omnibuslaw11_LatticeAgree.j0 k t131 (wrap64 (Int.tdiv bt132.2 2)) (wrap64 (t135 - 524288)) (wrap64 (t136 - 524288)) (wrap64 (bt137.1 + t141)) (wrap64 (bt139.1 + t142)) true a6_0 a6_1 a6_2 a6_3 bt132.1 bt132.2)) else (omnibuslaw11_LatticeAgree.j0 k t131 (wrap64 (Int.tdiv bt132.2 2)) (wrap64 (t135 - 524288)) (wrap64 (t136 - 524288)) (wrap64 (bt137.1 + t141)) (wrap64 (bt139.1 + t142)) true a6_0 a6_1 a6_2 a6_3 bt132.1 bt132.2)))))))))) = some r := h
  clear h
  replace H := Option.bind_eq_some_iff.mp H
  obtain ⟨t131, A80, H⟩ := H
  replace H : ((omnibuslaw11_Lattice.f a0 a1).bind fun bt132 => ((omnibuslaw11_pick.f a2 1048576).bind fun t135 => ((omnibuslaw11_pick.f a3 1048576).bind fun t136 => ((lattice_Begin.f bt132.1 bt132.2 (wrap64 (t135 - 524288))).bind fun bt137 => ((lattice_Begin.f bt132.1 bt132.2 (wrap64 (t136 - 524288))).bind fun bt139 => ((omnibuslaw11_pick.f a4 bt132.1).bind fun t141 => ((omnibuslaw11_pick.f a5 bt132.1).bind fun t142 => (if bt137.2 = 0 then (if bt139.2 = 0 then ((lattice_Active.f bt132.1 bt132.2 (wrap64 (bt137.1 + t141))).bind fun t143 => (if t143 = true then ((lattice_Active.f bt132.1 bt132.2 (wrap64 (bt139.1 + t142))).bind fun t144 => (omnibuslaw11_LatticeAgree.j0 k t131 (wrap64 (Int.tdiv bt132.2 2)) (wrap64 (t135 - 524288)) (wrap64 (t136 - 524288)) (wrap64 (bt137.1 + t141)) (wrap64 (bt139.1 + t142)) (!t144) a6_0 a6_1 a6_2 a6_3 bt132.1 bt132.2)) else (omnibuslaw11_LatticeAgree.j0 k t131 (wrap64 (Int.tdiv bt132.2 2)) (wrap64 (t135 - 524288)) (wrap64 (t136 - 524288)) (wrap64 (bt137.1 + t141)) (wrap64 (bt139.1 + t142)) true a6_0 a6_1 a6_2 a6_3 bt132.1 bt132.2))) else (omnibuslaw11_LatticeAgree.j0 k t131 (wrap64 (Int.tdiv bt132.2 2)) (wrap64 (t135 - 524288)) (wrap64 (t136 - 524288)) (wrap64 (bt137.1 + t141)) (wrap64 (bt139.1 + t142)) true a6_0 a6_1 a6_2 a6_3 bt132.1 bt132.2)) else (omnibuslaw11_LatticeAgree.j0 k t131 (wrap64 (Int.tdiv bt132.2 2)) (wrap64 (t135 - 524288)) (wrap64 (t136 - 524288)) (wrap64 (bt137.1 + t141)) (wrap64 (bt139.1 + t142)) true a6_0 a6_1 a6_2 a6_3 bt132.1 bt132.2))))))))) = some r := H
  have A8 := Aside0.mk A80
  clear A80
  replace H := Option.bind_eq_some_iff.mp H
  obtain ⟨⟨t132, t133⟩, A90, H⟩ := H
  replace H : ((omnibuslaw11_pick.f a2 1048576).bind fun t135 => ((omnibuslaw11_pick.f a3 1048576).bind fun t136 => ((lattice_Begin.f t132 t133 (wrap64 (t135 - 524288))).bind fun bt137 => ((lattice_Begin.f t132 t133 (wrap64 (t136 - 524288))).bind fun bt139 => ((omnibuslaw11_pick.f a4 t132).bind fun t141 => ((omnibuslaw11_pick.f a5 t132).bind fun t142 => (if bt137.2 = 0 then (if bt139.2 = 0 then ((lattice_Active.f t132 t133 (wrap64 (bt137.1 + t141))).bind fun t143 => (if t143 = true then ((lattice_Active.f t132 t133 (wrap64 (bt139.1 + t142))).bind fun t144 => (omnibuslaw11_LatticeAgree.j0 k t131 (wrap64 (Int.tdiv t133 2)) (wrap64 (t135 - 524288)) (wrap64 (t136 - 524288)) (wrap64 (bt137.1 + t141)) (wrap64 (bt139.1 + t142)) (!t144) a6_0 a6_1 a6_2 a6_3 t132 t133)) else (omnibuslaw11_LatticeAgree.j0 k t131 (wrap64 (Int.tdiv t133 2)) (wrap64 (t135 - 524288)) (wrap64 (t136 - 524288)) (wrap64 (bt137.1 + t141)) (wrap64 (bt139.1 + t142)) true a6_0 a6_1 a6_2 a6_3 t132 t133))) else (omnibuslaw11_LatticeAgree.j0 k t131 (wrap64 (Int.tdiv t133 2)) (wrap64 (t135 - 524288)) (wrap64 (t136 - 524288)) (wrap64 (bt137.1 + t141)) (wrap64 (bt139.1 + t142)) true a6_0 a6_1 a6_2 a6_3 t132 t133)) else (omnibuslaw11_LatticeAgree.j0 k t131 (wrap64 (Int.tdiv t133 2)) (wrap64 (t135 - 524288)) (wrap64 (t136 - 524288)) (wrap64 (bt137.1 + t141)) (wrap64 (bt139.1 + t142)) true a6_0 a6_1 a6_2 a6_3 t132 t133)))))))) = some r := H
  have A9 := Aside0.mk A90
  clear A90
  replace H := Option.bind_eq_some_iff.mp H
  obtain ⟨t135, A100, H⟩ := H
  replace H : ((omnibuslaw11_pick.f a3 1048576).bind fun t136 => ((lattice_Begin.f t132 t133 (wrap64 (t135 - 524288))).bind fun bt137 => ((lattice_Begin.f t132 t133 (wrap64 (t136 - 524288))).bind fun bt139 => ((omnibuslaw11_pick.f a4 t132).bind fun t141 => ((omnibuslaw11_pick.f a5 t132).bind fun t142 => (if bt137.2 = 0 then (if bt139.2 = 0 then ((lattice_Active.f t132 t133 (wrap64 (bt137.1 + t141))).bind fun t143 => (if t143 = true then ((lattice_Active.f t132 t133 (wrap64 (bt139.1 + t142))).bind fun t144 => (omnibuslaw11_LatticeAgree.j0 k t131 (wrap64 (Int.tdiv t133 2)) (wrap64 (t135 - 524288)) (wrap64 (t136 - 524288)) (wrap64 (bt137.1 + t141)) (wrap64 (bt139.1 + t142)) (!t144) a6_0 a6_1 a6_2 a6_3 t132 t133)) else (omnibuslaw11_LatticeAgree.j0 k t131 (wrap64 (Int.tdiv t133 2)) (wrap64 (t135 - 524288)) (wrap64 (t136 - 524288)) (wrap64 (bt137.1 + t141)) (wrap64 (bt139.1 + t142)) true a6_0 a6_1 a6_2 a6_3 t132 t133))) else (omnibuslaw11_LatticeAgree.j0 k t131 (wrap64 (Int.tdiv t133 2)) (wrap64 (t135 - 524288)) (wrap64 (t136 - 524288)) (wrap64 (bt137.1 + t141)) (wrap64 (bt139.1 + t142)) true a6_0 a6_1 a6_2 a6_3 t132 t133)) else (omnibuslaw11_LatticeAgree.j0 k t131 (wrap64 (Int.tdiv t133 2)) (wrap64 (t135 - 524288)) (wrap64 (t136 - 524288)) (wrap64 (bt137.1 + t141)) (wrap64 (bt139.1 + t142)) true a6_0 a6_1 a6_2 a6_3 t132 t133))))))) = some r := H
  have A10 := Aside0.mk A100
  clear A100
  replace H := Option.bind_eq_some_iff.mp H
  obtain ⟨t136, A110, H⟩ := H
  replace H : ((lattice_Begin.f t132 t133 (wrap64 (t135 - 524288))).bind fun bt137 => ((lattice_Begin.f t132 t133 (wrap64 (t136 - 524288))).bind fun bt139 => ((omnibuslaw11_pick.f a4 t132).bind fun t141 => ((omnibuslaw11_pick.f a5 t132).bind fun t142 => (if bt137.2 = 0 then (if bt139.2 = 0 then ((lattice_Active.f t132 t133 (wrap64 (bt137.1 + t141))).bind fun t143 => (if t143 = true then ((lattice_Active.f t132 t133 (wrap64 (bt139.1 + t142))).bind fun t144 => (omnibuslaw11_LatticeAgree.j0 k t131 (wrap64 (Int.tdiv t133 2)) (wrap64 (t135 - 524288)) (wrap64 (t136 - 524288)) (wrap64 (bt137.1 + t141)) (wrap64 (bt139.1 + t142)) (!t144) a6_0 a6_1 a6_2 a6_3 t132 t133)) else (omnibuslaw11_LatticeAgree.j0 k t131 (wrap64 (Int.tdiv t133 2)) (wrap64 (t135 - 524288)) (wrap64 (t136 - 524288)) (wrap64 (bt137.1 + t141)) (wrap64 (bt139.1 + t142)) true a6_0 a6_1 a6_2 a6_3 t132 t133))) else (omnibuslaw11_LatticeAgree.j0 k t131 (wrap64 (Int.tdiv t133 2)) (wrap64 (t135 - 524288)) (wrap64 (t136 - 524288)) (wrap64 (bt137.1 + t141)) (wrap64 (bt139.1 + t142)) true a6_0 a6_1 a6_2 a6_3 t132 t133)) else (omnibuslaw11_LatticeAgree.j0 k t131 (wrap64 (Int.tdiv t133 2)) (wrap64 (t135 - 524288)) (wrap64 (t136 - 524288)) (wrap64 (bt137.1 + t141)) (wrap64 (bt139.1 + t142)) true a6_0 a6_1 a6_2 a6_3 t132 t133)))))) = some r := H
  have A11 := Aside0.mk A110
  clear A110
  replace H := Option.bind_eq_some_iff.mp H
  obtain ⟨⟨t137, t138⟩, A120, H⟩ := H
  replace H : ((lattice_Begin.f t132 t133 (wrap64 (t136 - 524288))).bind fun bt139 => ((omnibuslaw11_pick.f a4 t132).bind fun t141 => ((omnibuslaw11_pick.f a5 t132).bind fun t142 => (if t138 = 0 then (if bt139.2 = 0 then ((lattice_Active.f t132 t133 (wrap64 (t137 + t141))).bind fun t143 => (if t143 = true then ((lattice_Active.f t132 t133 (wrap64 (bt139.1 + t142))).bind fun t144 => (omnibuslaw11_LatticeAgree.j0 k t131 (wrap64 (Int.tdiv t133 2)) (wrap64 (t135 - 524288)) (wrap64 (t136 - 524288)) (wrap64 (t137 + t141)) (wrap64 (bt139.1 + t142)) (!t144) a6_0 a6_1 a6_2 a6_3 t132 t133)) else (omnibuslaw11_LatticeAgree.j0 k t131 (wrap64 (Int.tdiv t133 2)) (wrap64 (t135 - 524288)) (wrap64 (t136 - 524288)) (wrap64 (t137 + t141)) (wrap64 (bt139.1 + t142)) true a6_0 a6_1 a6_2 a6_3 t132 t133))) else (omnibuslaw11_LatticeAgree.j0 k t131 (wrap64 (Int.tdiv t133 2)) (wrap64 (t135 - 524288)) (wrap64 (t136 - 524288)) (wrap64 (t137 + t141)) (wrap64 (bt139.1 + t142)) true a6_0 a6_1 a6_2 a6_3 t132 t133)) else (omnibuslaw11_LatticeAgree.j0 k t131 (wrap64 (Int.tdiv t133 2)) (wrap64 (t135 - 524288)) (wrap64 (t136 - 524288)) (wrap64 (t137 + t141)) (wrap64 (bt139.1 + t142)) true a6_0 a6_1 a6_2 a6_3 t132 t133))))) = some r := H
  have A12 := Aside0.mk A120
  clear A120
  replace H := Option.bind_eq_some_iff.mp H
  obtain ⟨⟨t139, t140⟩, A130, H⟩ := H
  replace H : ((omnibuslaw11_pick.f a4 t132).bind fun t141 => ((omnibuslaw11_pick.f a5 t132).bind fun t142 => (if t138 = 0 then (if t140 = 0 then ((lattice_Active.f t132 t133 (wrap64 (t137 + t141))).bind fun t143 => (if t143 = true then ((lattice_Active.f t132 t133 (wrap64 (t139 + t142))).bind fun t144 => (omnibuslaw11_LatticeAgree.j0 k t131 (wrap64 (Int.tdiv t133 2)) (wrap64 (t135 - 524288)) (wrap64 (t136 - 524288)) (wrap64 (t137 + t141)) (wrap64 (t139 + t142)) (!t144) a6_0 a6_1 a6_2 a6_3 t132 t133)) else (omnibuslaw11_LatticeAgree.j0 k t131 (wrap64 (Int.tdiv t133 2)) (wrap64 (t135 - 524288)) (wrap64 (t136 - 524288)) (wrap64 (t137 + t141)) (wrap64 (t139 + t142)) true a6_0 a6_1 a6_2 a6_3 t132 t133))) else (omnibuslaw11_LatticeAgree.j0 k t131 (wrap64 (Int.tdiv t133 2)) (wrap64 (t135 - 524288)) (wrap64 (t136 - 524288)) (wrap64 (t137 + t141)) (wrap64 (t139 + t142)) true a6_0 a6_1 a6_2 a6_3 t132 t133)) else (omnibuslaw11_LatticeAgree.j0 k t131 (wrap64 (Int.tdiv t133 2)) (wrap64 (t135 - 524288)) (wrap64 (t136 - 524288)) (wrap64 (t137 + t141)) (wrap64 (t139 + t142)) true a6_0 a6_1 a6_2 a6_3 t132 t133)))) = some r := H
  have A13 := Aside0.mk A130
  clear A130
  replace H := Option.bind_eq_some_iff.mp H
  obtain ⟨t141, A140, H⟩ := H
  replace H : ((omnibuslaw11_pick.f a5 t132).bind fun t142 => (if t138 = 0 then (if t140 = 0 then ((lattice_Active.f t132 t133 (wrap64 (t137 + t141))).bind fun t143 => (if t143 = true then ((lattice_Active.f t132 t133 (wrap64 (t139 + t142))).bind fun t144 => (omnibuslaw11_LatticeAgree.j0 k t131 (wrap64 (Int.tdiv t133 2)) (wrap64 (t135 - 524288)) (wrap64 (t136 - 524288)) (wrap64 (t137 + t141)) (wrap64 (t139 + t142)) (!t144) a6_0 a6_1 a6_2 a6_3 t132 t133)) else (omnibuslaw11_LatticeAgree.j0 k t131 (wrap64 (Int.tdiv t133 2)) (wrap64 (t135 - 524288)) (wrap64 (t136 - 524288)) (wrap64 (t137 + t141)) (wrap64 (t139 + t142)) true a6_0 a6_1 a6_2 a6_3 t132 t133))) else (omnibuslaw11_LatticeAgree.j0 k t131 (wrap64 (Int.tdiv t133 2)) (wrap64 (t135 - 524288)) (wrap64 (t136 - 524288)) (wrap64 (t137 + t141)) (wrap64 (t139 + t142)) true a6_0 a6_1 a6_2 a6_3 t132 t133)) else (omnibuslaw11_LatticeAgree.j0 k t131 (wrap64 (Int.tdiv t133 2)) (wrap64 (t135 - 524288)) (wrap64 (t136 - 524288)) (wrap64 (t137 + t141)) (wrap64 (t139 + t142)) true a6_0 a6_1 a6_2 a6_3 t132 t133))) = some r := H
  have A14 := Aside0.mk A140
  clear A140
  replace H := Option.bind_eq_some_iff.mp H
  obtain ⟨t142, A150, H⟩ := H
  replace H : (if t138 = 0 then (if t140 = 0 then ((lattice_Active.f t132 t133 (wrap64 (t137 + t141))).bind fun t143 => (if t143 = true then ((lattice_Active.f t132 t133 (wrap64 (t139 + t142))).bind fun t144 => (omnibuslaw11_LatticeAgree.j0 k t131 (wrap64 (Int.tdiv t133 2)) (wrap64 (t135 - 524288)) (wrap64 (t136 - 524288)) (wrap64 (t137 + t141)) (wrap64 (t139 + t142)) (!t144) a6_0 a6_1 a6_2 a6_3 t132 t133)) else (omnibuslaw11_LatticeAgree.j0 k t131 (wrap64 (Int.tdiv t133 2)) (wrap64 (t135 - 524288)) (wrap64 (t136 - 524288)) (wrap64 (t137 + t141)) (wrap64 (t139 + t142)) true a6_0 a6_1 a6_2 a6_3 t132 t133))) else (omnibuslaw11_LatticeAgree.j0 k t131 (wrap64 (Int.tdiv t133 2)) (wrap64 (t135 - 524288)) (wrap64 (t136 - 524288)) (wrap64 (t137 + t141)) (wrap64 (t139 + t142)) true a6_0 a6_1 a6_2 a6_3 t132 t133)) else (omnibuslaw11_LatticeAgree.j0 k t131 (wrap64 (Int.tdiv t133 2)) (wrap64 (t135 - 524288)) (wrap64 (t136 - 524288)) (wrap64 (t137 + t141)) (wrap64 (t139 + t142)) true a6_0 a6_1 a6_2 a6_3 t132 t133)) = some r := H
  have A15 := Aside0.mk A150
  clear A150
  have HC16 := Aside0.mk H
  clear H
  go_enter Try.func4, Try.ntmps4
  go_upto_region 10 with (first | ((with_reducible refine gate_dst (N := 13) rfl ?_); refine box_event ?hg (N := 13) ?hd (cs := #[.int .i64 a6_0, .int .i64 a6_1, .int .i64 a6_2, .int .i64 a6_3]) (t := 37) ?hr ?_; (case hd => rfl); (case hg => rfl); (case hr => first | (go_simp; done) | (go_simp; rfl)); intro gb130 hg w17 hbox hb; have n0_ := Aside0.mk (below_step (by repeat (first | (with_reducible first | exact HB.out | apply below_alloc | apply pw_below_drewN | apply below_drew1) | exact HB.out)) hb); have n1_ := Aside0.mk (hbox); have n2_ := Aside0.mk ((by rw [hg]; exact (below_size (by repeat (first | (with_reducible first | exact HB.out | apply below_alloc | apply pw_below_drewN | apply below_drew1) | exact HB.out))) : w.heap.size ≤ gb130)); have n3_ := Aside0.mk ((by rw [hg]; exact (below_size (by repeat (first | (with_reducible first | exact HB.out | apply below_alloc | apply pw_below_drewN | apply below_drew1) | exact HB.out))) : w.heap.size ≤ gb130)); clear HB; have HB := n0_; have BK130 := n1_; have GW130 := n2_; have GE130 := n3_; clear n0_ n1_ n2_ n3_; clear hb hbox hg) | ((with_reducible refine gate_callee (f := 9) rfl ?_); refine goesL_ (some 33) rfl rfl Try.func9 (by kernel_rfl) rfl #[] rfl (by (try simp only [List.map_toArray, List.map_cons, List.map_nil]); first | done | rfl | (simp only [List.length_drop, List.length_take]; rfl)) ?_; (with_reducible refine (omnibuslaw11_awake.calls  t131 _ A8.out).mono ?_); rintro e w18 ⟨rfl, hb⟩; refine ⟨_, rfl, ?_⟩; have n0_ := Aside0.mk (blk_below (g := gb130) (o := .cells #[.int .i64 a6_0, .int .i64 a6_1, .int .i64 a6_2, .int .i64 a6_3] 37 (0, 0)) (by (with_reducible repeat (first | refine blk_drewN ?_ _ | refine blk_drew ?_ | refine blk_alloc ?_ _)); exact BK130.out) hb); have n1_ := Aside0.mk (below_step (by repeat (first | (with_reducible first | exact HB.out | apply below_alloc | apply pw_below_drewN | apply below_drew1 | refine below_set ?_ GE130.out) | exact HB.out)) hb); clear BK130; clear HB; have BK130 := n0_; have HB := n1_; clear n0_ n1_; (try clear hb); (try clear hb2); (try clear hk); (try clear hi)) | ((with_reducible refine gate_callee (f := 10) rfl ?_); refine goesL_ (some 36) rfl rfl Try.func10 (by kernel_rfl) rfl #[.int .i64 a0, .int .i64 a1] rfl (by (try simp only [List.map_toArray, List.map_cons, List.map_nil]); first | done | rfl | (simp only [List.length_drop, List.length_take]; rfl)) ?_; (with_reducible refine (omnibuslaw11_Lattice.calls a0 a1 t132 t133 _ A9.out).mono ?_); rintro e w19 ⟨rfl, hb⟩; refine ⟨_, rfl, ?_⟩; have n0_ := Aside0.mk (blk_below (g := gb130) (o := .cells #[.int .i64 a6_0, .int .i64 a6_1, .int .i64 a6_2, .int .i64 a6_3] 37 (0, 0)) (by (with_reducible repeat (first | refine blk_drewN ?_ _ | refine blk_drew ?_ | refine blk_alloc ?_ _)); exact BK130.out) hb); have n1_ := Aside0.mk (below_step (by repeat (first | (with_reducible first | exact HB.out | apply below_alloc | apply pw_below_drewN | apply below_drew1 | refine below_set ?_ GE130.out) | exact HB.out)) hb); clear BK130; clear HB; have BK130 := n0_; have HB := n1_; clear n0_ n1_; (try clear hb); (try clear hb2); (try clear hk); (try clear hi)) | ((with_reducible refine gate_dst (N := 16) rfl ?_); refine box_event ?hg (N := 16) ?hd (cs := #[.int .i64 0, .int .i64 0]) (t := 23) ?hr ?_; (case hd => rfl); (case hg => rfl); (case hr => first | (go_simp; done) | (go_simp; rfl)); intro gb134 hg w20 hbox hb; have n0_ := Aside0.mk (blk_below (g := gb130) (o := .cells #[.int .i64 a6_0, .int .i64 a6_1, .int .i64 a6_2, .int .i64 a6_3] 37 (0, 0)) (by (with_reducible repeat (first | refine blk_drewN ?_ _ | refine blk_drew ?_ | refine blk_alloc ?_ _)); exact BK130.out) hb); have n1_ := Aside0.mk (below_step (by repeat (first | (with_reducible first | exact HB.out | apply below_alloc | apply pw_below_drewN | apply below_drew1 | refine below_set ?_ GE130.out) | exact HB.out)) hb); have n2_ := Aside0.mk (hbox); have n3_ := Aside0.mk ((by rw [hg]; exact (below_size (by repeat (first | (with_reducible first | exact HB.out | apply below_alloc | apply pw_below_drewN | apply below_drew1 | refine below_set ?_ GE130.out) | exact HB.out))) : w.heap.size ≤ gb134)); have n4_ := Aside0.mk ((by rw [hg]; exact (below_size (by repeat (first | (with_reducible first | exact HB.out | apply below_alloc | apply pw_below_drewN | apply below_drew1 | refine below_set ?_ GE130.out) | exact HB.out))) : w.heap.size ≤ gb134)); have n5_ := Aside0.mk ((by rw [hg]; exact Nat.ne_of_lt (blk_lt (g := gb130) (o := .cells #[.int .i64 a6_0, .int .i64 a6_1, .int .i64 a6_2, .int .i64 a6_3] 37 (0, 0)) (by (with_reducible repeat (first | refine blk_drewN ?_ _ | refine blk_drew ?_ | refine blk_alloc ?_ _)); exact BK130.out)) : gb130 ≠ gb134)); have n6_ := Aside0.mk ((by rw [hg]; exact Nat.ne_of_gt (blk_lt (g := gb130) (o := .cells #[.int .i64 a6_0, .int .i64 a6_1, .int .i64 a6_2, .int .i64 a6_3] 37 (0, 0)) (by (with_reducible repeat (first | refine blk_drewN ?_ _ | refine blk_drew ?_ | refine blk_alloc ?_ _)); exact BK130.out)) : gb134 ≠ gb130)); clear BK130; clear HB; have BK130 := n0_; have HB := n1_; have BK134 := n2_; have GW134 := n3_; have GE134 := n4_; have NB130_134 := n5_; have NB134_130 := n6_; clear n0_ n1_ n2_ n3_ n4_ n5_ n6_; clear hb hbox hg; have hnb21 := NB134_130.out; have hnc21 := NB130_134.out; have hcz22_0 : w20.cell? ⟨gb134, 0, none⟩ = some (.int .i64 0) := (blk_cell BK134.out 0).trans rfl; have hcz22_1 : w20.cell? ⟨gb134, 1, none⟩ = some (.int .i64 0) := (blk_cell BK134.out 1).trans rfl; have hfz22_0 := blk_frozen BK134.out 0; have hfz22_1 := blk_frozen BK134.out 1) | ((with_reducible refine gate_callee (f := 11) rfl ?_); refine goesL_ (some 41) rfl rfl Try.func11 (by kernel_rfl) rfl #[.int .i64 a2, .int .i64 1048576] rfl (by (try simp only [List.map_toArray, List.map_cons, List.map_nil]); first | done | rfl | (simp only [List.length_drop, List.length_take]; rfl)) ?_; (with_reducible refine (omnibuslaw11_pick.calls a2 1048576 t135 _ A10.out).mono ?_); rintro e w' ⟨rfl, ⟨nd, rfl⟩⟩; refine ⟨_, rfl, ?_⟩) | ((with_reducible refine gate_callee (f := 11) rfl ?_); refine goesL_ (some 44) rfl rfl Try.func11 (by kernel_rfl) rfl #[.int .i64 a3, .int .i64 1048576] rfl (by (try simp only [List.map_toArray, List.map_cons, List.map_nil]); first | done | rfl | (simp only [List.length_drop, List.length_take]; rfl)) ?_; (with_reducible refine (omnibuslaw11_pick.calls a3 1048576 t136 _ A11.out).mono ?_); rintro e w' ⟨rfl, ⟨nd, rfl⟩⟩; refine ⟨_, rfl, ?_⟩) | ((with_reducible refine gate_callee (f := 22) rfl ?_); refine goesL_ (some 49) rfl rfl Try.func22 (by kernel_rfl) rfl #[.agg #[.int .i64 t132, .int .i64 t133], .int .i64 (wrap64 (t135 - 524288))] rfl (by (try simp only [List.map_toArray, List.map_cons, List.map_nil]); first | done | rfl | (simp only [List.length_drop, List.length_take]; rfl)) ?_; (with_reducible refine (lattice_Begin.calls t132 t133 (wrap64 (t135 - 524288)) t137 t138 _ A12.out).mono ?_); rintro e w23 ⟨rfl, hb⟩; refine ⟨_, rfl, ?_⟩; have n0_ := Aside0.mk (blk_below (g := gb130) (o := .cells #[.int .i64 a6_0, .int .i64 a6_1, .int .i64 a6_2, .int .i64 a6_3] 37 (0, 0)) (by (with_reducible repeat (first | refine blk_drewN ?_ _ | refine blk_drew ?_ | refine blk_alloc ?_ _)); refine blk_far ?_ NB130_134.out _; (with_reducible repeat (first | refine blk_drewN ?_ _ | refine blk_drew ?_ | refine blk_alloc ?_ _)); refine blk_far ?_ NB130_134.out _; (with_reducible repeat (first | refine blk_drewN ?_ _ | refine blk_drew ?_ | refine blk_alloc ?_ _)); exact BK130.out) hb); have n1_ := Aside0.mk (blk_below (g := gb134) (o := .cells #[.int .i64 t132, .int .i64 t133] 23 (0, 0)) (by (with_reducible repeat (first | refine blk_drewN ?_ _ | refine blk_drew ?_ | refine blk_alloc ?_ _)); refine blk_put (cs := #[.int .i64 t132, .int .i64 0]) ?_ 1 _ rfl; (with_reducible repeat (first | refine blk_drewN ?_ _ | refine blk_drew ?_ | refine blk_alloc ?_ _)); refine blk_put (cs := #[.int .i64 0, .int .i64 0]) ?_ 0 _ rfl; (with_reducible repeat (first | refine blk_drewN ?_ _ | refine blk_drew ?_ | refine blk_alloc ?_ _)); exact BK134.out) hb); have n2_ := Aside0.mk (below_step (by repeat (first | (with_reducible first | exact HB.out | apply below_alloc | apply pw_below_drewN | apply below_drew1 | refine below_set ?_ GE130.out | refine below_set ?_ GE134.out) | exact HB.out)) hb); clear BK130; clear BK134; clear HB; have BK130 := n0_; have BK134 := n1_; have HB := n2_; clear n0_ n1_ n2_; (try clear hb); (try clear hb2); (try clear hk); (try clear hi); have hcz24_0 : w23.cell? ⟨gb134, 0, none⟩ = some (.int .i64 t132) := (blk_cell BK134.out 0).trans rfl; have hcz24_1 : w23.cell? ⟨gb134, 1, none⟩ = some (.int .i64 t133) := (blk_cell BK134.out 1).trans rfl; have hfz24_0 := blk_frozen BK134.out 0; have hfz24_1 := blk_frozen BK134.out 1) | ((with_reducible refine gate_callee (f := 22) rfl ?_); refine goesL_ (some 55) rfl rfl Try.func22 (by kernel_rfl) rfl #[.agg #[.int .i64 t132, .int .i64 t133], .int .i64 (wrap64 (t136 - 524288))] rfl (by (try simp only [List.map_toArray, List.map_cons, List.map_nil]); first | done | rfl | (simp only [List.length_drop, List.length_take]; rfl)) ?_; (with_reducible refine (lattice_Begin.calls t132 t133 (wrap64 (t136 - 524288)) t139 t140 _ A13.out).mono ?_); rintro e w25 ⟨rfl, hb⟩; refine ⟨_, rfl, ?_⟩; have n0_ := Aside0.mk (blk_below (g := gb130) (o := .cells #[.int .i64 a6_0, .int .i64 a6_1, .int .i64 a6_2, .int .i64 a6_3] 37 (0, 0)) (by (with_reducible repeat (first | refine blk_drewN ?_ _ | refine blk_drew ?_ | refine blk_alloc ?_ _)); exact BK130.out) hb); have n1_ := Aside0.mk (blk_below (g := gb134) (o := .cells #[.int .i64 t132, .int .i64 t133] 23 (0, 0)) (by (with_reducible repeat (first | refine blk_drewN ?_ _ | refine blk_drew ?_ | refine blk_alloc ?_ _)); exact BK134.out) hb); have n2_ := Aside0.mk (below_step (by repeat (first | (with_reducible first | exact HB.out | apply below_alloc | apply pw_below_drewN | apply below_drew1 | refine below_set ?_ GE130.out | refine below_set ?_ GE134.out) | exact HB.out)) hb); clear BK130; clear BK134; clear HB; have BK130 := n0_; have BK134 := n1_; have HB := n2_; clear n0_ n1_ n2_; (try clear hb); (try clear hb2); (try clear hk); (try clear hi); have hcz26_0 : w25.cell? ⟨gb134, 0, none⟩ = some (.int .i64 t132) := (blk_cell BK134.out 0).trans rfl; have hcz26_1 : w25.cell? ⟨gb134, 1, none⟩ = some (.int .i64 t133) := (blk_cell BK134.out 1).trans rfl; have hfz26_0 := blk_frozen BK134.out 0; have hfz26_1 := blk_frozen BK134.out 1) | ((with_reducible refine gate_callee (f := 11) rfl ?_); refine goesL_ (some 62) rfl rfl Try.func11 (by kernel_rfl) rfl #[.int .i64 a4, .int .i64 t132] rfl (by (try simp only [List.map_toArray, List.map_cons, List.map_nil]); first | done | rfl | (simp only [List.length_drop, List.length_take]; rfl)) ?_; (with_reducible refine (omnibuslaw11_pick.calls a4 t132 t141 _ A14.out).mono ?_); rintro e w' ⟨rfl, ⟨nd, rfl⟩⟩; refine ⟨_, rfl, ?_⟩) | ((with_reducible refine gate_callee (f := 11) rfl ?_); refine goesL_ (some 68) rfl rfl Try.func11 (by kernel_rfl) rfl #[.int .i64 a5, .int .i64 t132] rfl (by (try simp only [List.map_toArray, List.map_cons, List.map_nil]); first | done | rfl | (simp only [List.length_drop, List.length_take]; rfl)) ?_; (with_reducible refine (omnibuslaw11_pick.calls a5 t132 t142 _ A15.out).mono ?_); rintro e w' ⟨rfl, ⟨nd, rfl⟩⟩; refine ⟨_, rfl, ?_⟩))
  (try simp only [Act.put, List.setIfInBounds_toArray, List.set_cons_zero, List.set_cons_succ])
  go_cut [87] (fun v87 wc => ∃ (kq : Nat) (x87_15 : Bool), v87 = .bool x87_15 ∧ Aside0 (omnibuslaw11_LatticeAgree.j0 kq t131 (wrap64 (Int.tdiv t133 2)) (wrap64 (t135 - 524288)) (wrap64 (t136 - 524288)) (wrap64 (t137 + t141)) (wrap64 (t139 + t142)) x87_15 a6_0 a6_1 a6_2 a6_3 t132 t133 = some r) ∧ Aside0 (kq ≤ k) ∧ Aside0 (wc.heap[gb130]? = some (.cells #[.int .i64 a6_0, .int .i64 a6_1, .int .i64 a6_2, .int .i64 a6_3] 37 (0, 0))) ∧ Aside0 (wc.heap[gb134]? = some (.cells #[.int .i64 t132, .int .i64 t133] 23 (0, 0))) ∧ Aside0 (Below w.heap.size w wc))
  case first =>
    have H := HC16.out
    clear HC16
    by_cases c27 : t138 = 0
    · rw [if_pos c27] at H
      have c27b0 : (t138 == 0) = true := beq_iff_eq.mpr c27
      have c27b1 : (t138 != 0) = false := bne_eq_false_iff_eq.mpr c27
      clear c27
      (first | rw [c27b0] | (simp only [i64_w, i32_w]; rw [c27b0]) | skip)
      by_cases c28 : t140 = 0
      · rw [if_pos c28] at H
        have c28b0 : (t140 == 0) = true := beq_iff_eq.mpr c28
        have c28b1 : (t140 != 0) = false := bne_eq_false_iff_eq.mpr c28
        clear c28
        replace H := Option.bind_eq_some_iff.mp H
        obtain ⟨t143, A290, H⟩ := H
        replace H : (if t143 = true then ((lattice_Active.f t132 t133 (wrap64 (t139 + t142))).bind fun t144 => (omnibuslaw11_LatticeAgree.j0 k t131 (wrap64 (Int.tdiv t133 2)) (wrap64 (t135 - 524288)) (wrap64 (t136 - 524288)) (wrap64 (t137 + t141)) (wrap64 (t139 + t142)) (!t144) a6_0 a6_1 a6_2 a6_3 t132 t133)) else (omnibuslaw11_LatticeAgree.j0 k t131 (wrap64 (Int.tdiv t133 2)) (wrap64 (t135 - 524288)) (wrap64 (t136 - 524288)) (wrap64 (t137 + t141)) (wrap64 (t139 + t142)) true a6_0 a6_1 a6_2 a6_3 t132 t133)) = some r := H
        have A29 := Aside0.mk A290
        clear A290
        by_cases c30 : t143 = true
        · subst c30
          have H1 : ((lattice_Active.f t132 t133 (wrap64 (t139 + t142))).bind fun t144 => (omnibuslaw11_LatticeAgree.j0 k t131 (wrap64 (Int.tdiv t133 2)) (wrap64 (t135 - 524288)) (wrap64 (t136 - 524288)) (wrap64 (t137 + t141)) (wrap64 (t139 + t142)) (!t144) a6_0 a6_1 a6_2 a6_3 t132 t133)) = some r := by rw [if_pos rfl] at H; exact H
          clear H
          have H := H1
          clear H1
          replace H := Option.bind_eq_some_iff.mp H
          obtain ⟨t144, A310, H⟩ := H
          replace H : (omnibuslaw11_LatticeAgree.j0 k t131 (wrap64 (Int.tdiv t133 2)) (wrap64 (t135 - 524288)) (wrap64 (t136 - 524288)) (wrap64 (t137 + t141)) (wrap64 (t139 + t142)) (!t144) a6_0 a6_1 a6_2 a6_3 t132 t133) = some r := H
          have A31 := Aside0.mk A310
          clear A310
          have H' := Aside0.mk H
          clear H
          have hnb32 := NB134_130.out
          have hnc32 := NB130_134.out
          have hcz33_0 : w25.cell? ⟨gb134, 0, none⟩ = some (.int .i64 t132) := (blk_cell BK134.out 0).trans rfl
          have hcz33_1 : w25.cell? ⟨gb134, 1, none⟩ = some (.int .i64 t133) := (blk_cell BK134.out 1).trans rfl
          have hfz33_0 := blk_frozen BK134.out 0
          have hfz33_1 := blk_frozen BK134.out 1
          go_wp2_with (first | (go_at_call 24; (with_reducible refine (lattice_Active.calls t132 t133 (wrap64 (t137 + t141)) true _ A29.out).mono ?_); rintro e w34 ⟨rfl, hb⟩; have n0_ := Aside0.mk (blk_below (g := gb130) (o := .cells #[.int .i64 a6_0, .int .i64 a6_1, .int .i64 a6_2, .int .i64 a6_3] 37 (0, 0)) (by (with_reducible repeat (first | refine blk_drewN ?_ _ | refine blk_drew ?_ | refine blk_alloc ?_ _)); exact BK130.out) hb); have n1_ := Aside0.mk (blk_below (g := gb134) (o := .cells #[.int .i64 t132, .int .i64 t133] 23 (0, 0)) (by (with_reducible repeat (first | refine blk_drewN ?_ _ | refine blk_drew ?_ | refine blk_alloc ?_ _)); exact BK134.out) hb); have n2_ := Aside0.mk (below_step (by repeat (first | (with_reducible first | exact HB.out | apply below_alloc | apply pw_below_drewN | apply below_drew1 | refine below_set ?_ GE130.out | refine below_set ?_ GE134.out) | exact HB.out)) hb); clear BK130; clear BK134; clear HB; have BK130 := n0_; have BK134 := n1_; have HB := n2_; clear n0_ n1_ n2_; (try clear hb); (try clear hb2); (try clear hk); (try clear hi); have hcz35_0 : w34.cell? ⟨gb134, 0, none⟩ = some (.int .i64 t132) := (blk_cell BK134.out 0).trans rfl; have hcz35_1 : w34.cell? ⟨gb134, 1, none⟩ = some (.int .i64 t133) := (blk_cell BK134.out 1).trans rfl; have hfz35_0 := blk_frozen BK134.out 0; have hfz35_1 := blk_frozen BK134.out 1) | (go_at_call 24; (with_reducible refine (lattice_Active.calls t132 t133 (wrap64 (t139 + t142)) t144 _ A31.out).mono ?_); rintro e w36 ⟨rfl, hb⟩; have n0_ := Aside0.mk (blk_below (g := gb130) (o := .cells #[.int .i64 a6_0, .int .i64 a6_1, .int .i64 a6_2, .int .i64 a6_3] 37 (0, 0)) (by (with_reducible repeat (first | refine blk_drewN ?_ _ | refine blk_drew ?_ | refine blk_alloc ?_ _)); exact BK130.out) hb); have n1_ := Aside0.mk (blk_below (g := gb134) (o := .cells #[.int .i64 t132, .int .i64 t133] 23 (0, 0)) (by (with_reducible repeat (first | refine blk_drewN ?_ _ | refine blk_drew ?_ | refine blk_alloc ?_ _)); exact BK134.out) hb); have n2_ := Aside0.mk (below_step (by repeat (first | (with_reducible first | exact HB.out | apply below_alloc | apply pw_below_drewN | apply below_drew1 | refine below_set ?_ GE130.out | refine below_set ?_ GE134.out) | exact HB.out)) hb); clear BK130; clear BK134; clear HB; have BK130 := n0_; have BK134 := n1_; have HB := n2_; clear n0_ n1_ n2_; (try clear hb); (try clear hb2); (try clear hk); (try clear hi)))
          go_meet
          case rel => exact ⟨_, (!t144), (by first | rfl | (simp; done) | (simp [*]; done)), H', ⟨by first | omega | exact Nat.le_refl _⟩, ⟨by (with_reducible repeat (first | refine blk_drewN ?_ _ | refine blk_drew ?_ | refine blk_alloc ?_ _)); exact BK130.out⟩, ⟨by (with_reducible repeat (first | refine blk_drewN ?_ _ | refine blk_drew ?_ | refine blk_alloc ?_ _)); exact BK134.out⟩, ⟨by repeat (first | (with_reducible first | exact HB.out | apply below_alloc | apply pw_below_drewN | apply below_drew1 | refine below_set ?_ GE130.out | refine below_set ?_ GE134.out) | exact HB.out)⟩⟩
        · replace c30 := Bool.eq_false_iff.mpr c30
          subst c30
          have H1 : (omnibuslaw11_LatticeAgree.j0 k t131 (wrap64 (Int.tdiv t133 2)) (wrap64 (t135 - 524288)) (wrap64 (t136 - 524288)) (wrap64 (t137 + t141)) (wrap64 (t139 + t142)) true a6_0 a6_1 a6_2 a6_3 t132 t133) = some r := by rw [if_neg (show ¬ (false = true) by decide)] at H; exact H
          clear H
          have H := H1
          clear H1
          have H' := Aside0.mk H
          clear H
          have hnb37 := NB134_130.out
          have hnc37 := NB130_134.out
          have hcz38_0 : w25.cell? ⟨gb134, 0, none⟩ = some (.int .i64 t132) := (blk_cell BK134.out 0).trans rfl
          have hcz38_1 : w25.cell? ⟨gb134, 1, none⟩ = some (.int .i64 t133) := (blk_cell BK134.out 1).trans rfl
          have hfz38_0 := blk_frozen BK134.out 0
          have hfz38_1 := blk_frozen BK134.out 1
          go_wp2_with (first | (go_at_call 24; (with_reducible refine (lattice_Active.calls t132 t133 (wrap64 (t137 + t141)) false _ A29.out).mono ?_); rintro e w39 ⟨rfl, hb⟩; have n0_ := Aside0.mk (blk_below (g := gb130) (o := .cells #[.int .i64 a6_0, .int .i64 a6_1, .int .i64 a6_2, .int .i64 a6_3] 37 (0, 0)) (by (with_reducible repeat (first | refine blk_drewN ?_ _ | refine blk_drew ?_ | refine blk_alloc ?_ _)); exact BK130.out) hb); have n1_ := Aside0.mk (blk_below (g := gb134) (o := .cells #[.int .i64 t132, .int .i64 t133] 23 (0, 0)) (by (with_reducible repeat (first | refine blk_drewN ?_ _ | refine blk_drew ?_ | refine blk_alloc ?_ _)); exact BK134.out) hb); have n2_ := Aside0.mk (below_step (by repeat (first | (with_reducible first | exact HB.out | apply below_alloc | apply pw_below_drewN | apply below_drew1 | refine below_set ?_ GE130.out | refine below_set ?_ GE134.out) | exact HB.out)) hb); clear BK130; clear BK134; clear HB; have BK130 := n0_; have BK134 := n1_; have HB := n2_; clear n0_ n1_ n2_; (try clear hb); (try clear hb2); (try clear hk); (try clear hi)))
          go_meet
          case rel => exact ⟨_, (true), (by first | rfl | (simp; done) | (simp [*]; done)), H', ⟨by first | omega | exact Nat.le_refl _⟩, ⟨by (with_reducible repeat (first | refine blk_drewN ?_ _ | refine blk_drew ?_ | refine blk_alloc ?_ _)); exact BK130.out⟩, ⟨by (with_reducible repeat (first | refine blk_drewN ?_ _ | refine blk_drew ?_ | refine blk_alloc ?_ _)); exact BK134.out⟩, ⟨by repeat (first | (with_reducible first | exact HB.out | apply below_alloc | apply pw_below_drewN | apply below_drew1 | refine below_set ?_ GE130.out | refine below_set ?_ GE134.out) | exact HB.out)⟩⟩
      · rw [if_neg c28] at H
        have c28b0 : (t140 == 0) = false := beq_eq_false_iff_ne.mpr c28
        have c28b1 : (t140 != 0) = true := bne_iff_ne.mpr c28
        have H' := Aside0.mk H
        clear H
        go_wp2
        go_meet
        case rel => exact ⟨_, (true), (by first | rfl | (simp; done) | (simp [*]; done)), H', ⟨by first | omega | exact Nat.le_refl _⟩, ⟨by (with_reducible repeat (first | refine blk_drewN ?_ _ | refine blk_drew ?_ | refine blk_alloc ?_ _)); exact BK130.out⟩, ⟨by (with_reducible repeat (first | refine blk_drewN ?_ _ | refine blk_drew ?_ | refine blk_alloc ?_ _)); exact BK134.out⟩, ⟨by repeat (first | (with_reducible first | exact HB.out | apply below_alloc | apply pw_below_drewN | apply below_drew1 | refine below_set ?_ GE130.out | refine below_set ?_ GE134.out) | exact HB.out)⟩⟩
    · rw [if_neg c27] at H
      have c27b0 : (t138 == 0) = false := beq_eq_false_iff_ne.mpr c27
      have c27b1 : (t138 != 0) = true := bne_iff_ne.mpr c27
      (first | rw [c27b0] | (simp only [i64_w, i32_w]; rw [c27b0]) | skip)
      have H' := Aside0.mk H
      clear H
      go_wp2
      go_meet
      case rel => exact ⟨_, (true), (by first | rfl | (simp; done) | (simp [*]; done)), H', ⟨by first | omega | exact Nat.le_refl _⟩, ⟨by (with_reducible repeat (first | refine blk_drewN ?_ _ | refine blk_drew ?_ | refine blk_alloc ?_ _)); exact BK130.out⟩, ⟨by (with_reducible repeat (first | refine blk_drewN ?_ _ | refine blk_drew ?_ | refine blk_alloc ?_ _)); exact BK134.out⟩, ⟨by repeat (first | (with_reducible first | exact HB.out | apply below_alloc | apply pw_below_drewN | apply below_drew1 | refine below_set ?_ GE130.out | refine below_set ?_ GE134.out) | exact HB.out)⟩⟩
  case rest =>
    clear HC16
    try clear c1
    try clear c2
    try clear p2
    try clear c3
    try clear c4
    try clear p6
    try clear c9
    try clear c10
    try clear c11
    try clear c21
    try clear c22
    try clear c27
    try clear c27b0
    try clear c27b1
    try clear c28
    try clear c28b0
    try clear c28b1
    try clear c30
    try clear c32
    try clear c37
    try clear hcz22_0
    try clear hcz22_1
    try clear hcz24_0
    try clear hcz24_1
    try clear hcz26_0
    try clear hcz26_1
    try clear hcz33_0
    try clear hcz33_1
    try clear hcz35_0
    try clear hcz35_1
    try clear hcz38_0
    try clear hcz38_1
    try clear hfz22_0
    try clear hfz22_1
    try clear hfz24_0
    try clear hfz24_1
    try clear hfz26_0
    try clear hfz26_1
    try clear hfz33_0
    try clear hfz33_1
    try clear hfz35_0
    try clear hfz35_1
    try clear hfz38_0
    try clear hfz38_1
    obtain ⟨kq, x87_15, rfl, HA, HJ15, BK130, BK134, HB⟩ := hcut
    cases kq with
    | zero => exact absurd HA.out (by simp [omnibuslaw11_LatticeAgree.j0])
    | succ kj15 =>
      have H := HA.out
      clear HA
      simp only [omnibuslaw11_LatticeAgree.j0] at H
      by_cases c40 : x87_15 = true
      · subst c40
        have H1 : (some false) = some r := by rw [if_pos rfl] at H; exact H
        clear H
        have H := H1
        clear H1
        exact absurd (Option.some.inj H) (by rw [HT.out]; decide)
      · replace c40 := Bool.eq_false_iff.mpr c40
        subst c40
        have H1 : (if (wrap64 (t135 - 524288)) < (wrap64 (t136 - 524288)) then (omnibuslaw11_LatticeAgree.j1 kj15 t131 (wrap64 (Int.tdiv t133 2)) (wrap64 (t135 - 524288)) (wrap64 (t136 - 524288)) (wrap64 (t137 + t141)) (wrap64 (t139 + t142)) (-1) a6_0 a6_1 a6_2 a6_3 t132 t133) else (omnibuslaw11_LatticeAgree.j1 kj15 t131 (wrap64 (Int.tdiv t133 2)) (wrap64 (t135 - 524288)) (wrap64 (t136 - 524288)) (wrap64 (t137 + t141)) (wrap64 (t139 + t142)) 0 a6_0 a6_1 a6_2 a6_3 t132 t133)) = some r := by rw [if_neg (show ¬ (false = true) by decide)] at H; exact H
        clear H
        have H := H1
        clear H1
        have HC41 := Aside0.mk H
        clear H
        go_upto_if 90 with (fail)
        go_cut [26] (fun v26 wc => ∃ (kq : Nat) (x26_40 : Int), v26 = .int .i64 x26_40 ∧ Aside0 (omnibuslaw11_LatticeAgree.j1 kq t131 (wrap64 (Int.tdiv t133 2)) (wrap64 (t135 - 524288)) (wrap64 (t136 - 524288)) (wrap64 (t137 + t141)) (wrap64 (t139 + t142)) x26_40 a6_0 a6_1 a6_2 a6_3 t132 t133 = some r) ∧ Aside0 (kq ≤ kj15) ∧ Aside0 (wc.heap[gb130]? = some (.cells #[.int .i64 a6_0, .int .i64 a6_1, .int .i64 a6_2, .int .i64 a6_3] 37 (0, 0))) ∧ Aside0 (wc.heap[gb134]? = some (.cells #[.int .i64 t132, .int .i64 t133] 23 (0, 0))) ∧ Aside0 (Below w.heap.size w wc))
        case first =>
          have H := HC41.out
          clear HC41
          by_cases c42 : (wrap64 (t135 - 524288)) < (wrap64 (t136 - 524288))
          · rw [if_pos c42] at H
            have c42b0 : decide ((wrap64 (t135 - 524288)) < (wrap64 (t136 - 524288))) = true := decide_eq_true c42
            clear c42
            (first | rw [c42b0] | (simp only [i64_w, i32_w]; rw [c42b0]) | skip)
            have H' := Aside0.mk H
            clear H
            go_wp2
            go_meet
            case rel => exact ⟨_, ((-1)), (by first | rfl | (simp; done) | (simp [*]; done)), H', ⟨by have := HJ15.out; first | omega | exact Nat.le_refl _⟩, ⟨by (with_reducible repeat (first | refine blk_drewN ?_ _ | refine blk_drew ?_ | refine blk_alloc ?_ _)); exact BK130.out⟩, ⟨by (with_reducible repeat (first | refine blk_drewN ?_ _ | refine blk_drew ?_ | refine blk_alloc ?_ _)); exact BK134.out⟩, ⟨by repeat (first | (with_reducible first | exact HB.out | apply below_alloc | apply pw_below_drewN | apply below_drew1 | refine below_set ?_ GE130.out | refine below_set ?_ GE134.out) | exact HB.out)⟩⟩
          · rw [if_neg c42] at H
            have c42b0 : decide ((wrap64 (t135 - 524288)) < (wrap64 (t136 - 524288))) = false := decide_eq_false c42
            clear c42
            (first | rw [c42b0] | (simp only [i64_w, i32_w]; rw [c42b0]) | skip)
            have H' := Aside0.mk H
            clear H
            go_wp2
            go_meet
            case rel => exact ⟨_, (0), (by first | rfl | (simp; done) | (simp [*]; done)), H', ⟨by have := HJ15.out; first | omega | exact Nat.le_refl _⟩, ⟨by (with_reducible repeat (first | refine blk_drewN ?_ _ | refine blk_drew ?_ | refine blk_alloc ?_ _)); exact BK130.out⟩, ⟨by (with_reducible repeat (first | refine blk_drewN ?_ _ | refine blk_drew ?_ | refine blk_alloc ?_ _)); exact BK134.out⟩, ⟨by repeat (first | (with_reducible first | exact HB.out | apply below_alloc | apply pw_below_drewN | apply below_drew1 | refine below_set ?_ GE130.out | refine below_set ?_ GE134.out) | exact HB.out)⟩⟩
        case rest =>
          clear HC41
          try clear c1
          try clear c2
          try clear p2
          try clear c3
          try clear c4
          try clear p6
          try clear c9
          try clear c10
          try clear c11
          try clear c21
          try clear c22
          try clear c27
          try clear c27b0
          try clear c27b1
          try clear c28
          try clear c28b0
          try clear c28b1
          try clear c30
          try clear c32
          try clear c37
          try clear c40
          try clear c42
          try clear c42b0
          try clear hcz22_0
          try clear hcz22_1
          try clear hcz24_0
          try clear hcz24_1
          try clear hcz26_0
          try clear hcz26_1
          try clear hcz33_0
          try clear hcz33_1
          try clear hcz35_0
          try clear hcz35_1
          try clear hcz38_0
          try clear hcz38_1
          try clear hfz22_0
          try clear hfz22_1
          try clear hfz24_0
          try clear hfz24_1
          try clear hfz26_0
          try clear hfz26_1
          try clear hfz33_0
          try clear hfz33_1
          try clear hfz35_0
          try clear hfz35_1
          try clear hfz38_0
          try clear hfz38_1
          try clear p2
          try clear p6
          obtain ⟨kq, x26_40, rfl, HA, HJ40, BK130, BK134, HB⟩ := hcut
          cases kq with
          | zero => exact absurd HA.out (by simp [omnibuslaw11_LatticeAgree.j1])
          | succ kj40 =>
            have H := HA.out
            clear HA
            simp only [omnibuslaw11_LatticeAgree.j1] at H
            have HC43 := Aside0.mk H
            clear H
            go_upto_if 93 with (fail)
            go_cut [26] (fun v26 wc => ∃ (kq : Nat) (x26_42 : Int), v26 = .int .i64 x26_42 ∧ Aside0 (omnibuslaw11_LatticeAgree.j2 kq t131 (wrap64 (Int.tdiv t133 2)) (wrap64 (t135 - 524288)) (wrap64 (t137 + t141)) (wrap64 (t139 + t142)) x26_42 a6_0 a6_1 a6_2 a6_3 t132 t133 = some r) ∧ Aside0 (kq ≤ kj40) ∧ Aside0 (wc.heap[gb130]? = some (.cells #[.int .i64 a6_0, .int .i64 a6_1, .int .i64 a6_2, .int .i64 a6_3] 37 (0, 0))) ∧ Aside0 (wc.heap[gb134]? = some (.cells #[.int .i64 t132, .int .i64 t133] 23 (0, 0))) ∧ Aside0 (Below w.heap.size w wc))
            case first =>
              have H := HC43.out
              clear HC43
              by_cases c44 : (wrap64 (t135 - 524288)) > (wrap64 (t136 - 524288))
              · rw [if_pos c44] at H
                have c44b0 : decide ((wrap64 (t136 - 524288)) < (wrap64 (t135 - 524288))) = true := decide_eq_true c44
                clear c44
                (first | rw [c44b0] | (simp only [i64_w, i32_w]; rw [c44b0]) | skip)
                have H' := Aside0.mk H
                clear H
                go_wp2
                go_meet
                case rel => exact ⟨_, (1), (by first | rfl | (simp; done) | (simp [*]; done)), H', ⟨by have := HJ15.out; have := HJ40.out; first | omega | exact Nat.le_refl _⟩, ⟨by (with_reducible repeat (first | refine blk_drewN ?_ _ | refine blk_drew ?_ | refine blk_alloc ?_ _)); exact BK130.out⟩, ⟨by (with_reducible repeat (first | refine blk_drewN ?_ _ | refine blk_drew ?_ | refine blk_alloc ?_ _)); exact BK134.out⟩, ⟨by repeat (first | (with_reducible first | exact HB.out | apply below_alloc | apply pw_below_drewN | apply below_drew1 | refine below_set ?_ GE130.out | refine below_set ?_ GE134.out) | exact HB.out)⟩⟩
              · rw [if_neg c44] at H
                have c44b0 : decide ((wrap64 (t136 - 524288)) < (wrap64 (t135 - 524288))) = false := decide_eq_false c44
                clear c44
                (first | rw [c44b0] | (simp only [i64_w, i32_w]; rw [c44b0]) | skip)
                have H' := Aside0.mk H
                clear H
                go_wp2
                go_meet
                case rel => exact ⟨_, (x26_40), (by first | rfl | (simp; done) | (simp [*]; done)), H', ⟨by have := HJ15.out; have := HJ40.out; first | omega | exact Nat.le_refl _⟩, ⟨by (with_reducible repeat (first | refine blk_drewN ?_ _ | refine blk_drew ?_ | refine blk_alloc ?_ _)); exact BK130.out⟩, ⟨by (with_reducible repeat (first | refine blk_drewN ?_ _ | refine blk_drew ?_ | refine blk_alloc ?_ _)); exact BK134.out⟩, ⟨by repeat (first | (with_reducible first | exact HB.out | apply below_alloc | apply pw_below_drewN | apply below_drew1 | refine below_set ?_ GE130.out | refine below_set ?_ GE134.out) | exact HB.out)⟩⟩
            case rest =>
              clear HC43
              try clear c1
              try clear c2
              try clear p2
              try clear c3
              try clear c4
              try clear p6
              try clear c9
              try clear c10
              try clear c11
              try clear c21
              try clear c22
              try clear c27
              try clear c27b0
              try clear c27b1
              try clear c28
              try clear c28b0
              try clear c28b1
              try clear c30
              try clear c32
              try clear c37
              try clear c40
              try clear c42
              try clear c42b0
              try clear c44
              try clear c44b0
              try clear hcz22_0
              try clear hcz22_1
              try clear hcz24_0
              try clear hcz24_1
              try clear hcz26_0
              try clear hcz26_1
              try clear hcz33_0
              try clear hcz33_1
              try clear hcz35_0
              try clear hcz35_1
              try clear hcz38_0
              try clear hcz38_1
              try clear hfz22_0
              try clear hfz22_1
              try clear hfz24_0
              try clear hfz24_1
              try clear hfz26_0
              try clear hfz26_1
              try clear hfz33_0
              try clear hfz33_1
              try clear hfz35_0
              try clear hfz35_1
              try clear hfz38_0
              try clear hfz38_1
              try clear p2
              try clear p6
              obtain ⟨kq, x26_42, rfl, HA, HJ42, BK130, BK134, HB⟩ := hcut
              cases kq with
              | zero => exact absurd HA.out (by simp [omnibuslaw11_LatticeAgree.j2])
              | succ kj42 =>
                have H := HA.out
                clear HA
                simp only [omnibuslaw11_LatticeAgree.j2] at H
                have H' := Aside0.mk H
                clear H
                go_wp2
                go_loopg [27] kj42 (fun kq v27 w' => ∃ (x27_4 : Int), v27 = .int .i64 x27_4 ∧ Aside0 (omnibuslaw11_LatticeAgree.l0 kq t131 (wrap64 (Int.tdiv t133 2)) (wrap64 (t135 - 524288)) (wrap64 (t137 + t141)) (wrap64 (t139 + t142)) x26_42 x27_4 a6_0 a6_1 a6_2 a6_3 t132 t133 = some r) ∧ Aside0 (kq ≤ kj42) ∧ Aside0 (w'.heap[gb130]? = some (.cells #[.int .i64 a6_0, .int .i64 a6_1, .int .i64 a6_2, .int .i64 a6_3] 37 (0, 0))) ∧ Aside0 (w'.heap[gb134]? = some (.cells #[.int .i64 t132, .int .i64 t133] 23 (0, 0))) ∧ Aside0 (Below w.heap.size w w'))
                case atStart => exact ⟨(0), (by first | rfl | (simp; done) | (simp [*]; done)), H', ⟨Nat.le_refl _⟩, ⟨by (with_reducible repeat (first | refine blk_drewN ?_ _ | refine blk_drew ?_ | refine blk_alloc ?_ _)); exact BK130.out⟩, ⟨by (with_reducible repeat (first | refine blk_drewN ?_ _ | refine blk_drew ?_ | refine blk_alloc ?_ _)); exact BK134.out⟩, ⟨by repeat (first | (with_reducible first | exact HB.out | apply below_alloc | apply pw_below_drewN | apply below_drew1 | refine below_set ?_ GE130.out | refine below_set ?_ GE134.out) | exact HB.out)⟩⟩
                case round =>
                  clear H'
                  try clear c1
                  try clear c2
                  try clear p2
                  try clear c3
                  try clear c4
                  try clear p6
                  try clear c9
                  try clear c10
                  try clear c11
                  try clear c21
                  try clear c22
                  try clear c27
                  try clear c27b0
                  try clear c27b1
                  try clear c28
                  try clear c28b0
                  try clear c28b1
                  try clear c30
                  try clear c32
                  try clear c37
                  try clear c40
                  try clear c42
                  try clear c42b0
                  try clear c44
                  try clear c44b0
                  try clear hcz22_0
                  try clear hcz22_1
                  try clear hcz24_0
                  try clear hcz24_1
                  try clear hcz26_0
                  try clear hcz26_1
                  try clear hcz33_0
                  try clear hcz33_1
                  try clear hcz35_0
                  try clear hcz35_1
                  try clear hcz38_0
                  try clear hcz38_1
                  try clear hfz22_0
                  try clear hfz22_1
                  try clear hfz24_0
                  try clear hfz24_1
                  try clear hfz26_0
                  try clear hfz26_1
                  try clear hfz33_0
                  try clear hfz33_1
                  try clear hfz35_0
                  try clear hfz35_1
                  try clear hfz38_0
                  try clear hfz38_1
                  try clear p2
                  try clear p6
                  obtain ⟨x27_4, rfl, HA, HK4, BK130, BK134, HB⟩ := hrel
                  cases gk with
                  | zero => exact absurd HA.out (by simp [omnibuslaw11_LatticeAgree.l0])
                  | succ k4 =>
                    have H := HA.out
                    clear HA
                    simp only [omnibuslaw11_LatticeAgree.l0] at H
                    by_cases c45 : x27_4 < 4
                    · rw [if_pos c45] at H
                      have c45b0 : decide (x27_4 < 4) = true := decide_eq_true c45
                      clear c45
                      replace H := Option.bind_eq_some_iff.mp H
                      obtain ⟨t147, A460, H⟩ := H
                      replace H : ((omnibuslaw11_pick.f t147 (wrap64 ((wrap64 (2 * (wrap64 (Int.tdiv t133 2)))) + 1))).bind fun t148 => ((lattice_Epoch.f t132 t133 (wrap64 ((wrap64 (t137 + t141)) + (wrap64 (t148 - (wrap64 (Int.tdiv t133 2))))))).bind fun bt149 => ((latsel.f a6_0 a6_1 a6_2 a6_3 (wrap64 (3 - x27_4))).bind fun t151 => ((omnibuslaw11_pick.f t151 (wrap64 ((wrap64 (2 * (wrap64 (Int.tdiv t133 2)))) + 1))).bind fun t152 => ((lattice_Order.f t132 t133 (wrap64 ((wrap64 (t137 + t141)) + (wrap64 (t148 - (wrap64 (Int.tdiv t133 2)))))) (wrap64 ((wrap64 ((wrap64 (t139 + t142)) + t152)) - (wrap64 (Int.tdiv t133 2))))).bind fun bt153 => ((lattice_Near.f t132 t133 (wrap64 (t148 - (wrap64 (Int.tdiv t133 2))))).bind fun t155 => (if t155 = true then (if bt149.2 = 0 then (if bt149.1 = (wrap64 (t135 - 524288)) then (if bt153.2 = 0 then (if bt153.1 = x26_42 then (omnibuslaw11_LatticeAgree.l0 k4 t131 (wrap64 (Int.tdiv t133 2)) (wrap64 (t135 - 524288)) (wrap64 (t137 + t141)) (wrap64 (t139 + t142)) x26_42 (wrap64 (x27_4 + 1)) a6_0 a6_1 a6_2 a6_3 t132 t133) else (some false)) else (some false)) else (some false)) else (some false)) else (some false)))))))) = some r := H
                      have A46 := Aside0.mk A460
                      clear A460
                      replace H := Option.bind_eq_some_iff.mp H
                      obtain ⟨t148, A470, H⟩ := H
                      replace H : ((lattice_Epoch.f t132 t133 (wrap64 ((wrap64 (t137 + t141)) + (wrap64 (t148 - (wrap64 (Int.tdiv t133 2))))))).bind fun bt149 => ((latsel.f a6_0 a6_1 a6_2 a6_3 (wrap64 (3 - x27_4))).bind fun t151 => ((omnibuslaw11_pick.f t151 (wrap64 ((wrap64 (2 * (wrap64 (Int.tdiv t133 2)))) + 1))).bind fun t152 => ((lattice_Order.f t132 t133 (wrap64 ((wrap64 (t137 + t141)) + (wrap64 (t148 - (wrap64 (Int.tdiv t133 2)))))) (wrap64 ((wrap64 ((wrap64 (t139 + t142)) + t152)) - (wrap64 (Int.tdiv t133 2))))).bind fun bt153 => ((lattice_Near.f t132 t133 (wrap64 (t148 - (wrap64 (Int.tdiv t133 2))))).bind fun t155 => (if t155 = true then (if bt149.2 = 0 then (if bt149.1 = (wrap64 (t135 - 524288)) then (if bt153.2 = 0 then (if bt153.1 = x26_42 then (omnibuslaw11_LatticeAgree.l0 k4 t131 (wrap64 (Int.tdiv t133 2)) (wrap64 (t135 - 524288)) (wrap64 (t137 + t141)) (wrap64 (t139 + t142)) x26_42 (wrap64 (x27_4 + 1)) a6_0 a6_1 a6_2 a6_3 t132 t133) else (some false)) else (some false)) else (some false)) else (some false)) else (some false))))))) = some r := H
                      have A47 := Aside0.mk A470
                      clear A470
                      replace H := Option.bind_eq_some_iff.mp H
                      obtain ⟨⟨t149, t150⟩, A480, H⟩ := H
                      replace H : ((latsel.f a6_0 a6_1 a6_2 a6_3 (wrap64 (3 - x27_4))).bind fun t151 => ((omnibuslaw11_pick.f t151 (wrap64 ((wrap64 (2 * (wrap64 (Int.tdiv t133 2)))) + 1))).bind fun t152 => ((lattice_Order.f t132 t133 (wrap64 ((wrap64 (t137 + t141)) + (wrap64 (t148 - (wrap64 (Int.tdiv t133 2)))))) (wrap64 ((wrap64 ((wrap64 (t139 + t142)) + t152)) - (wrap64 (Int.tdiv t133 2))))).bind fun bt153 => ((lattice_Near.f t132 t133 (wrap64 (t148 - (wrap64 (Int.tdiv t133 2))))).bind fun t155 => (if t155 = true then (if t150 = 0 then (if t149 = (wrap64 (t135 - 524288)) then (if bt153.2 = 0 then (if bt153.1 = x26_42 then (omnibuslaw11_LatticeAgree.l0 k4 t131 (wrap64 (Int.tdiv t133 2)) (wrap64 (t135 - 524288)) (wrap64 (t137 + t141)) (wrap64 (t139 + t142)) x26_42 (wrap64 (x27_4 + 1)) a6_0 a6_1 a6_2 a6_3 t132 t133) else (some false)) else (some false)) else (some false)) else (some false)) else (some false)))))) = some r := H
                      have A48 := Aside0.mk A480
                      clear A480
                      replace H := Option.bind_eq_some_iff.mp H
                      obtain ⟨t151, A490, H⟩ := H
                      replace H : ((omnibuslaw11_pick.f t151 (wrap64 ((wrap64 (2 * (wrap64 (Int.tdiv t133 2)))) + 1))).bind fun t152 => ((lattice_Order.f t132 t133 (wrap64 ((wrap64 (t137 + t141)) + (wrap64 (t148 - (wrap64 (Int.tdiv t133 2)))))) (wrap64 ((wrap64 ((wrap64 (t139 + t142)) + t152)) - (wrap64 (Int.tdiv t133 2))))).bind fun bt153 => ((lattice_Near.f t132 t133 (wrap64 (t148 - (wrap64 (Int.tdiv t133 2))))).bind fun t155 => (if t155 = true then (if t150 = 0 then (if t149 = (wrap64 (t135 - 524288)) then (if bt153.2 = 0 then (if bt153.1 = x26_42 then (omnibuslaw11_LatticeAgree.l0 k4 t131 (wrap64 (Int.tdiv t133 2)) (wrap64 (t135 - 524288)) (wrap64 (t137 + t141)) (wrap64 (t139 + t142)) x26_42 (wrap64 (x27_4 + 1)) a6_0 a6_1 a6_2 a6_3 t132 t133) else (some false)) else (some false)) else (some false)) else (some false)) else (some false))))) = some r := H
                      have A49 := Aside0.mk A490
                      clear A490
                      replace H := Option.bind_eq_some_iff.mp H
                      obtain ⟨t152, A500, H⟩ := H
                      replace H : ((lattice_Order.f t132 t133 (wrap64 ((wrap64 (t137 + t141)) + (wrap64 (t148 - (wrap64 (Int.tdiv t133 2)))))) (wrap64 ((wrap64 ((wrap64 (t139 + t142)) + t152)) - (wrap64 (Int.tdiv t133 2))))).bind fun bt153 => ((lattice_Near.f t132 t133 (wrap64 (t148 - (wrap64 (Int.tdiv t133 2))))).bind fun t155 => (if t155 = true then (if t150 = 0 then (if t149 = (wrap64 (t135 - 524288)) then (if bt153.2 = 0 then (if bt153.1 = x26_42 then (omnibuslaw11_LatticeAgree.l0 k4 t131 (wrap64 (Int.tdiv t133 2)) (wrap64 (t135 - 524288)) (wrap64 (t137 + t141)) (wrap64 (t139 + t142)) x26_42 (wrap64 (x27_4 + 1)) a6_0 a6_1 a6_2 a6_3 t132 t133) else (some false)) else (some false)) else (some false)) else (some false)) else (some false)))) = some r := H
                      have A50 := Aside0.mk A500
                      clear A500
                      replace H := Option.bind_eq_some_iff.mp H
                      obtain ⟨⟨t153, t154⟩, A510, H⟩ := H
                      replace H : ((lattice_Near.f t132 t133 (wrap64 (t148 - (wrap64 (Int.tdiv t133 2))))).bind fun t155 => (if t155 = true then (if t150 = 0 then (if t149 = (wrap64 (t135 - 524288)) then (if t154 = 0 then (if t153 = x26_42 then (omnibuslaw11_LatticeAgree.l0 k4 t131 (wrap64 (Int.tdiv t133 2)) (wrap64 (t135 - 524288)) (wrap64 (t137 + t141)) (wrap64 (t139 + t142)) x26_42 (wrap64 (x27_4 + 1)) a6_0 a6_1 a6_2 a6_3 t132 t133) else (some false)) else (some false)) else (some false)) else (some false)) else (some false))) = some r := H
                      have A51 := Aside0.mk A510
                      clear A510
                      replace H := Option.bind_eq_some_iff.mp H
                      obtain ⟨t155, A520, H⟩ := H
                      replace H : (if t155 = true then (if t150 = 0 then (if t149 = (wrap64 (t135 - 524288)) then (if t154 = 0 then (if t153 = x26_42 then (omnibuslaw11_LatticeAgree.l0 k4 t131 (wrap64 (Int.tdiv t133 2)) (wrap64 (t135 - 524288)) (wrap64 (t137 + t141)) (wrap64 (t139 + t142)) x26_42 (wrap64 (x27_4 + 1)) a6_0 a6_1 a6_2 a6_3 t132 t133) else (some false)) else (some false)) else (some false)) else (some false)) else (some false)) = some r := H
                      have A52 := Aside0.mk A520
                      clear A520
                      by_cases c53 : t155 = true
                      · subst c53
                        have H1 : (if t150 = 0 then (if t149 = (wrap64 (t135 - 524288)) then (if t154 = 0 then (if t153 = x26_42 then (omnibuslaw11_LatticeAgree.l0 k4 t131 (wrap64 (Int.tdiv t133 2)) (wrap64 (t135 - 524288)) (wrap64 (t137 + t141)) (wrap64 (t139 + t142)) x26_42 (wrap64 (x27_4 + 1)) a6_0 a6_1 a6_2 a6_3 t132 t133) else (some false)) else (some false)) else (some false)) else (some false)) = some r := by rw [if_pos rfl] at H; exact H
                        clear H
                        have H := H1
                        clear H1
                        by_cases c54 : t150 = 0
                        · rw [if_pos c54] at H
                          have c54b0 : (t150 == 0) = true := beq_iff_eq.mpr c54
                          have c54b1 : (t150 != 0) = false := bne_eq_false_iff_eq.mpr c54
                          clear c54
                          by_cases c55 : t149 = (wrap64 (t135 - 524288))
                          · rw [if_pos c55] at H
                            have c55b0 : (t149 == (wrap64 (t135 - 524288))) = true := beq_iff_eq.mpr c55
                            have c55b1 : (t149 != (wrap64 (t135 - 524288))) = false := bne_eq_false_iff_eq.mpr c55
                            clear c55
                            by_cases c56 : t154 = 0
                            · rw [if_pos c56] at H
                              have c56b0 : (t154 == 0) = true := beq_iff_eq.mpr c56
                              have c56b1 : (t154 != 0) = false := bne_eq_false_iff_eq.mpr c56
                              clear c56
                              by_cases c57 : t153 = x26_42
                              · rw [if_pos c57] at H
                                have c57b0 : (t153 == x26_42) = true := beq_iff_eq.mpr c57
                                have c57b1 : (t153 != x26_42) = false := bne_eq_false_iff_eq.mpr c57
                                clear c57
                                have H' := Aside0.mk H
                                clear H
                                have hnb58 := NB130_134.out
                                have hnc58 := NB134_130.out
                                have hcz59_0 : wr.cell? ⟨gb130, 0, none⟩ = some (.int .i64 a6_0) := (blk_cell BK130.out 0).trans rfl
                                have hcz59_1 : wr.cell? ⟨gb130, 1, none⟩ = some (.int .i64 a6_1) := (blk_cell BK130.out 1).trans rfl
                                have hcz59_2 : wr.cell? ⟨gb130, 2, none⟩ = some (.int .i64 a6_2) := (blk_cell BK130.out 2).trans rfl
                                have hcz59_3 : wr.cell? ⟨gb130, 3, none⟩ = some (.int .i64 a6_3) := (blk_cell BK130.out 3).trans rfl
                                have hfz59_0 := blk_frozen BK130.out 0
                                have hfz59_1 := blk_frozen BK130.out 1
                                have hfz59_2 := blk_frozen BK130.out 2
                                have hfz59_3 := blk_frozen BK130.out 3
                                have hIa := latsel.low A46.out
                                have hIb := latsel.high A46.out
                                have hIc := latsel.cell BK130.out A46.out
                                try go_wp2_with (first | ((with_reducible refine gate_callee (f := 11) rfl ?_); refine goesL_ (some 104) rfl rfl Try.func11 (by kernel_rfl) rfl #[.int .i64 t147, .int .i64 (wrap64 ((wrap64 (2 * (wrap64 (Int.tdiv t133 2)))) + 1))] rfl (by (try simp only [List.map_toArray, List.map_cons, List.map_nil]); first | done | rfl | (simp only [List.length_drop, List.length_take]; rfl)) ?_; (with_reducible refine (omnibuslaw11_pick.calls t147 (wrap64 ((wrap64 (2 * (wrap64 (Int.tdiv t133 2)))) + 1)) t148 _ A47.out).mono ?_); rintro e w' ⟨rfl, ⟨nd, rfl⟩⟩; refine ⟨_, rfl, ?_⟩; have hcz61_0 : wr.cell? ⟨gb134, 0, none⟩ = some (.int .i64 t132) := (blk_cell BK134.out 0).trans rfl; have hcz61_1 : wr.cell? ⟨gb134, 1, none⟩ = some (.int .i64 t133) := (blk_cell BK134.out 1).trans rfl; have hfz61_0 := blk_frozen BK134.out 0; have hfz61_1 := blk_frozen BK134.out 1) | ((with_reducible refine gate_callee (f := 18) rfl ?_); refine goesL_ (some 112) rfl rfl Try.func18 (by kernel_rfl) rfl #[.agg #[.int .i64 t132, .int .i64 t133], .int .i64 (wrap64 ((wrap64 (t137 + t141)) + (wrap64 (t148 - (wrap64 (Int.tdiv t133 2))))))] rfl (by (try simp only [List.map_toArray, List.map_cons, List.map_nil]); first | done | rfl | (simp only [List.length_drop, List.length_take]; rfl)) ?_; (with_reducible refine (lattice_Epoch.calls t132 t133 (wrap64 ((wrap64 (t137 + t141)) + (wrap64 (t148 - (wrap64 (Int.tdiv t133 2)))))) t149 t150 _ A48.out).mono ?_); rintro e w62 ⟨rfl, hb⟩; refine ⟨_, rfl, ?_⟩; have n0_ := Aside0.mk (blk_below (g := gb130) (o := .cells #[.int .i64 a6_0, .int .i64 a6_1, .int .i64 a6_2, .int .i64 a6_3] 37 (0, 0)) (by (with_reducible repeat (first | refine blk_drewN ?_ _ | refine blk_drew ?_ | refine blk_alloc ?_ _)); exact BK130.out) hb); have n1_ := Aside0.mk (blk_below (g := gb134) (o := .cells #[.int .i64 t132, .int .i64 t133] 23 (0, 0)) (by (with_reducible repeat (first | refine blk_drewN ?_ _ | refine blk_drew ?_ | refine blk_alloc ?_ _)); exact BK134.out) hb); have n2_ := Aside0.mk (below_step (by repeat (first | (with_reducible first | exact HB.out | apply below_alloc | apply pw_below_drewN | apply below_drew1 | refine below_set ?_ GE130.out | refine below_set ?_ GE134.out) | exact HB.out)) hb); clear BK130; clear BK134; clear HB; have BK130 := n0_; have BK134 := n1_; have HB := n2_; clear n0_ n1_ n2_; (try clear hb); (try clear hb2); (try clear hk); (try clear hi)))
                                have n0_ := Aside0.mk (blk_drew BK130.out)
                                have n1_ := Aside0.mk (blk_drew BK134.out)
                                have n2_ := Aside0.mk (below_drew1 HB.out)
                                clear BK130
                                clear BK134
                                clear HB
                                have BK130 := n0_
                                have BK134 := n1_
                                have HB := n2_
                                clear n0_ n1_ n2_
                                have hJa := latsel.low A49.out
                                have hJb := latsel.high A49.out
                                refine start_ (n := 22) (S := fun w' => w'.cell? ⟨gb134, 0, none⟩ = some (.int .i64 t132) ∧ w'.cell? ⟨gb134, 1, none⟩ = some (.int .i64 t133) ∧ w'.cell? ⟨gb130, (wrap64 (3 - x27_4)).toNat, none⟩ = some (.int .i64 t151)) (ds := []) #[false, false, false, false, false, false, false, false, false, false, false, false, false, false, false, false, false, false, false, false, false, false] (by kernel_rfl) rfl rfl ⟨(blk_cell BK134.out 0).trans rfl, (blk_cell BK134.out 1).trans rfl, (latsel.cell BK130.out A49.out).trans rfl⟩ (fun hHeld => ?_); refine with_tabW omnibuslaw11_LatticeAgree.tab22 omnibuslaw11_LatticeAgree.bits22 (fun HT_ HW_ => ?_)
                                generalize w62.drew = w63 at BK130 BK134 HB hHeld ⊢
                                refine pure_ (i := 1) (N := some 117) (v := ?_) (a' := ?_) #[false, true, false, false, false, false, false, false, false, false, false, false, false, false, false, false, false, false, false, false, false, false] rfl rfl (any_of HT_.out (by kernel_rfl)) (fun _ _ _ h => h) (Or.inl ⟨by rfl, ?_⟩) ?_ ?_
                                rotate_left
                                · intro w'
                                  go_simp
                                  with_reducible rfl
                                rotate_left
                                · simp only [Act.put, List.setIfInBounds_toArray, List.set_cons_zero, List.set_cons_succ, i64_w, i32_w]
                                  rfl
                                refine pure_ (i := 2) (N := some 118) (v := ?_) (a' := ?_) #[false, true, true, false, false, false, false, false, false, false, false, false, false, false, false, false, false, false, false, false, false, false] rfl rfl (any_of HT_.out (by kernel_rfl)) (fun _ _ _ h => h) (Or.inl ⟨by rfl, ?_⟩) ?_ ?_
                                rotate_left
                                · intro w'
                                  go_simp
                                  with_reducible rfl
                                rotate_left
                                · simp only [Act.put, List.setIfInBounds_toArray, List.set_cons_zero, List.set_cons_succ, i64_w, i32_w]
                                  rfl
                                refine pure_ (i := 3) (N := some 119) (v := ?_) (a' := ?_) #[false, true, true, true, false, false, false, false, false, false, false, false, false, false, false, false, false, false, false, false, false, false] rfl rfl (any_of HT_.out (by kernel_rfl)) (fun _ _ _ h => h) (Or.inl ⟨by rfl, ?_⟩) ?_ ?_
                                rotate_left
                                · intro w'
                                  go_simp
                                  with_reducible rfl
                                rotate_left
                                · simp only [Act.put, List.setIfInBounds_toArray, List.set_cons_zero, List.set_cons_succ, i64_w, i32_w]
                                  rfl
                                refine pure_ (i := 4) (N := some 120) (v := ?_) (a' := ?_) #[false, true, true, true, true, false, false, false, false, false, false, false, false, false, false, false, false, false, false, false, false, false] rfl rfl (any_of HT_.out (by kernel_rfl)) (fun _ _ _ h => h) (Or.inl ⟨by rfl, ?_⟩) ?_ ?_
                                rotate_left
                                · intro w'
                                  go_simp
                                  with_reducible rfl
                                rotate_left
                                · simp only [Act.put, List.setIfInBounds_toArray, List.set_cons_zero, List.set_cons_succ, i64_w, i32_w]
                                  rfl
                                refine pure_ (i := 5) (N := some 121) (v := ?_) (a' := ?_) #[false, true, true, true, true, true, false, false, false, false, false, false, false, false, false, false, false, false, false, false, false, false] rfl rfl (any_of HT_.out (by kernel_rfl)) (fun _ _ _ h => h) (Or.inl ⟨by rfl, ?_⟩) ?_ ?_
                                rotate_left
                                · intro w'
                                  go_simp
                                  with_reducible rfl
                                rotate_left
                                · simp only [Act.put, List.setIfInBounds_toArray, List.set_cons_zero, List.set_cons_succ, i64_w, i32_w]
                                  rfl
                                refine pure_ (i := 6) (N := some 122) (v := ?_) (a' := ?_) #[false, true, true, true, true, true, true, false, false, false, false, false, false, false, false, false, false, false, false, false, false, false] rfl rfl (any_of HT_.out (by kernel_rfl)) (fun _ _ _ h => h) (Or.inl ⟨by rfl, ?_⟩) ?_ ?_
                                rotate_left
                                · intro w'
                                  go_simp
                                  with_reducible rfl
                                rotate_left
                                · simp only [Act.put, List.setIfInBounds_toArray, List.set_cons_zero, List.set_cons_succ, i64_w, i32_w]
                                  rfl
                                refine pure_ (i := 9) (N := some 125) (v := ?_) (a' := ?_) #[false, true, true, true, true, true, true, false, false, true, false, false, false, false, false, false, false, false, false, false, false, false] rfl rfl (any_of HT_.out (by kernel_rfl)) (fun _ _ _ h => h) (Or.inl ⟨by rfl, ?_⟩) ?_ ?_
                                rotate_left
                                · intro w'
                                  go_simp
                                  with_reducible rfl
                                rotate_left
                                · simp only [Act.put, List.setIfInBounds_toArray, List.set_cons_zero, List.set_cons_succ, i64_w, i32_w]
                                  rfl
                                refine pure_ (i := 10) (N := some 126) (v := ?_) (a' := ?_) #[false, true, true, true, true, true, true, false, false, true, true, false, false, false, false, false, false, false, false, false, false, false] rfl rfl (any_of HT_.out (by kernel_rfl)) (fun _ _ _ h => h) (Or.inl ⟨by rfl, ?_⟩) ?_ ?_
                                rotate_left
                                · intro w'
                                  go_simp
                                  with_reducible rfl
                                rotate_left
                                · simp only [Act.put, List.setIfInBounds_toArray, List.set_cons_zero, List.set_cons_succ, i64_w, i32_w]
                                  rfl
                                refine pure_ (i := 11) (N := some 127) (v := ?_) (a' := ?_) #[false, true, true, true, true, true, true, false, false, true, true, true, false, false, false, false, false, false, false, false, false, false] rfl rfl (any_of HT_.out (by kernel_rfl)) (fun _ _ _ h => h) (Or.inl ⟨by rfl, ?_⟩) ?_ ?_
                                rotate_left
                                · intro w'
                                  go_simp
                                  with_reducible rfl
                                rotate_left
                                · simp only [Act.put, List.setIfInBounds_toArray, List.set_cons_zero, List.set_cons_succ, i64_w, i32_w]
                                  rfl
                                refine pure_ (i := 14) (N := some 130) (v := ?_) (a' := ?_) #[false, true, true, true, true, true, true, false, false, true, true, true, false, false, true, false, false, false, false, false, false, false] rfl rfl (any_of HT_.out (by kernel_rfl)) (fun _ _ _ h => h) (Or.inl ⟨by rfl, ?_⟩) ?_ ?_
                                rotate_left
                                · intro w'
                                  go_simp
                                  with_reducible rfl
                                rotate_left
                                · simp only [Act.put, List.setIfInBounds_toArray, List.set_cons_zero, List.set_cons_succ, i64_w, i32_w]
                                  rfl
                                refine take_ (i := 0) (N := some 116) (v := ?_) (a' := ?_) #[true, true, true, true, true, true, true, false, false, true, true, true, false, false, true, false, false, false, false, false, false, false] rfl rfl (take_ofW HT_.out HW_.out (by kernel_rfl)) (fun _ _ _ h => h) (Or.inl ⟨by rfl, ?_⟩) hHeld ?_ ?_
                                rotate_left
                                · rintro w' ⟨s0, s1, s2⟩
                                  go_simp
                                  with_reducible rfl
                                rotate_left
                                · simp only [Act.put, List.setIfInBounds_toArray, List.set_cons_zero, List.set_cons_succ, i64_w, i32_w]
                                  rfl
                                refine pure_ (i := 7) (N := some 123) (v := ?_) (a' := ?_) #[true, true, true, true, true, true, true, true, false, true, true, true, false, false, true, false, false, false, false, false, false, false] rfl rfl (any_of HT_.out (by kernel_rfl)) (fun _ _ _ h => h) (Or.inl ⟨by rfl, ?_⟩) ?_ ?_
                                rotate_left
                                · intro w'
                                  go_simp
                                  with_reducible rfl
                                rotate_left
                                · simp only [Act.put, List.setIfInBounds_toArray, List.set_cons_zero, List.set_cons_succ, i64_w, i32_w]
                                  rfl
                                refine take_ (i := 8) (N := some 124) (v := ?_) (a' := ?_) #[true, true, true, true, true, true, true, true, true, true, true, true, false, false, true, false, false, false, false, false, false, false] rfl rfl (take_ofW HT_.out HW_.out (by kernel_rfl)) (fun _ _ _ h => h) (Or.inl ⟨by rfl, ?_⟩) hHeld ?_ ?_
                                rotate_left
                                · rintro w' ⟨s0, s1, s2⟩
                                  go_simp
                                  with_reducible rfl
                                rotate_left
                                · simp only [Act.put, List.setIfInBounds_toArray, List.set_cons_zero, List.set_cons_succ, i64_w, i32_w]
                                  rfl
                                refine one_ (i := 12) (N := some 128) #[true, true, true, true, true, true, true, true, true, true, true, true, true, false, true, false, false, false, false, false, false, false] rfl rfl (one_of HT_.out (by kernel_rfl)) (by decide) (fun K hK => ?_)
                                refine goes_ Try.func11 (by kernel_rfl) rfl #[.int .i64 t151, .int .i64 (wrap64 ((wrap64 (2 * (wrap64 (Int.tdiv t133 2)))) + 1))] (by rfl) rfl rfl (by (try simp only [List.map_toArray, List.map_cons, List.map_nil]); first | done | rfl | (simp only [List.length_drop, List.length_take]; rfl)) ?_
                                with_reducible refine (omnibuslaw11_pick.calls t151 (wrap64 ((wrap64 (2 * (wrap64 (Int.tdiv t133 2)))) + 1)) t152 _ A50.out).mono ?_
                                rintro e w' ⟨rfl, ⟨nd, rfl⟩⟩
                                refine ⟨_, rfl, ?_⟩
                                refine hK.out _ _ ⟨(blk_cell BK134.out 0).trans rfl, (blk_cell BK134.out 1).trans rfl, (latsel.cell BK130.out A49.out).trans rfl⟩ (fun hHeld => ?_)
                                clear hK K
                                refine norm_ (a' := ?_) ?_ ?_
                                rotate_left
                                · show Act.put _ (some 128) _ = _
                                  simp only [Act.put, List.setIfInBounds_toArray, List.set_cons_zero, List.set_cons_succ, i64_w, i32_w]
                                  rfl
                                refine pure_ (i := 13) (N := some 129) (v := ?_) (a' := ?_) #[true, true, true, true, true, true, true, true, true, true, true, true, true, true, true, false, false, false, false, false, false, false] rfl rfl (any_of HT_.out (by kernel_rfl)) (fun _ _ _ h => h) (Or.inl ⟨by rfl, ?_⟩) ?_ ?_
                                rotate_left
                                · intro w'
                                  go_simp
                                  with_reducible rfl
                                rotate_left
                                · simp only [Act.put, List.setIfInBounds_toArray, List.set_cons_zero, List.set_cons_succ, i64_w, i32_w]
                                  rfl
                                refine pure_ (i := 15) (N := some 131) (v := ?_) (a' := ?_) #[true, true, true, true, true, true, true, true, true, true, true, true, true, true, true, true, false, false, false, false, false, false] rfl rfl (any_of HT_.out (by kernel_rfl)) (fun _ _ _ h => h) (Or.inl ⟨by rfl, ?_⟩) ?_ ?_
                                rotate_left
                                · intro w'
                                  go_simp
                                  with_reducible rfl
                                rotate_left
                                · simp only [Act.put, List.setIfInBounds_toArray, List.set_cons_zero, List.set_cons_succ, i64_w, i32_w]
                                  rfl
                                refine one_ (i := 16) (N := some 132) #[true, true, true, true, true, true, true, true, true, true, true, true, true, true, true, true, true, false, false, false, false, false] rfl rfl (one_of HT_.out (by kernel_rfl)) (by decide) (fun K hK => ?_)
                                refine goes_ Try.func20 (by kernel_rfl) rfl #[.agg #[.int .i64 t132, .int .i64 t133], .int .i64 (wrap64 ((wrap64 (t137 + t141)) + (wrap64 (t148 - (wrap64 (Int.tdiv t133 2)))))), .int .i64 (wrap64 ((wrap64 ((wrap64 (t139 + t142)) + t152)) - (wrap64 (Int.tdiv t133 2))))] (by rfl) rfl rfl (by (try simp only [List.map_toArray, List.map_cons, List.map_nil]); first | done | rfl | (simp only [List.length_drop, List.length_take]; rfl)) ?_
                                with_reducible refine (lattice_Order.calls t132 t133 (wrap64 ((wrap64 (t137 + t141)) + (wrap64 (t148 - (wrap64 (Int.tdiv t133 2)))))) (wrap64 ((wrap64 ((wrap64 (t139 + t142)) + t152)) - (wrap64 (Int.tdiv t133 2)))) t153 t154 _ A51.out).mono ?_
                                rintro e w65 ⟨rfl, hb⟩
                                refine ⟨_, rfl, ?_⟩
                                have n0_ := Aside0.mk (blk_below (g := gb130) (o := .cells #[.int .i64 a6_0, .int .i64 a6_1, .int .i64 a6_2, .int .i64 a6_3] 37 (0, 0)) (by (with_reducible repeat (first | refine blk_drewN ?_ _ | refine blk_drew ?_ | refine blk_alloc ?_ _)); exact BK130.out) hb)
                                have n1_ := Aside0.mk (blk_below (g := gb134) (o := .cells #[.int .i64 t132, .int .i64 t133] 23 (0, 0)) (by (with_reducible repeat (first | refine blk_drewN ?_ _ | refine blk_drew ?_ | refine blk_alloc ?_ _)); exact BK134.out) hb)
                                have n2_ := Aside0.mk (below_step (by repeat (first | (with_reducible first | exact HB.out | apply below_alloc | apply pw_below_drewN | apply below_drew1 | refine below_set ?_ GE130.out | refine below_set ?_ GE134.out) | exact HB.out)) hb)
                                clear BK130
                                clear BK134
                                clear HB
                                have BK130 := n0_
                                have BK134 := n1_
                                have HB := n2_
                                clear n0_ n1_ n2_
                                (try clear hb)
                                (try clear hb2)
                                (try clear hk)
                                (try clear hi)
                                refine hK.out _ _ ⟨(blk_cell BK134.out 0).trans rfl, (blk_cell BK134.out 1).trans rfl, (latsel.cell BK130.out A49.out).trans rfl⟩ (fun hHeld => ?_)
                                clear hK K
                                refine norm_ (a' := ?_) ?_ ?_
                                rotate_left
                                · show Act.put _ (some 132) _ = _
                                  simp only [Act.put, List.setIfInBounds_toArray, List.set_cons_zero, List.set_cons_succ, i64_w, i32_w]
                                  rfl
                                refine pure_ (i := 17) (N := some 115) (v := ?_) (a' := ?_) #[true, true, true, true, true, true, true, true, true, true, true, true, true, true, true, true, true, true, false, false, false, false] rfl rfl (any_of HT_.out (by kernel_rfl)) (fun _ _ _ h => h) (Or.inl ⟨by rfl, ?_⟩) ?_ ?_
                                rotate_left
                                · intro w'
                                  go_simp
                                  with_reducible rfl
                                rotate_left
                                · simp only [Act.put, List.setIfInBounds_toArray, List.set_cons_zero, List.set_cons_succ, i64_w, i32_w]
                                  rfl
                                refine pure_ (i := 18) (N := some 133) (v := ?_) (a' := ?_) #[true, true, true, true, true, true, true, true, true, true, true, true, true, true, true, true, true, true, true, false, false, false] rfl rfl (any_of HT_.out (by kernel_rfl)) (fun _ _ _ h => h) (Or.inl ⟨by rfl, ?_⟩) ?_ ?_
                                rotate_left
                                · intro w'
                                  go_simp
                                  with_reducible rfl
                                rotate_left
                                · simp only [Act.put, List.setIfInBounds_toArray, List.set_cons_zero, List.set_cons_succ, i64_w, i32_w]
                                  rfl
                                refine pure_ (i := 19) (N := some 134) (v := ?_) (a' := ?_) #[true, true, true, true, true, true, true, true, true, true, true, true, true, true, true, true, true, true, true, true, false, false] rfl rfl (any_of HT_.out (by kernel_rfl)) (fun _ _ _ h => h) (Or.inl ⟨by rfl, ?_⟩) ?_ ?_
                                rotate_left
                                · intro w'
                                  go_simp
                                  with_reducible rfl
                                rotate_left
                                · simp only [Act.put, List.setIfInBounds_toArray, List.set_cons_zero, List.set_cons_succ, i64_w, i32_w]
                                  rfl
                                refine pure_ (i := 20) (N := some 31) (v := ?_) (a' := ?_) #[true, true, true, true, true, true, true, true, true, true, true, true, true, true, true, true, true, true, true, true, true, false] rfl rfl (any_of HT_.out (by kernel_rfl)) (fun _ _ _ h => h) (Or.inl ⟨by rfl, ?_⟩) ?_ ?_
                                rotate_left
                                · intro w'
                                  go_simp
                                  with_reducible rfl
                                rotate_left
                                · simp only [Act.put, List.setIfInBounds_toArray, List.set_cons_zero, List.set_cons_succ, i64_w, i32_w]
                                  rfl
                                refine pure_ (i := 21) (N := some 32) (v := ?_) (a' := ?_) #[true, true, true, true, true, true, true, true, true, true, true, true, true, true, true, true, true, true, true, true, true, true] rfl rfl (any_of HT_.out (by kernel_rfl)) (fun _ _ _ h => h) (Or.inl ⟨by rfl, ?_⟩) ?_ ?_
                                rotate_left
                                · intro w'
                                  go_simp
                                  with_reducible rfl
                                rotate_left
                                · simp only [Act.put, List.setIfInBounds_toArray, List.set_cons_zero, List.set_cons_succ, i64_w, i32_w]
                                  rfl
                                refine done_ (done_of HT_.out (by kernel_rfl)) ?_
                                have hcz66_0 : w65.cell? ⟨gb134, 0, none⟩ = some (.int .i64 t132) := (blk_cell BK134.out 0).trans rfl
                                have hcz66_1 : w65.cell? ⟨gb134, 1, none⟩ = some (.int .i64 t133) := (blk_cell BK134.out 1).trans rfl
                                have hfz66_0 := blk_frozen BK134.out 0
                                have hfz66_1 := blk_frozen BK134.out 1
                                try go_wp2_with (first | ((with_reducible refine gate_callee (f := 14) rfl ?_); refine goesL_ (some 137) rfl rfl Try.func14 (by kernel_rfl) rfl #[.agg #[.int .i64 t132, .int .i64 t133], .int .i64 (wrap64 (t148 - (wrap64 (Int.tdiv t133 2))))] rfl (by (try simp only [List.map_toArray, List.map_cons, List.map_nil]); first | done | rfl | (simp only [List.length_drop, List.length_take]; rfl)) ?_; (with_reducible refine (lattice_Near.calls t132 t133 (wrap64 (t148 - (wrap64 (Int.tdiv t133 2)))) true _ A52.out).mono ?_); rintro e w67 ⟨rfl, hb⟩; refine ⟨_, rfl, ?_⟩; have n0_ := Aside0.mk (blk_below (g := gb130) (o := .cells #[.int .i64 a6_0, .int .i64 a6_1, .int .i64 a6_2, .int .i64 a6_3] 37 (0, 0)) (by (with_reducible repeat (first | refine blk_drewN ?_ _ | refine blk_drew ?_ | refine blk_alloc ?_ _)); exact BK130.out) hb); have n1_ := Aside0.mk (blk_below (g := gb134) (o := .cells #[.int .i64 t132, .int .i64 t133] 23 (0, 0)) (by (with_reducible repeat (first | refine blk_drewN ?_ _ | refine blk_drew ?_ | refine blk_alloc ?_ _)); exact BK134.out) hb); have n2_ := Aside0.mk (below_step (by repeat (first | (with_reducible first | exact HB.out | apply below_alloc | apply pw_below_drewN | apply below_drew1 | refine below_set ?_ GE130.out | refine below_set ?_ GE134.out) | exact HB.out)) hb); clear BK130; clear BK134; clear HB; have BK130 := n0_; have BK134 := n1_; have HB := n2_; clear n0_ n1_ n2_; (try clear hb); (try clear hb2); (try clear hk); (try clear hi)))
                                go_roundg k4
                                case measure => have := HJ15.out; have := HJ40.out; have := HJ42.out; have := HK4.out; omega
                                case rel => exact ⟨(wrap64 (x27_4 + 1)), (by first | rfl | (simp; done) | (simp [*]; done)), H', ⟨by have := HJ15.out; have := HJ40.out; have := HJ42.out; have := HK4.out; omega⟩, ⟨by (with_reducible repeat (first | refine blk_drewN ?_ _ | refine blk_drew ?_ | refine blk_alloc ?_ _)); exact BK130.out⟩, ⟨by (with_reducible repeat (first | refine blk_drewN ?_ _ | refine blk_drew ?_ | refine blk_alloc ?_ _)); exact BK134.out⟩, ⟨by repeat (first | (with_reducible first | exact HB.out | apply below_alloc | apply pw_below_drewN | apply below_drew1 | refine below_set ?_ GE130.out | refine below_set ?_ GE134.out) | exact HB.out)⟩⟩
                              · rw [if_neg c57] at H
                                have c57b0 : (t153 == x26_42) = false := beq_eq_false_iff_ne.mpr c57
                                have c57b1 : (t153 != x26_42) = true := bne_iff_ne.mpr c57
                                exact absurd (Option.some.inj H) (by rw [HT.out]; decide)
                            · rw [if_neg c56] at H
                              have c56b0 : (t154 == 0) = false := beq_eq_false_iff_ne.mpr c56
                              have c56b1 : (t154 != 0) = true := bne_iff_ne.mpr c56
                              exact absurd (Option.some.inj H) (by rw [HT.out]; decide)
                          · rw [if_neg c55] at H
                            have c55b0 : (t149 == (wrap64 (t135 - 524288))) = false := beq_eq_false_iff_ne.mpr c55
                            have c55b1 : (t149 != (wrap64 (t135 - 524288))) = true := bne_iff_ne.mpr c55
                            exact absurd (Option.some.inj H) (by rw [HT.out]; decide)
                        · rw [if_neg c54] at H
                          have c54b0 : (t150 == 0) = false := beq_eq_false_iff_ne.mpr c54
                          have c54b1 : (t150 != 0) = true := bne_iff_ne.mpr c54
                          exact absurd (Option.some.inj H) (by rw [HT.out]; decide)
                      · replace c53 := Bool.eq_false_iff.mpr c53
                        subst c53
                        have H1 : (some false) = some r := by rw [if_neg (show ¬ (false = true) by decide)] at H; exact H
                        clear H
                        have H := H1
                        clear H1
                        exact absurd (Option.some.inj H) (by rw [HT.out]; decide)
                    · rw [if_neg c45] at H
                      have c45b0 : decide (x27_4 < 4) = false := decide_eq_false c45
                      clear c45
                      by_cases c118 : t131 = true
                      · subst c118
                        have H1 : ((lattice_Near.f t132 t133 (wrap64 ((wrap64 (Int.tdiv t133 2)) + 1))).bind fun t145 => (if t145 = true then (some false) else ((lattice_Near.f t132 t133 (wrap64 ((wrap64 (-(wrap64 (Int.tdiv t133 2)))) - 1))).bind fun t146 => (some (!t146))))) = some r := by rw [if_pos rfl] at H; exact H
                        clear H
                        have H := H1
                        clear H1
                        replace H := Option.bind_eq_some_iff.mp H
                        obtain ⟨t145, A1190, H⟩ := H
                        replace H : (if t145 = true then (some false) else ((lattice_Near.f t132 t133 (wrap64 ((wrap64 (-(wrap64 (Int.tdiv t133 2)))) - 1))).bind fun t146 => (some (!t146)))) = some r := H
                        have A119 := Aside0.mk A1190
                        clear A1190
                        by_cases c120 : t145 = true
                        · subst c120
                          have H1 : (some false) = some r := by rw [if_pos rfl] at H; exact H
                          clear H
                          have H := H1
                          clear H1
                          exact absurd (Option.some.inj H) (by rw [HT.out]; decide)
                        · replace c120 := Bool.eq_false_iff.mpr c120
                          subst c120
                          have H1 : ((lattice_Near.f t132 t133 (wrap64 ((wrap64 (-(wrap64 (Int.tdiv t133 2)))) - 1))).bind fun t146 => (some (!t146))) = some r := by rw [if_neg (show ¬ (false = true) by decide)] at H; exact H
                          clear H
                          have H := H1
                          clear H1
                          replace H := Option.bind_eq_some_iff.mp H
                          obtain ⟨t146, A1240, H⟩ := H
                          replace H : (some (!t146)) = some r := H
                          have A124 := Aside0.mk A1240
                          clear A1240
                          first
                          | exact absurd (Option.some.inj H) (by rw [HT.out]; decide)
                          | obtain rfl := Option.some.inj H
                            have hnb125 := NB134_130.out
                            have hnc125 := NB130_134.out
                            have hcz126_0 : wr.cell? ⟨gb134, 0, none⟩ = some (.int .i64 t132) := (blk_cell BK134.out 0).trans rfl
                            have hcz126_1 : wr.cell? ⟨gb134, 1, none⟩ = some (.int .i64 t133) := (blk_cell BK134.out 1).trans rfl
                            have hfz126_0 := blk_frozen BK134.out 0
                            have hfz126_1 := blk_frozen BK134.out 1
                            go_wp2_with (first | (go_at_call 14; (with_reducible refine (lattice_Near.calls t132 t133 (wrap64 ((wrap64 (Int.tdiv t133 2)) + 1)) false _ A119.out).mono ?_); rintro e w127 ⟨rfl, hb⟩; have n0_ := Aside0.mk (blk_below (g := gb130) (o := .cells #[.int .i64 a6_0, .int .i64 a6_1, .int .i64 a6_2, .int .i64 a6_3] 37 (0, 0)) (by (with_reducible repeat (first | refine blk_drewN ?_ _ | refine blk_drew ?_ | refine blk_alloc ?_ _)); exact BK130.out) hb); have n1_ := Aside0.mk (blk_below (g := gb134) (o := .cells #[.int .i64 t132, .int .i64 t133] 23 (0, 0)) (by (with_reducible repeat (first | refine blk_drewN ?_ _ | refine blk_drew ?_ | refine blk_alloc ?_ _)); exact BK134.out) hb); have n2_ := Aside0.mk (below_step (by repeat (first | (with_reducible first | exact HB.out | apply below_alloc | apply pw_below_drewN | apply below_drew1 | refine below_set ?_ GE130.out | refine below_set ?_ GE134.out) | exact HB.out)) hb); clear BK130; clear BK134; clear HB; have BK130 := n0_; have BK134 := n1_; have HB := n2_; clear n0_ n1_ n2_; (try clear hb); (try clear hb2); (try clear hk); (try clear hi); have hcz128_0 : w127.cell? ⟨gb134, 0, none⟩ = some (.int .i64 t132) := (blk_cell BK134.out 0).trans rfl; have hcz128_1 : w127.cell? ⟨gb134, 1, none⟩ = some (.int .i64 t133) := (blk_cell BK134.out 1).trans rfl; have hfz128_0 := blk_frozen BK134.out 0; have hfz128_1 := blk_frozen BK134.out 1) | (go_at_call 14; (with_reducible refine (lattice_Near.calls t132 t133 (wrap64 ((wrap64 (-(wrap64 (Int.tdiv t133 2)))) - 1)) t146 _ A124.out).mono ?_); rintro e w129 ⟨rfl, hb⟩; have n0_ := Aside0.mk (blk_below (g := gb130) (o := .cells #[.int .i64 a6_0, .int .i64 a6_1, .int .i64 a6_2, .int .i64 a6_3] 37 (0, 0)) (by (with_reducible repeat (first | refine blk_drewN ?_ _ | refine blk_drew ?_ | refine blk_alloc ?_ _)); exact BK130.out) hb); have n1_ := Aside0.mk (blk_below (g := gb134) (o := .cells #[.int .i64 t132, .int .i64 t133] 23 (0, 0)) (by (with_reducible repeat (first | refine blk_drewN ?_ _ | refine blk_drew ?_ | refine blk_alloc ?_ _)); exact BK134.out) hb); have n2_ := Aside0.mk (below_step (by repeat (first | (with_reducible first | exact HB.out | apply below_alloc | apply pw_below_drewN | apply below_drew1 | refine below_set ?_ GE130.out | refine below_set ?_ GE134.out) | exact HB.out)) hb); clear BK130; clear BK134; clear HB; have BK130 := n0_; have BK134 := n1_; have HB := n2_; clear n0_ n1_ n2_; (try clear hb); (try clear hb2); (try clear hk); (try clear hi)))
                            go_ret
                            exact ⟨by first | rfl | (simp [errW_none, errW_some] <;> rfl) | (simp [*, errW_none, errW_some] <;> rfl), by repeat (first | (with_reducible first | exact HB.out | apply below_alloc | apply pw_below_drewN | apply below_drew1 | refine below_set ?_ GE130.out | refine below_set ?_ GE134.out) | exact HB.out)⟩
                      · replace c118 := Bool.eq_false_iff.mpr c118
                        subst c118
                        have H1 : (some false) = some r := by rw [if_neg (show ¬ (false = true) by decide)] at H; exact H
                        clear H
                        have H := H1
                        clear H1
                        exact absurd (Option.some.inj H) (by rw [HT.out]; decide)

/-- THE ONE PURE STATEMENT of omnibuslaw11_LatticeAgree: yours. -/
def omnibuslaw11_LatticeAgree.Pure : Prop := ∀ (a0 : Int) (a1 : Int) (a2 : Int) (a3 : Int) (a4 : Int) (a5 : Int) (a6_0 : Int) (a6_1 : Int) (a6_2 : Int) (a6_3 : Int), (Lit.int .i64 a0).wf = true → (Lit.int .i64 a1).wf = true → (Lit.int .i64 a2).wf = true → (Lit.int .i64 a3).wf = true → (Lit.int .i64 a4).wf = true → (Lit.int .i64 a5).wf = true → (Lit.int .i64 a6_0).wf = true → (Lit.int .i64 a6_1).wf = true → (Lit.int .i64 a6_2).wf = true → (Lit.int .i64 a6_3).wf = true → ∃ k, omnibuslaw11_LatticeAgree.f k a0 a1 a2 a3 a4 a5 a6_0 a6_1 a6_2 a6_3 = some true
theorem omnibuslaw11_LatticeAgree.walk (P : omnibuslaw11_LatticeAgree.Pure) (a0 : Int) (a1 : Int) (a2 : Int) (a3 : Int) (a4 : Int) (a5 : Int) (a6_0 : Int) (a6_1 : Int) (a6_2 : Int) (a6_3 : Int) (w : World) (w0 : (Lit.int .i64 a0).wf = true) (w1 : (Lit.int .i64 a1).wf = true) (w2 : (Lit.int .i64 a2).wf = true) (w3 : (Lit.int .i64 a3).wf = true) (w4 : (Lit.int .i64 a4).wf = true) (w5 : (Lit.int .i64 a5).wf = true) (w6_0 : (Lit.int .i64 a6_0).wf = true) (w6_1 : (Lit.int .i64 a6_1).wf = true) (w6_2 : (Lit.int .i64 a6_2).wf = true) (w6_3 : (Lit.int .i64 a6_3).wf = true) :
    Calls Try.prog 4 #[.int .i64 a0, .int .i64 a1, .int .i64 a2, .int .i64 a3, .int .i64 a4, .int .i64 a5, .agg #[.int .i64 a6_0, .int .i64 a6_1, .int .i64 a6_2, .int .i64 a6_3]] w fun e w' => e = .returned (.bool true) ∧ Below w.heap.size w w' := by
  obtain ⟨k, h⟩ := P a0 a1 a2 a3 a4 a5 a6_0 a6_1 a6_2 a6_3 w0 w1 w2 w3 w4 w5 w6_0 w6_1 w6_2 w6_3
  refine (omnibuslaw11_LatticeAgree.calls k a0 a1 a2 a3 a4 a5 a6_0 a6_1 a6_2 a6_3 true w h rfl).mono ?_
  rintro e w' ⟨rfl, hd⟩
  exact ⟨rfl, hd⟩

end Go.Proofs.Ytbjmoebajdhdoaa.PD
