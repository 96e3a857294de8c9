-- Laid by a program of this session (wip/myprint.py, over the kit's print.py), not by print.sh.
import Derived.Test.YtbjmoebajdhdoaaPBx0
import Derived.Test.YtbjmoebajdhdoaaPBx1
import Derived.Test.YtbjmoebajdhdoaaPBx2
import Derived.Test.YtbjmoebajdhdoaaPBx3
import Derived.Test.YtbjmoebajdhdoaaPBx4
namespace Go.Proofs.Ytbjmoebajdhdoaa.PB
open Go.RowKit Go.Proofs.YtbjmoebajdhdoaaW.PrintWords Go.Proofs.YtbjmoebajdhdoaaW.PrintLast Go.Proofs.YtbjmoebajdhdoaaW.PrintMore
attribute [local go_sem] max2_int min2_int max_two min_two max_three min_three max_four min_four   -- for this text's walks alone
set_option linter.unusedVariables false
set_option linter.unusedSimpArgs false

/-! ### omnibuslaw11_LatticeTells: function 3 -/
mutual
def omnibuslaw11_LatticeTells.l0 : Nat → Int → Int → Int → Bool → List (S23) → Int → Int → Option (Bool)
  | 0, _, _, _, _, _, _, _ => none
  | k + 1, x3, x4, x5, x13, x44, x45, x46 => if x46 < x45 then (if 0 ≤ x46 then (if x46 < (x44.length : Int) then ((lattice_Right.f ((rd_T23 x44 x46).f0) ((rd_T23 x44 x46).f1)).bind fun t167 => ((omnibusref11_Right.f ((rd_T23 x44 x46).f0) ((rd_T23 x44 x46).f1)).bind fun t168 => (if (t167 != t168) = true then (omnibuslaw11_LatticeTells.j1 k x3 x4 x5 x13 x44 x45 x46 true ((rd_T23 x44 x46).f0) ((rd_T23 x44 x46).f1)) else ((lattice_Near.f ((rd_T23 x44 x46).f0) ((rd_T23 x44 x46).f1) x5).bind fun t169 => ((omnibusref11_Near.f ((rd_T23 x44 x46).f0) ((rd_T23 x44 x46).f1) x5).bind fun t170 => (if (t169 != t170) = true then (omnibuslaw11_LatticeTells.j1 k x3 x4 x5 x13 x44 x45 x46 true ((rd_T23 x44 x46).f0) ((rd_T23 x44 x46).f1)) else ((omnibuslaw11_pick.f x5 12).bind fun t171 => ((lattice_Near.f ((rd_T23 x44 x46).f0) ((rd_T23 x44 x46).f1) (wrap64 (t171 - 6))).bind fun t172 => ((omnibuslaw11_pick.f x5 12).bind fun t173 => ((omnibusref11_Near.f ((rd_T23 x44 x46).f0) ((rd_T23 x44 x46).f1) (wrap64 (t173 - 6))).bind fun t174 => (omnibuslaw11_LatticeTells.j1 k x3 x4 x5 x13 x44 x45 x46 (t172 != t174) ((rd_T23 x44 x46).f0) ((rd_T23 x44 x46).f1)))))))))))) else (none)) else (none)) else (some x13)
def omnibuslaw11_LatticeTells.j1 : Nat → Int → Int → Int → Bool → List (S23) → Int → Int → Bool → Int → Int → Option (Bool)
  | 0, _, _, _, _, _, _, _, _, _, _ => none
  | k + 1, x3, x4, x5, x13, x44, x45, x46, x76, x167000, x167001 => if x76 = true then (some false) else ((omnibuslaw11_pick.f x3 2199023255552).bind fun t175 => ((omnibuslaw11_pick.f x4 2199023255552).bind fun t176 => ((omnibuslaw11_pick.f x3 100).bind fun t177 => ((omnibuslaw11_pick.f x4 100).bind fun t178 => ((some (([(⟨x3, x4⟩ : S30), (⟨wrap64 (t175 - 1099511627776), wrap64 (t176 - 1099511627776)⟩ : S30), (⟨wrap64 (t177 - 50), wrap64 (t178 - 50)⟩ : S30)] : List (S30)) : List (S30))).bind fun y179 => (omnibuslaw11_LatticeTells.l1 k x3 x4 x5 x13 x44 x45 x46 y179 (y179.length : Int) 0 x167000 x167001))))))
def omnibuslaw11_LatticeTells.l1 : Nat → Int → Int → Int → Bool → List (S23) → Int → Int → List (S30) → Int → Int → Int → Int → Option (Bool)
  | 0, _, _, _, _, _, _, _, _, _, _, _, _ => none
  | k + 1, x3, x4, x5, x13, x44, x45, x46, x94, x95, x96, x167000, x167001 => if x96 < x95 then (if 0 ≤ x96 then (if x96 < (x94.length : Int) then ((lattice_Next.f x167000 x167001 ((rd_T30 x94 x96).f0)).bind fun bt184 => ((omnibusref11_Next.f x167000 x167001 ((rd_T30 x94 x96).f0)).bind fun bt186 => ((lattice_Epoch.f x167000 x167001 ((rd_T30 x94 x96).f0)).bind fun bt188 => ((omnibusref11_Epoch.f x167000 x167001 ((rd_T30 x94 x96).f0)).bind fun bt190 => ((lattice_Order.f x167000 x167001 ((rd_T30 x94 x96).f0) ((rd_T30 x94 x96).f1)).bind fun bt192 => ((omnibusref11_Order.f k x167000 x167001 ((rd_T30 x94 x96).f0) ((rd_T30 x94 x96).f1)).bind fun bt194 => ((lattice_Begin.f x167000 x167001 ((rd_T30 x94 x96).f1)).bind fun bt196 => ((omnibusref11_Begin.f x167000 x167001 ((rd_T30 x94 x96).f1)).bind fun bt198 => (if bt184.1 = bt186.1 then (if bt184.2 = bt186.2 then (if bt188.1 = bt190.1 then (if bt188.2 = bt190.2 then (if bt192.1 = bt194.1 then (if bt192.2 = bt194.2 then (if bt196.1 = bt198.1 then (if bt196.2 = bt198.2 then ((lattice_Active.f x167000 x167001 ((rd_T30 x94 x96).f0)).bind fun t200 => ((omnibusref11_Active.f x167000 x167001 ((rd_T30 x94 x96).f0)).bind fun t201 => (if (t200 != t201) = true then (some false) else (omnibuslaw11_LatticeTells.l1 k x3 x4 x5 x13 x44 x45 x46 x94 x95 (wrap64 (x96 + 1)) x167000 x167001)))) else (some false)) else (some false)) else (some false)) else (some false)) else (some false)) else (some false)) else (some false)) else (some false)))))))))) else (none)) else (none)) else (omnibuslaw11_LatticeTells.l0 k x3 x4 x5 x13 x44 x45 (wrap64 (x46 + 1)))
end
def omnibuslaw11_LatticeTells.f (k : Nat) (a0_0 : Int) (a0_1 : Int) (a1 : Int) (a2 : Int) (a3 : Int) (a4 : Int) (a5 : Int) : Option (Bool) := (omnibuslaw11_awake.f).bind fun t155 => ((omnibuslaw11_Lattice.f a1 a2).bind fun bt156 => ((omnibuslaw11_pick.f a1 9).bind fun t158 => ((omnibuslaw11_pick.f a2 9).bind fun t159 => ((omnibuslaw11_Lattice.f t158 t159).bind fun bt160 => ((some (([(⟨a0_0, a0_1⟩ : S23), (⟨bt156.1, bt156.2⟩ : S23), (⟨bt160.1, bt160.2⟩ : S23)] : List (S23)) : List (S23))).bind fun y162 => (omnibuslaw11_LatticeTells.l0 k a3 a4 a5 t155 y162 (y162.length : Int) 0))))))
theorem omnibuslaw11_LatticeTells.mono_l : ∀ k, (∀ y0 y1 y2 y3 y4 y5 y6, LeO (omnibuslaw11_LatticeTells.l0 k y0 y1 y2 y3 y4 y5 y6) (omnibuslaw11_LatticeTells.l0 (k + 1) y0 y1 y2 y3 y4 y5 y6)) ∧ (∀ y0 y1 y2 y3 y4 y5 y6 y7 y8 y9, LeO (omnibuslaw11_LatticeTells.j1 k y0 y1 y2 y3 y4 y5 y6 y7 y8 y9) (omnibuslaw11_LatticeTells.j1 (k + 1) y0 y1 y2 y3 y4 y5 y6 y7 y8 y9)) ∧ (∀ y0 y1 y2 y3 y4 y5 y6 y7 y8 y9 y10 y11, LeO (omnibuslaw11_LatticeTells.l1 k y0 y1 y2 y3 y4 y5 y6 y7 y8 y9 y10 y11) (omnibuslaw11_LatticeTells.l1 (k + 1) y0 y1 y2 y3 y4 y5 y6 y7 y8 y9 y10 y11))
  | 0 => ⟨fun _ _ _ _ _ _ _ r h => by simp [omnibuslaw11_LatticeTells.l0] at h, fun _ _ _ _ _ _ _ _ _ _ r h => by simp [omnibuslaw11_LatticeTells.j1] at h, fun _ _ _ _ _ _ _ _ _ _ _ _ r h => by simp [omnibuslaw11_LatticeTells.l1] at h⟩
  | k + 1 => by
    obtain ⟨ih0, ih1, ih2⟩ := omnibuslaw11_LatticeTells.mono_l k
    refine ⟨?_, ?_, ?_⟩
    · intro y0 y1 y2 y3 y4 y5 y6
      unfold omnibuslaw11_LatticeTells.l0
      repeat' first
      | (with_reducible exact ih0 _ _ _ _ _ _ _)
      | (with_reducible exact ih1 _ _ _ _ _ _ _ _ _ _)
      | (with_reducible exact ih2 _ _ _ _ _ _ _ _ _ _ _ _)
      | (with_reducible exact omnibusref11_Order.mono _ _ _ _ _)
      | (with_reducible exact LeO.refl _)
      | (with_reducible exact LeO.none _)
      | (with_reducible refine LeO.ite ?_ ?_)
      | (with_reducible refine LeO.bind ?_ (fun _ => ?_))
      | exact ih0 _ _ _ _ _ _ _
      | exact ih1 _ _ _ _ _ _ _ _ _ _
      | exact ih2 _ _ _ _ _ _ _ _ _ _ _ _
      | exact omnibusref11_Order.mono _ _ _ _ _
      | exact LeO.none _
      | refine LeO.ite ?_ ?_
      | refine LeO.bind ?_ (fun _ => ?_)
    · intro y0 y1 y2 y3 y4 y5 y6 y7 y8 y9
      unfold omnibuslaw11_LatticeTells.j1
      repeat' first
      | (with_reducible exact ih0 _ _ _ _ _ _ _)
      | (with_reducible exact ih1 _ _ _ _ _ _ _ _ _ _)
      | (with_reducible exact ih2 _ _ _ _ _ _ _ _ _ _ _ _)
      | (with_reducible exact omnibusref11_Order.mono _ _ _ _ _)
      | (with_reducible exact LeO.refl _)
      | (with_reducible exact LeO.none _)
      | (with_reducible refine LeO.ite ?_ ?_)
      | (with_reducible refine LeO.bind ?_ (fun _ => ?_))
      | exact ih0 _ _ _ _ _ _ _
      | exact ih1 _ _ _ _ _ _ _ _ _ _
      | exact ih2 _ _ _ _ _ _ _ _ _ _ _ _
      | exact omnibusref11_Order.mono _ _ _ _ _
      | exact LeO.none _
      | refine LeO.ite ?_ ?_
      | refine LeO.bind ?_ (fun _ => ?_)
    · intro y0 y1 y2 y3 y4 y5 y6 y7 y8 y9 y10 y11
      unfold omnibuslaw11_LatticeTells.l1
      repeat' first
      | (with_reducible exact ih0 _ _ _ _ _ _ _)
      | (with_reducible exact ih1 _ _ _ _ _ _ _ _ _ _)
      | (with_reducible exact ih2 _ _ _ _ _ _ _ _ _ _ _ _)
      | (with_reducible exact omnibusref11_Order.mono _ _ _ _ _)
      | (with_reducible exact LeO.refl _)
      | (with_reducible exact LeO.none _)
      | (with_reducible refine LeO.ite ?_ ?_)
      | (with_reducible refine LeO.bind ?_ (fun _ => ?_))
      | exact ih0 _ _ _ _ _ _ _
      | exact ih1 _ _ _ _ _ _ _ _ _ _
      | exact ih2 _ _ _ _ _ _ _ _ _ _ _ _
      | exact omnibusref11_Order.mono _ _ _ _ _
      | exact LeO.none _
      | refine LeO.ite ?_ ?_
      | refine LeO.bind ?_ (fun _ => ?_)
theorem omnibuslaw11_LatticeTells.mono : ∀ a0 a1 a2 a3 a4 a5 a6 k, LeO (omnibuslaw11_LatticeTells.f k a0 a1 a2 a3 a4 a5 a6) (omnibuslaw11_LatticeTells.f (k + 1) a0 a1 a2 a3 a4 a5 a6) := by
  intro a0 a1 a2 a3 a4 a5 a6 k
  obtain ⟨ih0, ih1, ih2⟩ := omnibuslaw11_LatticeTells.mono_l k
  unfold omnibuslaw11_LatticeTells.f
  repeat' first
      | (with_reducible exact ih0 _ _ _ _ _ _ _)
      | (with_reducible exact ih1 _ _ _ _ _ _ _ _ _ _)
      | (with_reducible exact ih2 _ _ _ _ _ _ _ _ _ _ _ _)
      | (with_reducible exact omnibusref11_Order.mono _ _ _ _ _)
      | (with_reducible exact LeO.refl _)
      | (with_reducible exact LeO.none _)
      | (with_reducible refine LeO.ite ?_ ?_)
      | (with_reducible refine LeO.bind ?_ (fun _ => ?_))
      | exact ih0 _ _ _ _ _ _ _
      | exact ih1 _ _ _ _ _ _ _ _ _ _
      | exact ih2 _ _ _ _ _ _ _ _ _ _ _ _
      | exact omnibusref11_Order.mono _ _ _ _ _
      | exact LeO.none _
      | refine LeO.ite ?_ ?_
      | refine LeO.bind ?_ (fun _ => ?_)
def omnibuslaw11_LatticeTells.T2 : Bool × List (List Nat × List Nat) := (true, [([], []), ([], []), ([], []), ([1, 2], [1, 2]), ([], []), ([4, 3], [4]), ([], []), ([6, 5], [6]), ([5, 7, 7], [5, 7]), ([0, 3, 8], [0, 3, 8]), ([9], [9]), ([], [])])
def omnibuslaw11_LatticeTells.B2 : List Nat := [0, 0, 0, 6, 0, 30, 0, 126, 254, 511, 1023, 0]
theorem omnibuslaw11_LatticeTells.tab2 : rtab .any (opsOf Try.f3 2) = omnibuslaw11_LatticeTells.T2 := by kernel_rfl
theorem omnibuslaw11_LatticeTells.bits2 : waitsOk omnibuslaw11_LatticeTells.T2.2 omnibuslaw11_LatticeTells.B2 = true := by kernel_rfl
def omnibuslaw11_LatticeTells.T5 : Bool × List (List Nat × List Nat) := (true, [([], []), ([0], [0]), ([], []), ([2, 1], [2]), ([1, 3], [1, 3]), ([4, 3], [4]), ([5], [5]), ([5], [5]), ([6, 7, 5, 5], [5, 6, 7]), ([5], [5]), ([5], [5]), ([9, 10, 8, 5], [5, 9, 10]), ([8, 11, 5], [5, 8, 11]), ([5, 12], [5, 12]), ([13, 11], [13]), ([14], [14]), ([14], [14]), ([16, 14, 14], [14, 16]), ([17, 14], [14, 17]), ([15, 18, 17, 14], [14, 15, 18]), ([14], [14]), ([14], [14]), ([21, 19, 14], [14, 21]), ([22, 14], [14, 22]), ([20, 23, 22, 14], [14, 20, 23]), ([19, 24, 14], [14, 19, 24]), ([14, 25], [14, 25])])
def omnibuslaw11_LatticeTells.B5 : List Nat := [0, 1, 0, 7, 15, 31, 63, 63, 255, 63, 63, 2047, 4095, 8191, 16383, 32767, 32767, 98303, 229375, 524287, 32767, 32767, 3145727, 7340031, 16777215, 33554431, 67108863]
theorem omnibuslaw11_LatticeTells.tab5 : rtab .any (opsOf Try.f3 5) = omnibuslaw11_LatticeTells.T5 := by kernel_rfl
theorem omnibuslaw11_LatticeTells.bits5 : waitsOk omnibuslaw11_LatticeTells.T5.2 omnibuslaw11_LatticeTells.B5 = true := by kernel_rfl
def omnibuslaw11_LatticeTells.T18 : Bool × List (List Nat × List Nat) := (true, [([], []), ([], []), ([0, 1], [0, 1]), ([2], [2]), ([3], [3]), ([3], [3]), ([4, 5, 3], [3, 4, 5]), ([3, 6], [3, 6]), ([7, 3], [7]), ([8], [8]), ([8], [8]), ([9, 10, 8], [8, 9, 10]), ([8, 11], [8, 11]), ([12, 8], [12]), ([13], [13]), ([13], [13]), ([14, 15, 13], [13, 14, 15]), ([13, 16], [13, 16]), ([17, 13], [17]), ([18], [18]), ([18], [18]), ([19, 20, 18], [18, 19, 20]), ([18, 21], [18, 21]), ([22, 18], [22]), ([23], [23]), ([23], [23]), ([24, 25, 23], [23, 24, 25]), ([23, 26], [23, 26]), ([27, 23], [27]), ([28], [28]), ([28], [28]), ([29, 30, 28], [28, 29, 30]), ([28, 31], [28, 31]), ([32, 28], [32]), ([33], [33]), ([33], [33]), ([34, 35, 33], [33, 34, 35]), ([33, 36], [33, 36]), ([37, 33], [37]), ([38], [38]), ([38], [38]), ([40, 38], [38, 40]), ([39, 41, 38, 38], [38, 39, 41]), ([38], [38]), ([38], [38]), ([44, 38], [38, 44]), ([43, 45, 42, 38], [38, 43, 45]), ([42, 46, 38], [38, 42, 46]), ([38, 47], [38, 47])])
def omnibuslaw11_LatticeTells.B18 : List Nat := [0, 0, 3, 7, 15, 15, 63, 127, 255, 511, 511, 2047, 4095, 8191, 16383, 16383, 65535, 131071, 262143, 524287, 524287, 2097151, 4194303, 8388607, 16777215, 16777215, 67108863, 134217727, 268435455, 536870911, 536870911, 2147483647, 4294967295, 8589934591, 17179869183, 17179869183, 68719476735, 137438953471, 274877906943, 549755813887, 549755813887, 1649267441663, 4398046511103, 549755813887, 549755813887, 18141941858303, 70368744177663, 140737488355327, 281474976710655]
theorem omnibuslaw11_LatticeTells.tab18 : rtab .any (opsOf Try.f3 18) = omnibuslaw11_LatticeTells.T18 := by kernel_rfl
theorem omnibuslaw11_LatticeTells.bits18 : waitsOk omnibuslaw11_LatticeTells.T18.2 omnibuslaw11_LatticeTells.B18 = true := by kernel_rfl
theorem tells_j1 {k : Nat} {x3 x4 x5 : Int} {x13 : Bool} {x44 : List S23} {x45 x46 a b : Int} {r : Bool} (h : omnibuslaw11_LatticeTells.j1 k x3 x4 x5 x13 x44 x45 x46 true a b = some r) : false = r := by
  cases k with
  | zero => simp [omnibuslaw11_LatticeTells.j1] at h
  | succ k =>
    rw [omnibuslaw11_LatticeTells.j1, if_pos rfl] at h
    exact Option.some.inj h
set_option maxHeartbeats 8000000 in
set_option maxRecDepth 100000 in
theorem omnibuslaw11_LatticeTells.calls (k : Nat) (a0_0 : Int) (a0_1 : Int) (a1 : Int) (a2 : Int) (a3 : Int) (a4 : Int) (a5 : Int) (r : Bool) (w : World) (h : omnibuslaw11_LatticeTells.f k a0_0 a0_1 a1 a2 a3 a4 a5 = some r) (hr_ : r = true) :
    Calls Try.prog 3 #[.agg #[.int .i64 a0_0, .int .i64 a0_1], .int .i64 a1, .int .i64 a2, .int .i64 a3, .int .i64 a4, .int .i64 a5] w fun e w' => e = .returned (.bool r) ∧ Below w.heap.size w w' := by
  have hu23 := Try.underlying23
  have hu30 := Try.underlying30
  have HT := Aside0.mk hr_
  clear hr_
  have HB := Aside0.mk (Below.refl w.heap.size w)
  have H : ((omnibuslaw11_awake.f).bind fun t155 => ((omnibuslaw11_Lattice.f a1 a2).bind fun bt156 => ((omnibuslaw11_pick.f a1 9).bind fun t158 => ((omnibuslaw11_pick.f a2 9).bind fun t159 => ((omnibuslaw11_Lattice.f t158 t159).bind fun bt160 => ((some (([(⟨a0_0, a0_1⟩ : S23), (⟨bt156.1, bt156.2⟩ : S23), (⟨bt160.1, bt160.2⟩ : S23)] : List (S23)) : List (S23))).bind fun y162 => (omnibuslaw11_LatticeTells.l0 k a3 a4 a5 t155 y162 (y162.length : Int) 0))))))) = some r := h
  clear h
  replace H := Option.bind_eq_some_iff.mp H
  obtain ⟨t155, A70, H⟩ := H
  replace H : ((omnibuslaw11_Lattice.f a1 a2).bind fun bt156 => ((omnibuslaw11_pick.f a1 9).bind fun t158 => ((omnibuslaw11_pick.f a2 9).bind fun t159 => ((omnibuslaw11_Lattice.f t158 t159).bind fun bt160 => ((some (([(⟨a0_0, a0_1⟩ : S23), (⟨bt156.1, bt156.2⟩ : S23), (⟨bt160.1, bt160.2⟩ : S23)] : List (S23)) : List (S23))).bind fun y162 => (omnibuslaw11_LatticeTells.l0 k a3 a4 a5 t155 y162 (y162.length : Int) 0)))))) = some r := H
  have A7 := Aside0.mk A70
  clear A70
  replace H := Option.bind_eq_some_iff.mp H
  obtain ⟨⟨t156, t157⟩, A80, H⟩ := H
  replace H : ((omnibuslaw11_pick.f a1 9).bind fun t158 => ((omnibuslaw11_pick.f a2 9).bind fun t159 => ((omnibuslaw11_Lattice.f t158 t159).bind fun bt160 => ((some (([(⟨a0_0, a0_1⟩ : S23), (⟨t156, t157⟩ : S23), (⟨bt160.1, bt160.2⟩ : S23)] : List (S23)) : List (S23))).bind fun y162 => (omnibuslaw11_LatticeTells.l0 k a3 a4 a5 t155 y162 (y162.length : Int) 0))))) = some r := H
  have A8 := Aside0.mk A80
  clear A80
  replace H := Option.bind_eq_some_iff.mp H
  obtain ⟨t158, A90, H⟩ := H
  replace H : ((omnibuslaw11_pick.f a2 9).bind fun t159 => ((omnibuslaw11_Lattice.f t158 t159).bind fun bt160 => ((some (([(⟨a0_0, a0_1⟩ : S23), (⟨t156, t157⟩ : S23), (⟨bt160.1, bt160.2⟩ : S23)] : List (S23)) : List (S23))).bind fun y162 => (omnibuslaw11_LatticeTells.l0 k a3 a4 a5 t155 y162 (y162.length : Int) 0)))) = some r := H
  have A9 := Aside0.mk A90
  clear A90
  replace H := Option.bind_eq_some_iff.mp H
  obtain ⟨t159, A100, H⟩ := H
  replace H : ((omnibuslaw11_Lattice.f t158 t159).bind fun bt160 => ((some (([(⟨a0_0, a0_1⟩ : S23), (⟨t156, t157⟩ : S23), (⟨bt160.1, bt160.2⟩ : S23)] : List (S23)) : List (S23))).bind fun y162 => (omnibuslaw11_LatticeTells.l0 k a3 a4 a5 t155 y162 (y162.length : Int) 0))) = some r := H
  have A10 := Aside0.mk A100
  clear A100
  replace H := Option.bind_eq_some_iff.mp H
  obtain ⟨⟨t160, t161⟩, A110, H⟩ := H
  replace H : ((some (([(⟨a0_0, a0_1⟩ : S23), (⟨t156, t157⟩ : S23), (⟨t160, t161⟩ : S23)] : List (S23)) : List (S23))).bind fun y162 => (omnibuslaw11_LatticeTells.l0 k a3 a4 a5 t155 y162 (y162.length : Int) 0)) = some r := H
  have A11 := Aside0.mk A110
  clear A110
  obtain ⟨y162, hy162⟩ : ∃ y_ : List (S23), y_ = (([(⟨a0_0, a0_1⟩ : S23), (⟨t156, t157⟩ : S23), (⟨t160, t161⟩ : S23)] : List (S23))) := ⟨_, rfl⟩
  replace H : (omnibuslaw11_LatticeTells.l0 k a3 a4 a5 t155 y162 (y162.length : Int) 0) = some r := by first | (rw [hy162]; with_reducible exact H) | (have H2_ := (Option.bind_some _ _).symm.trans H; rw [hy162]; with_reducible exact H2_) | (have H2_ := (Option.bind_some _ _).symm.trans H; with_reducible exact H2_) | with_reducible exact H | (rw [hy162]; exact H) | exact H
  have Ny162 := Aside0.mk hy162
  clear hy162
  have H' := Aside0.mk H
  clear H
  go_enter Try.func3, Try.ntmps3
  try go_wp2_with (first | ((with_reducible refine gate_dst (N := 6) rfl ?_); refine box_event ?hg (N := 6) ?hd (cs := #[.int .i64 a0_0, .int .i64 a0_1]) (t := 23) ?hr ?_; (case hd => rfl); (case hg => rfl); (case hr => first | (go_simp; done) | (go_simp; rfl)); intro gb154 hg w12 hbox hb; have n0_ := Aside0.mk (below_step (by repeat (first | (with_reducible first | exact HB.out | apply below_alloc | apply pw_below_drewN | apply below_drew1) | exact HB.out)) hb); have n1_ := Aside0.mk (hbox); have n2_ := Aside0.mk ((by rw [hg]; exact (below_size (by repeat (first | (with_reducible first | exact HB.out | apply below_alloc | apply pw_below_drewN | apply below_drew1) | exact HB.out))) : w.heap.size ≤ gb154)); have n3_ := Aside0.mk ((by rw [hg]; exact (below_size (by repeat (first | (with_reducible first | exact HB.out | apply below_alloc | apply pw_below_drewN | apply below_drew1) | exact HB.out))) : w.heap.size ≤ gb154)); clear HB; have HB := n0_; have BK154 := n1_; have GW154 := n2_; have GE154 := n3_; clear n0_ n1_ n2_ n3_; clear hb hbox hg) | ((with_reducible refine gate_callee (f := 9) rfl ?_); refine goesL_ (some 34) rfl rfl Try.func9 (by kernel_rfl) rfl #[] rfl (by (try simp only [List.map_toArray, List.map_cons, List.map_nil]); first | done | rfl | (simp only [List.length_drop, List.length_take]; rfl)) ?_; (with_reducible refine (omnibuslaw11_awake.calls  t155 _ A7.out).mono ?_); rintro e w13 ⟨rfl, hb⟩; refine ⟨_, rfl, ?_⟩; have n0_ := Aside0.mk (blk_below (g := gb154) (o := .cells #[.int .i64 a0_0, .int .i64 a0_1] 23 (0, 0)) (by (with_reducible repeat (first | refine blk_drewN ?_ _ | refine blk_drew ?_ | refine blk_alloc ?_ _)); exact BK154.out) hb); have n1_ := Aside0.mk (below_step (by repeat (first | (with_reducible first | exact HB.out | apply below_alloc | apply pw_below_drewN | apply below_drew1 | refine below_set ?_ GE154.out) | exact HB.out)) hb); clear BK154; clear HB; have BK154 := n0_; have HB := n1_; clear n0_ n1_; (try clear hb); (try clear hb2); (try clear hk); (try clear hi)))
  have n0_ := Aside0.mk (blk_drew BK154.out)
  have n1_ := Aside0.mk (below_drew1 HB.out)
  clear BK154
  clear HB
  have BK154 := n0_
  have HB := n1_
  clear n0_ n1_
  refine start_ (n := 12) (S := fun w' => w'.cell? ⟨gb154, 0, none⟩ = some (.int .i64 a0_0) ∧ w'.cell? ⟨gb154, 1, none⟩ = some (.int .i64 a0_1)) (ds := []) #[false, false, false, false, false, false, false, false, false, false, false, false] (by kernel_rfl) rfl rfl ⟨(blk_cell BK154.out 0).trans rfl, (blk_cell BK154.out 1).trans rfl⟩ (fun hHeld => ?_); refine with_tabW omnibuslaw11_LatticeTells.tab2 omnibuslaw11_LatticeTells.bits2 (fun HT_ HW_ => ?_)
  generalize w13.drew = w14 at BK154 HB hHeld ⊢
  refine pure_ (i := 1) (N := some 36) (v := ?_) (a' := ?_) #[false, true, false, false, false, false, false, false, false, false, false, false] rfl rfl (any_of HT_.out (by kernel_rfl)) (fun _ _ _ h => h) (Or.inl ⟨by rfl, ?_⟩) ?_ ?_
  rotate_left
  · intro w'
    go_simp
    with_reducible rfl
  rotate_left
  · simp only [Act.put, List.setIfInBounds_toArray, List.set_cons_zero, List.set_cons_succ, i64_w, i32_w]
    rfl
  refine pure_ (i := 2) (N := some 37) (v := ?_) (a' := ?_) #[false, true, true, false, false, false, false, false, false, false, false, false] rfl rfl (any_of HT_.out (by kernel_rfl)) (fun _ _ _ h => h) (Or.inl ⟨by rfl, ?_⟩) ?_ ?_
  rotate_left
  · intro w'
    go_simp
    with_reducible rfl
  rotate_left
  · simp only [Act.put, List.setIfInBounds_toArray, List.set_cons_zero, List.set_cons_succ, i64_w, i32_w]
    rfl
  refine pure_ (i := 4) (N := some 39) (v := ?_) (a' := ?_) #[false, true, true, false, true, false, false, false, false, false, false, false] rfl rfl (any_of HT_.out (by kernel_rfl)) (fun _ _ _ h => h) (Or.inl ⟨by rfl, ?_⟩) ?_ ?_
  rotate_left
  · intro w'
    go_simp
    with_reducible rfl
  rotate_left
  · simp only [Act.put, List.setIfInBounds_toArray, List.set_cons_zero, List.set_cons_succ, i64_w, i32_w]
    rfl
  refine pure_ (i := 6) (N := some 41) (v := ?_) (a' := ?_) #[false, true, true, false, true, false, true, false, false, false, false, false] rfl rfl (any_of HT_.out (by kernel_rfl)) (fun _ _ _ h => h) (Or.inl ⟨by rfl, ?_⟩) ?_ ?_
  rotate_left
  · intro w'
    go_simp
    with_reducible rfl
  rotate_left
  · simp only [Act.put, List.setIfInBounds_toArray, List.set_cons_zero, List.set_cons_succ, i64_w, i32_w]
    rfl
  refine pure_ (i := 11) (N := some 46) (v := ?_) (a' := ?_) #[false, true, true, false, true, false, true, false, false, false, false, true] rfl rfl (any_of HT_.out (by kernel_rfl)) (fun _ _ _ h => h) (Or.inl ⟨by rfl, ?_⟩) ?_ ?_
  rotate_left
  · intro w'
    go_simp
    with_reducible rfl
  rotate_left
  · simp only [Act.put, List.setIfInBounds_toArray, List.set_cons_zero, List.set_cons_succ, i64_w, i32_w]
    rfl
  refine take_ (i := 0) (N := some 35) (v := ?_) (a' := ?_) #[true, true, true, false, true, false, true, false, false, false, false, true] rfl rfl (take_ofW HT_.out HW_.out (by kernel_rfl)) (fun _ _ _ h => h) (Or.inl ⟨by rfl, ?_⟩) hHeld ?_ ?_
  rotate_left
  · rintro w' ⟨s0, s1⟩
    go_simp
    with_reducible rfl
  rotate_left
  · simp only [Act.put, List.setIfInBounds_toArray, List.set_cons_zero, List.set_cons_succ, i64_w, i32_w]
    rfl
  refine one_ (i := 3) (N := some 38) #[true, true, true, true, true, false, true, false, false, false, false, true] rfl rfl (one_of HT_.out (by kernel_rfl)) (by decide) (fun K hK => ?_)
  refine goes_ Try.func10 (by kernel_rfl) rfl #[.int .i64 a1, .int .i64 a2] (by rfl) rfl rfl (by (try simp only [List.map_toArray, List.map_cons, List.map_nil]); first | done | rfl | (simp only [List.length_drop, List.length_take]; rfl)) ?_
  with_reducible refine (omnibuslaw11_Lattice.calls a1 a2 t156 t157 _ A8.out).mono ?_
  rintro e w15 ⟨rfl, hb⟩
  refine ⟨_, rfl, ?_⟩
  have n0_ := Aside0.mk (blk_below (g := gb154) (o := .cells #[.int .i64 a0_0, .int .i64 a0_1] 23 (0, 0)) (by (with_reducible repeat (first | refine blk_drewN ?_ _ | refine blk_drew ?_ | refine blk_alloc ?_ _)); exact BK154.out) hb)
  have n1_ := Aside0.mk (below_step (by repeat (first | (with_reducible first | exact HB.out | apply below_alloc | apply pw_below_drewN | apply below_drew1 | refine below_set ?_ GE154.out) | exact HB.out)) hb)
  clear BK154
  clear HB
  have BK154 := n0_
  have HB := n1_
  clear n0_ n1_
  (try clear hb)
  (try clear hb2)
  (try clear hk)
  (try clear hi)
  refine hK.out _ _ ⟨(blk_cell BK154.out 0).trans rfl, (blk_cell BK154.out 1).trans rfl⟩ (fun hHeld => ?_)
  clear hK K
  refine norm_ (a' := ?_) ?_ ?_
  rotate_left
  · show Act.put _ (some 38) _ = _
    simp only [Act.put, List.setIfInBounds_toArray, List.set_cons_zero, List.set_cons_succ, i64_w, i32_w]
    rfl
  refine one_ (i := 5) (N := some 40) #[true, true, true, true, true, true, true, false, false, false, false, true] rfl rfl (one_of HT_.out (by kernel_rfl)) (by decide) (fun K hK => ?_)
  refine goes_ Try.func11 (by kernel_rfl) rfl #[.int .i64 a1, .int .i64 9] (by rfl) rfl rfl (by (try simp only [List.map_toArray, List.map_cons, List.map_nil]); first | done | rfl | (simp only [List.length_drop, List.length_take]; rfl)) ?_
  with_reducible refine (omnibuslaw11_pick.calls a1 9 t158 _ A9.out).mono ?_
  rintro e w' ⟨rfl, ⟨nd, rfl⟩⟩
  refine ⟨_, rfl, ?_⟩
  refine hK.out _ _ ⟨(blk_cell BK154.out 0).trans rfl, (blk_cell BK154.out 1).trans rfl⟩ (fun hHeld => ?_)
  clear hK K
  refine norm_ (a' := ?_) ?_ ?_
  rotate_left
  · show Act.put _ (some 40) _ = _
    simp only [Act.put, List.setIfInBounds_toArray, List.set_cons_zero, List.set_cons_succ, i64_w, i32_w]
    rfl
  refine one_ (i := 7) (N := some 42) #[true, true, true, true, true, true, true, true, false, false, false, true] rfl rfl (one_of HT_.out (by kernel_rfl)) (by decide) (fun K hK => ?_)
  refine goes_ Try.func11 (by kernel_rfl) rfl #[.int .i64 a2, .int .i64 9] (by rfl) rfl rfl (by (try simp only [List.map_toArray, List.map_cons, List.map_nil]); first | done | rfl | (simp only [List.length_drop, List.length_take]; rfl)) ?_
  with_reducible refine (omnibuslaw11_pick.calls a2 9 t159 _ A10.out).mono ?_
  rintro e w' ⟨rfl, ⟨nd, rfl⟩⟩
  refine ⟨_, rfl, ?_⟩
  refine hK.out _ _ ⟨(blk_cell BK154.out 0).trans rfl, (blk_cell BK154.out 1).trans rfl⟩ (fun hHeld => ?_)
  clear hK K
  refine norm_ (a' := ?_) ?_ ?_
  rotate_left
  · show Act.put _ (some 42) _ = _
    simp only [Act.put, List.setIfInBounds_toArray, List.set_cons_zero, List.set_cons_succ, i64_w, i32_w]
    rfl
  refine one_ (i := 8) (N := some 43) #[true, true, true, true, true, true, true, true, true, false, false, true] rfl rfl (one_of HT_.out (by kernel_rfl)) (by decide) (fun K hK => ?_)
  refine goes_ Try.func10 (by kernel_rfl) rfl #[.int .i64 t158, .int .i64 t159] (by rfl) rfl rfl (by (try simp only [List.map_toArray, List.map_cons, List.map_nil]); first | done | rfl | (simp only [List.length_drop, List.length_take]; rfl)) ?_
  with_reducible refine (omnibuslaw11_Lattice.calls t158 t159 t160 t161 _ A11.out).mono ?_
  rintro e w16 ⟨rfl, hb⟩
  refine ⟨_, rfl, ?_⟩
  have n0_ := Aside0.mk (blk_below (g := gb154) (o := .cells #[.int .i64 a0_0, .int .i64 a0_1] 23 (0, 0)) (by (with_reducible repeat (first | refine blk_drewN ?_ _ | refine blk_drew ?_ | refine blk_alloc ?_ _)); exact BK154.out) hb)
  have n1_ := Aside0.mk (below_step (by repeat (first | (with_reducible first | exact HB.out | apply below_alloc | apply pw_below_drewN | apply below_drew1 | refine below_set ?_ GE154.out) | exact HB.out)) hb)
  clear BK154
  clear HB
  have BK154 := n0_
  have HB := n1_
  clear n0_ n1_
  (try clear hb)
  (try clear hb2)
  (try clear hk)
  (try clear hi)
  refine hK.out _ _ ⟨(blk_cell BK154.out 0).trans rfl, (blk_cell BK154.out 1).trans rfl⟩ (fun hHeld => ?_)
  clear hK K
  refine norm_ (a' := ?_) ?_ ?_
  rotate_left
  · show Act.put _ (some 43) _ = _
    simp only [Act.put, List.setIfInBounds_toArray, List.set_cons_zero, List.set_cons_succ, i64_w, i32_w]
    rfl
  refine one_ (i := 9) (N := some 44) #[true, true, true, true, true, true, true, true, true, true, false, true] rfl rfl (one_of HT_.out (by kernel_rfl)) (by decide) (fun K hK => ?_)
  refine Kd.R_lit_step k23 _ 23 ?hg (N := 44) ?hd (xs := ([(⟨a0_0, a0_1⟩ : S23), (⟨t156, t157⟩ : S23), (⟨t160, t161⟩ : S23)] : List (S23))) (inner := [.int .i64 a0_0, .int .i64 a0_1, .int .i64 t156, .int .i64 t157, .int .i64 t160, .int .i64 t161]) (ok := fun _ => True) (okp := fun _ => True) ?hr ?hp (fun _ hk => hk) trivial (Below.refl _ _) (Nat.le_refl _) (by simp) ?_; (case hd => rfl); (case hg => rfl); (case hr => first | (go_simp; done) | (go_simp; rfl)); (case hp => exact (Reps.c2 (show Kd.M k23 _ _ _ (⟨a0_0, a0_1⟩ : S23) [.int .i64 a0_0, .int .i64 a0_1] from (k23_mkM _ _ _ (⟨a0_0, a0_1⟩ : S23) )) (Reps.c2 (show Kd.M k23 _ _ _ (⟨t156, t157⟩ : S23) [.int .i64 t156, .int .i64 t157] from (k23_mkM _ _ _ (⟨t156, t157⟩ : S23) )) (Reps.c2 (show Kd.M k23 _ _ _ (⟨t160, t161⟩ : S23) [.int .i64 t160, .int .i64 t161] from (k23_mkM _ _ _ (⟨t160, t161⟩ : S23) )) (Reps.none _ _)))))
  intro v163 w17 ho18 hb hg_ hnew_
  clear hg_ hnew_
  (first | rw [← Ny162.out] at ho18 | (simp only [Int.reduceToNat] at ho18; rw [← Ny162.out] at ho18))
  have n0_ := Aside0.mk (Kd.R_lower (Kd.R_newB ho18 (g := gb154) (o := .cells #[.int .i64 a0_0, .int .i64 a0_1] 23 (0, 0)) (by (with_reducible repeat (first | refine blk_drewN ?_ _ | refine blk_drew ?_ | refine blk_alloc ?_ _)); exact BK154.out)) (below_size (by repeat (first | (with_reducible first | exact HB.out | apply below_alloc | apply pw_below_drewN | apply below_drew1 | refine below_set ?_ GE154.out) | exact HB.out))))
  have n1_ := Aside0.mk (blk_below (g := gb154) (o := .cells #[.int .i64 a0_0, .int .i64 a0_1] 23 (0, 0)) (by (with_reducible repeat (first | refine blk_drewN ?_ _ | refine blk_drew ?_ | refine blk_alloc ?_ _)); exact BK154.out) hb)
  have n2_ := Aside0.mk (below_step (by repeat (first | (with_reducible first | exact HB.out | apply below_alloc | apply pw_below_drewN | apply below_drew1 | refine below_set ?_ GE154.out) | exact HB.out)) hb)
  clear BK154
  clear HB
  have HO164 := n0_
  have BK154 := n1_
  have HB := n2_
  clear n0_ n1_ n2_
  clear hb ho18
  obtain ⟨Ao19, co19, eo19⟩ := Kd.R_slice HO164.out
  (first | subst eo19 | (injection eo19 with f1_ f2_ f3_; have f4_ := f1_.symm; have f5_ := f3_.symm; clear f1_ f2_ f3_; subst f4_; subst f5_))
  refine hK.out _ _ ⟨(blk_cell BK154.out 0).trans rfl, (blk_cell BK154.out 1).trans rfl⟩ (fun hHeld => ?_)
  clear hK K
  refine norm_ (a' := ?_) ?_ ?_
  rotate_left
  · show Act.put _ (some 44) _ = _
    simp only [Act.put, List.setIfInBounds_toArray, List.set_cons_zero, List.set_cons_succ, i64_w, i32_w]
    rfl
  refine pure_ (i := 10) (N := some 45) (v := ?_) (a' := ?_) #[true, true, true, true, true, true, true, true, true, true, true, true] rfl rfl (any_of HT_.out (by kernel_rfl)) (fun _ _ _ h => h) (Or.inl ⟨by rfl, ?_⟩) ?_ ?_
  rotate_left
  · intro w'
    go_simp
    with_reducible rfl
  rotate_left
  · simp only [Act.put, List.setIfInBounds_toArray, List.set_cons_zero, List.set_cons_succ, i64_w, i32_w]
    rfl
  refine done_ (done_of HT_.out (by kernel_rfl)) ?_
  try go_wp2
  go_loopg [46] k (fun kq v46 w' => ∃ (x46_1 : Int), v46 = .int .i64 x46_1 ∧ Aside0 (omnibuslaw11_LatticeTells.l0 kq a3 a4 a5 t155 y162 (y162.length : Int) x46_1 = some r) ∧ Aside0 (kq ≤ k) ∧ Aside0 (Kd.R k23 23 w' w.heap.size (fun k_ => k_ ≠ gb154) (.slice Ao19 y162.length co19) y162) ∧ Aside0 (w'.heap[gb154]? = some (.cells #[.int .i64 a0_0, .int .i64 a0_1] 23 (0, 0))) ∧ Aside0 (Below w.heap.size w w'))
  case atStart => exact ⟨(0), (by first | rfl | (simp; done) | (simp [*]; done)), H', ⟨Nat.le_refl _⟩, ⟨by (with_reducible repeat (first | apply Kd.R_alloc | apply Kd.R_drewN | apply Kd.R_drew)); exact Kd.R_mono HO164.out (fun _ hk => hk.2)⟩, ⟨by (with_reducible repeat (first | refine blk_drewN ?_ _ | refine blk_drew ?_ | refine blk_alloc ?_ _)); exact BK154.out⟩, ⟨by repeat (first | (with_reducible first | exact HB.out | apply below_alloc | apply pw_below_drewN | apply below_drew1 | refine below_set ?_ GE154.out) | exact HB.out)⟩⟩
  case round =>
    clear H'
    try clear c1
    try clear c2
    try clear p2
    try clear c3
    try clear c9
    try clear c10
    try clear c11
    obtain ⟨x46_1, rfl, HA, HK1, HO_44, BK154, HB⟩ := hrel
    cases gk with
    | zero => exact absurd HA.out (by simp [omnibuslaw11_LatticeTells.l0])
    | succ k1 =>
      have H := HA.out
      clear HA
      simp only [omnibuslaw11_LatticeTells.l0] at H
      by_cases c20 : x46_1 < (y162.length : Int)
      · rw [if_pos c20] at H
        have c20b0 : decide (x46_1 < (y162.length : Int)) = true := decide_eq_true c20
        clear c20
        by_cases c21 : 0 ≤ x46_1
        · rw [if_pos c21] at H
          have c21b0 : decide (0 ≤ x46_1) = true := decide_eq_true c21
          clear c21
          by_cases c22 : x46_1 < (y162.length : Int)
          · rw [if_pos c22] at H
            have c22b0 : decide (x46_1 < (y162.length : Int)) = true := decide_eq_true c22
            clear c22
            have HC23 := Aside0.mk H
            clear H
            have p165 : 0 ≤ (x46_1 : Int) := of_decide_eq_true (by first | (with_reducible assumption) | assumption)
            have q165 : x46_1 < (y162.length : Int) := of_decide_eq_true (by first | (with_reducible assumption) | assumption)
            obtain ⟨ad165, e165, hx165_0, hx165_1⟩ := at_T23 (Kd.R_reads' HO_44.out).2.2 x46_1 p165 q165
            cases e165
            replace p165 := eq_true p165
            replace q165 := eq_true q165
            go_upto_region 5 with (first | ((with_reducible refine gate_dst (N := 15) rfl ?_); refine box_event ?hg (N := 15) ?hd (cs := #[.int .i64 0, .int .i64 0]) (t := 23) ?hr ?_; (case hd => rfl); (case hg => rfl); (case hr => first | (go_simp; done) | (go_simp; rfl)); intro gb166 hg w24 hbox hb; have n0_ := Aside0.mk (Kd.R_below (Kd.R_elderB (by (with_reducible repeat (first | apply Kd.R_alloc | apply Kd.R_drewN | apply Kd.R_drew)); exact HO_44.out) gb166 (Nat.le_of_eq hg.symm)) hb); have n1_ := Aside0.mk (blk_below (g := gb154) (o := .cells #[.int .i64 a0_0, .int .i64 a0_1] 23 (0, 0)) (by (with_reducible repeat (first | refine blk_drewN ?_ _ | refine blk_drew ?_ | refine blk_alloc ?_ _)); exact BK154.out) hb); have n2_ := Aside0.mk (below_step (by repeat (first | (with_reducible first | exact HB.out | apply below_alloc | apply pw_below_drewN | apply below_drew1 | refine below_set ?_ GE154.out) | exact HB.out)) hb); have n3_ := Aside0.mk (hbox); have n4_ := Aside0.mk ((by rw [hg]; exact (below_size (by repeat (first | (with_reducible first | exact HB.out | apply below_alloc | apply pw_below_drewN | apply below_drew1 | refine below_set ?_ GE154.out) | exact HB.out))) : w.heap.size ≤ gb166)); have n5_ := Aside0.mk ((by rw [hg]; exact (below_size (by repeat (first | (with_reducible first | exact HB.out | apply below_alloc | apply pw_below_drewN | apply below_drew1 | refine below_set ?_ GE154.out) | exact HB.out))) : w.heap.size ≤ gb166)); have n6_ := Aside0.mk ((by rw [hg]; exact Nat.ne_of_lt (blk_lt (g := gb154) (o := .cells #[.int .i64 a0_0, .int .i64 a0_1] 23 (0, 0)) (by (with_reducible repeat (first | refine blk_drewN ?_ _ | refine blk_drew ?_ | refine blk_alloc ?_ _)); exact BK154.out)) : gb154 ≠ gb166)); have n7_ := Aside0.mk ((by rw [hg]; exact Nat.ne_of_gt (blk_lt (g := gb154) (o := .cells #[.int .i64 a0_0, .int .i64 a0_1] 23 (0, 0)) (by (with_reducible repeat (first | refine blk_drewN ?_ _ | refine blk_drew ?_ | refine blk_alloc ?_ _)); exact BK154.out)) : gb166 ≠ gb154)); clear HO_44; clear BK154; clear HB; have HO_44 := n0_; have BK154 := n1_; have HB := n2_; have BK166 := n3_; have GW166 := n4_; have GE166 := n5_; have NB154_166 := n6_; have NB166_154 := n7_; clear n0_ n1_ n2_ n3_ n4_ n5_ n6_ n7_; clear hb hbox hg; have hnb25 := NB166_154.out; have hnc25 := NB154_166.out; have hcz26_0 : w24.cell? ⟨gb166, 0, none⟩ = some (.int .i64 0) := (blk_cell BK166.out 0).trans rfl; have hcz26_1 : w24.cell? ⟨gb166, 1, none⟩ = some (.int .i64 0) := (blk_cell BK166.out 1).trans rfl; have hfz26_0 := blk_frozen BK166.out 0; have hfz26_1 := blk_frozen BK166.out 1))
            (try simp only [Act.put, List.setIfInBounds_toArray, List.set_cons_zero, List.set_cons_succ])
            go_cut [76] (fun v76 wc => ∃ (kq : Nat) (x76_22 : Bool), v76 = .bool x76_22 ∧ Aside0 (omnibuslaw11_LatticeTells.j1 kq a3 a4 a5 t155 y162 (y162.length : Int) x46_1 x76_22 ((rd_T23 y162 x46_1).f0) ((rd_T23 y162 x46_1).f1) = some r) ∧ Aside0 (kq ≤ k1) ∧ Aside0 (Kd.R k23 23 wc w.heap.size (fun k_ => k_ ≠ gb154 ∧ k_ ≠ gb166) (.slice (some ad165) y162.length co19) y162) ∧ Aside0 (wc.heap[gb154]? = some (.cells #[.int .i64 a0_0, .int .i64 a0_1] 23 (0, 0))) ∧ Aside0 (wc.heap[gb166]? = some (.cells #[.int .i64 ((rd_T23 y162 x46_1).f0), .int .i64 ((rd_T23 y162 x46_1).f1)] 23 (0, 0))) ∧ Aside0 (Below w.heap.size w wc))
            case first =>
              have H := HC23.out
              clear HC23
              replace H := Option.bind_eq_some_iff.mp H
              obtain ⟨t167, A270, H⟩ := H
              replace H : ((omnibusref11_Right.f ((rd_T23 y162 x46_1).f0) ((rd_T23 y162 x46_1).f1)).bind fun t168 => (if (t167 != t168) = true then (omnibuslaw11_LatticeTells.j1 k1 a3 a4 a5 t155 y162 (y162.length : Int) x46_1 true ((rd_T23 y162 x46_1).f0) ((rd_T23 y162 x46_1).f1)) else ((lattice_Near.f ((rd_T23 y162 x46_1).f0) ((rd_T23 y162 x46_1).f1) a5).bind fun t169 => ((omnibusref11_Near.f ((rd_T23 y162 x46_1).f0) ((rd_T23 y162 x46_1).f1) a5).bind fun t170 => (if (t169 != t170) = true then (omnibuslaw11_LatticeTells.j1 k1 a3 a4 a5 t155 y162 (y162.length : Int) x46_1 true ((rd_T23 y162 x46_1).f0) ((rd_T23 y162 x46_1).f1)) else ((omnibuslaw11_pick.f a5 12).bind fun t171 => ((lattice_Near.f ((rd_T23 y162 x46_1).f0) ((rd_T23 y162 x46_1).f1) (wrap64 (t171 - 6))).bind fun t172 => ((omnibuslaw11_pick.f a5 12).bind fun t173 => ((omnibusref11_Near.f ((rd_T23 y162 x46_1).f0) ((rd_T23 y162 x46_1).f1) (wrap64 (t173 - 6))).bind fun t174 => (omnibuslaw11_LatticeTells.j1 k1 a3 a4 a5 t155 y162 (y162.length : Int) x46_1 (t172 != t174) ((rd_T23 y162 x46_1).f0) ((rd_T23 y162 x46_1).f1))))))))))) = some r := H
              have A27 := Aside0.mk A270
              clear A270
              replace H := Option.bind_eq_some_iff.mp H
              obtain ⟨t168, A280, H⟩ := H
              replace H : (if (t167 != t168) = true then (omnibuslaw11_LatticeTells.j1 k1 a3 a4 a5 t155 y162 (y162.length : Int) x46_1 true ((rd_T23 y162 x46_1).f0) ((rd_T23 y162 x46_1).f1)) else ((lattice_Near.f ((rd_T23 y162 x46_1).f0) ((rd_T23 y162 x46_1).f1) a5).bind fun t169 => ((omnibusref11_Near.f ((rd_T23 y162 x46_1).f0) ((rd_T23 y162 x46_1).f1) a5).bind fun t170 => (if (t169 != t170) = true then (omnibuslaw11_LatticeTells.j1 k1 a3 a4 a5 t155 y162 (y162.length : Int) x46_1 true ((rd_T23 y162 x46_1).f0) ((rd_T23 y162 x46_1).f1)) else ((omnibuslaw11_pick.f a5 12).bind fun t171 => ((lattice_Near.f ((rd_T23 y162 x46_1).f0) ((rd_T23 y162 x46_1).f1) (wrap64 (t171 - 6))).bind fun t172 => ((omnibuslaw11_pick.f a5 12).bind fun t173 => ((omnibusref11_Near.f ((rd_T23 y162 x46_1).f0) ((rd_T23 y162 x46_1).f1) (wrap64 (t173 - 6))).bind fun t174 => (omnibuslaw11_LatticeTells.j1 k1 a3 a4 a5 t155 y162 (y162.length : Int) x46_1 (t172 != t174) ((rd_T23 y162 x46_1).f0) ((rd_T23 y162 x46_1).f1)))))))))) = some r := H
              have A28 := Aside0.mk A280
              clear A280
              by_cases c29 : (t167 != t168) = true
              · first | (rw [if_pos c29] at H; exact absurd (Option.some.inj H) (by rw [HT.out]; decide); done) | (rw [if_pos c29] at H; exact absurd (tells_j1 H) (by rw [HT.out]; decide); done)
              · rw [if_neg c29] at H
                have c29b0 : (t167 != t168) = false := by simpa using c29
                (try (have c29b1 : decide (t167 = t168) = true := by simpa using c29))
                (try (have c29b2 : (t167 == t168) = true := by simpa using c29))
                clear c29
                (first | rw [c29b0] | (simp only [i64_w, i32_w]; rw [c29b0]) | skip)
                replace H := Option.bind_eq_some_iff.mp H
                obtain ⟨t169, A340, H⟩ := H
                replace H : ((omnibusref11_Near.f ((rd_T23 y162 x46_1).f0) ((rd_T23 y162 x46_1).f1) a5).bind fun t170 => (if (t169 != t170) = true then (omnibuslaw11_LatticeTells.j1 k1 a3 a4 a5 t155 y162 (y162.length : Int) x46_1 true ((rd_T23 y162 x46_1).f0) ((rd_T23 y162 x46_1).f1)) else ((omnibuslaw11_pick.f a5 12).bind fun t171 => ((lattice_Near.f ((rd_T23 y162 x46_1).f0) ((rd_T23 y162 x46_1).f1) (wrap64 (t171 - 6))).bind fun t172 => ((omnibuslaw11_pick.f a5 12).bind fun t173 => ((omnibusref11_Near.f ((rd_T23 y162 x46_1).f0) ((rd_T23 y162 x46_1).f1) (wrap64 (t173 - 6))).bind fun t174 => (omnibuslaw11_LatticeTells.j1 k1 a3 a4 a5 t155 y162 (y162.length : Int) x46_1 (t172 != t174) ((rd_T23 y162 x46_1).f0) ((rd_T23 y162 x46_1).f1)))))))) = some r := H
                have A34 := Aside0.mk A340
                clear A340
                replace H := Option.bind_eq_some_iff.mp H
                obtain ⟨t170, A350, H⟩ := H
                replace H : (if (t169 != t170) = true then (omnibuslaw11_LatticeTells.j1 k1 a3 a4 a5 t155 y162 (y162.length : Int) x46_1 true ((rd_T23 y162 x46_1).f0) ((rd_T23 y162 x46_1).f1)) else ((omnibuslaw11_pick.f a5 12).bind fun t171 => ((lattice_Near.f ((rd_T23 y162 x46_1).f0) ((rd_T23 y162 x46_1).f1) (wrap64 (t171 - 6))).bind fun t172 => ((omnibuslaw11_pick.f a5 12).bind fun t173 => ((omnibusref11_Near.f ((rd_T23 y162 x46_1).f0) ((rd_T23 y162 x46_1).f1) (wrap64 (t173 - 6))).bind fun t174 => (omnibuslaw11_LatticeTells.j1 k1 a3 a4 a5 t155 y162 (y162.length : Int) x46_1 (t172 != t174) ((rd_T23 y162 x46_1).f0) ((rd_T23 y162 x46_1).f1))))))) = some r := H
                have A35 := Aside0.mk A350
                clear A350
                by_cases c36 : (t169 != t170) = true
                · first | (rw [if_pos c36] at H; exact absurd (Option.some.inj H) (by rw [HT.out]; decide); done) | (rw [if_pos c36] at H; exact absurd (tells_j1 H) (by rw [HT.out]; decide); done)
                · rw [if_neg c36] at H
                  have c36b0 : (t169 != t170) = false := by simpa using c36
                  (try (have c36b1 : decide (t169 = t170) = true := by simpa using c36))
                  (try (have c36b2 : (t169 == t170) = true := by simpa using c36))
                  clear c36
                  replace H := Option.bind_eq_some_iff.mp H
                  obtain ⟨t171, A430, H⟩ := H
                  replace H : ((lattice_Near.f ((rd_T23 y162 x46_1).f0) ((rd_T23 y162 x46_1).f1) (wrap64 (t171 - 6))).bind fun t172 => ((omnibuslaw11_pick.f a5 12).bind fun t173 => ((omnibusref11_Near.f ((rd_T23 y162 x46_1).f0) ((rd_T23 y162 x46_1).f1) (wrap64 (t173 - 6))).bind fun t174 => (omnibuslaw11_LatticeTells.j1 k1 a3 a4 a5 t155 y162 (y162.length : Int) x46_1 (t172 != t174) ((rd_T23 y162 x46_1).f0) ((rd_T23 y162 x46_1).f1))))) = some r := H
                  have A43 := Aside0.mk A430
                  clear A430
                  replace H := Option.bind_eq_some_iff.mp H
                  obtain ⟨t172, A440, H⟩ := H
                  replace H : ((omnibuslaw11_pick.f a5 12).bind fun t173 => ((omnibusref11_Near.f ((rd_T23 y162 x46_1).f0) ((rd_T23 y162 x46_1).f1) (wrap64 (t173 - 6))).bind fun t174 => (omnibuslaw11_LatticeTells.j1 k1 a3 a4 a5 t155 y162 (y162.length : Int) x46_1 (t172 != t174) ((rd_T23 y162 x46_1).f0) ((rd_T23 y162 x46_1).f1)))) = some r := H
                  have A44 := Aside0.mk A440
                  clear A440
                  replace H := Option.bind_eq_some_iff.mp H
                  obtain ⟨t173, A450, H⟩ := H
                  replace H : ((omnibusref11_Near.f ((rd_T23 y162 x46_1).f0) ((rd_T23 y162 x46_1).f1) (wrap64 (t173 - 6))).bind fun t174 => (omnibuslaw11_LatticeTells.j1 k1 a3 a4 a5 t155 y162 (y162.length : Int) x46_1 (t172 != t174) ((rd_T23 y162 x46_1).f0) ((rd_T23 y162 x46_1).f1))) = some r := H
                  have A45 := Aside0.mk A450
                  clear A450
                  replace H := Option.bind_eq_some_iff.mp H
                  obtain ⟨t174, A460, H⟩ := H
                  replace H : (omnibuslaw11_LatticeTells.j1 k1 a3 a4 a5 t155 y162 (y162.length : Int) x46_1 (t172 != t174) ((rd_T23 y162 x46_1).f0) ((rd_T23 y162 x46_1).f1)) = some r := H
                  have A46 := Aside0.mk A460
                  clear A460
                  have H' := Aside0.mk H
                  clear H
                  try go_wp2
                  have n0_ : Aside0 (Kd.R k23 23 ((w24.setCell ⟨gb166, 0, none⟩ (.int .i64 ((rd_T23 y162 x46_1).f0))).setCell ⟨gb166, 1, none⟩ (.int .i64 ((rd_T23 y162 x46_1).f1))) w.heap.size (fun k_ => k_ ≠ gb154 ∧ k_ ≠ gb166) (.slice (some ad165) y162.length co19) y162) := ⟨by (with_reducible repeat (first | apply Kd.R_alloc | apply Kd.R_drewN | apply Kd.R_drew)); exact Kd.R_mono (Kd.R_far (p := ⟨gb166, 1, none⟩) (Kd.R_far (p := ⟨gb166, 0, none⟩) (Kd.R_mono HO_44.out (fun k_ hk => (⟨hk, hk.2⟩ : _ ∧ k_ ≠ gb166))) (fun _ hk => hk.2) (.int .i64 ((rd_T23 y162 x46_1).f0))) (fun _ hk => hk.2) (.int .i64 ((rd_T23 y162 x46_1).f1))) (fun _ hk => ⟨hk.1.1, hk.1.2⟩)⟩
                  have n1_ : Aside0 (((w24.setCell ⟨gb166, 0, none⟩ (.int .i64 ((rd_T23 y162 x46_1).f0))).setCell ⟨gb166, 1, none⟩ (.int .i64 ((rd_T23 y162 x46_1).f1))).heap[gb154]? = some (.cells #[.int .i64 a0_0, .int .i64 a0_1] 23 (0, 0))) := ⟨by (with_reducible repeat (first | refine blk_drewN ?_ _ | refine blk_drew ?_ | refine blk_alloc ?_ _)); refine blk_far ?_ NB154_166.out _; (with_reducible repeat (first | refine blk_drewN ?_ _ | refine blk_drew ?_ | refine blk_alloc ?_ _)); refine blk_far ?_ NB154_166.out _; (with_reducible repeat (first | refine blk_drewN ?_ _ | refine blk_drew ?_ | refine blk_alloc ?_ _)); exact BK154.out⟩
                  have n2_ : Aside0 (((w24.setCell ⟨gb166, 0, none⟩ (.int .i64 ((rd_T23 y162 x46_1).f0))).setCell ⟨gb166, 1, none⟩ (.int .i64 ((rd_T23 y162 x46_1).f1))).heap[gb166]? = some (.cells #[.int .i64 ((rd_T23 y162 x46_1).f0), .int .i64 ((rd_T23 y162 x46_1).f1)] 23 (0, 0))) := ⟨by (with_reducible repeat (first | refine blk_drewN ?_ _ | refine blk_drew ?_ | refine blk_alloc ?_ _)); refine blk_put (cs := #[.int .i64 ((rd_T23 y162 x46_1).f0), .int .i64 0]) ?_ 1 _ rfl; (with_reducible repeat (first | refine blk_drewN ?_ _ | refine blk_drew ?_ | refine blk_alloc ?_ _)); refine blk_put (cs := #[.int .i64 0, .int .i64 0]) ?_ 0 _ rfl; (with_reducible repeat (first | refine blk_drewN ?_ _ | refine blk_drew ?_ | refine blk_alloc ?_ _)); exact BK166.out⟩
                  have n3_ : Aside0 (Below w.heap.size w ((w24.setCell ⟨gb166, 0, none⟩ (.int .i64 ((rd_T23 y162 x46_1).f0))).setCell ⟨gb166, 1, none⟩ (.int .i64 ((rd_T23 y162 x46_1).f1)))) := ⟨by repeat (first | (with_reducible first | exact HB.out | apply below_alloc | apply pw_below_drewN | apply below_drew1 | refine below_set ?_ GE154.out | refine below_set ?_ GE166.out) | exact HB.out)⟩
                  (try clear HO_44)
                  (try clear BK154)
                  (try clear BK166)
                  (try clear HB)
                  generalize ((w24.setCell ⟨gb166, 0, none⟩ (.int .i64 ((rd_T23 y162 x46_1).f0))).setCell ⟨gb166, 1, none⟩ (.int .i64 ((rd_T23 y162 x46_1).f1))) = w47 at n0_ n1_ n2_ n3_ ⊢
                  have HO_44 := n0_
                  have BK154 := n1_
                  have BK166 := n2_
                  have HB := n3_
                  clear n0_ n1_ n2_ n3_
                  have n0_ := Aside0.mk (Kd.R_drew HO_44.out)
                  have n1_ := Aside0.mk (blk_drew BK154.out)
                  have n2_ := Aside0.mk (blk_drew BK166.out)
                  have n3_ := Aside0.mk (below_drew1 HB.out)
                  clear HO_44
                  clear BK154
                  clear BK166
                  clear HB
                  have HO_44 := n0_
                  have BK154 := n1_
                  have BK166 := n2_
                  have HB := n3_
                  clear n0_ n1_ n2_ n3_
                  refine start_ (n := 27) (S := fun w' => w'.cell? ⟨gb166, 0, none⟩ = some (.int .i64 ((rd_T23 y162 x46_1).f0)) ∧ w'.cell? ⟨gb166, 1, none⟩ = some (.int .i64 ((rd_T23 y162 x46_1).f1))) (ds := []) #[false, false, false, false, false, false, false, false, false, false, false, false, false, false, false, false, false, false, false, false, false, false, false, false, false, false, false] (by kernel_rfl) rfl rfl ⟨(blk_cell BK166.out 0).trans rfl, (blk_cell BK166.out 1).trans rfl⟩ (fun hHeld => ?_); refine with_tabW omnibuslaw11_LatticeTells.tab5 omnibuslaw11_LatticeTells.bits5 (fun HT_ HW_ => ?_)
                  generalize w47.drew = w48 at HO_44 BK154 BK166 HB hHeld ⊢
                  refine take_ (i := 0) (N := some 50) (v := ?_) (a' := ?_) #[true, false, false, false, false, false, false, false, false, false, false, false, false, false, false, false, false, false, false, false, false, false, false, false, false, false, false] rfl rfl (take_ofW HT_.out HW_.out (by kernel_rfl)) (fun _ _ _ h => h) (Or.inl ⟨by rfl, ?_⟩) hHeld ?_ ?_
                  rotate_left
                  · rintro w' ⟨s0, s1⟩
                    go_simp
                    with_reducible rfl
                  rotate_left
                  · simp only [Act.put, List.setIfInBounds_toArray, List.set_cons_zero, List.set_cons_succ, i64_w, i32_w]
                    rfl
                  refine take_ (i := 2) (N := some 52) (v := ?_) (a' := ?_) #[true, false, true, false, false, false, false, false, false, false, false, false, false, false, false, false, false, false, false, false, false, false, false, false, false, false, false] rfl rfl (take_ofW HT_.out HW_.out (by kernel_rfl)) (fun _ _ _ h => h) (Or.inl ⟨by rfl, ?_⟩) hHeld ?_ ?_
                  rotate_left
                  · rintro w' ⟨s0, s1⟩
                    go_simp
                    with_reducible rfl
                  rotate_left
                  · simp only [Act.put, List.setIfInBounds_toArray, List.set_cons_zero, List.set_cons_succ, i64_w, i32_w]
                    rfl
                  refine one_ (i := 1) (N := some 51) #[true, true, true, false, false, false, false, false, false, false, false, false, false, false, false, false, false, false, false, false, false, false, false, false, false, false, false] rfl rfl (one_of HT_.out (by kernel_rfl)) (by decide) (fun K hK => ?_)
                  refine goes_ Try.func12 (by kernel_rfl) rfl #[.agg #[.int .i64 ((rd_T23 y162 x46_1).f0), .int .i64 ((rd_T23 y162 x46_1).f1)]] (by rfl) rfl rfl (by (try simp only [List.map_toArray, List.map_cons, List.map_nil]); first | done | rfl | (simp only [List.length_drop, List.length_take]; rfl)) ?_
                  with_reducible refine (lattice_Right.calls ((rd_T23 y162 x46_1).f0) ((rd_T23 y162 x46_1).f1) t167 _ A27.out).mono ?_
                  rintro e w49 ⟨rfl, hb⟩
                  refine ⟨_, rfl, ?_⟩
                  have n0_ := Aside0.mk (Kd.R_below (by (with_reducible repeat (first | apply Kd.R_alloc | apply Kd.R_drewN | apply Kd.R_drew)); exact HO_44.out) hb)
                  have n1_ := Aside0.mk (blk_below (g := gb154) (o := .cells #[.int .i64 a0_0, .int .i64 a0_1] 23 (0, 0)) (by (with_reducible repeat (first | refine blk_drewN ?_ _ | refine blk_drew ?_ | refine blk_alloc ?_ _)); exact BK154.out) hb)
                  have n2_ := Aside0.mk (blk_below (g := gb166) (o := .cells #[.int .i64 ((rd_T23 y162 x46_1).f0), .int .i64 ((rd_T23 y162 x46_1).f1)] 23 (0, 0)) (by (with_reducible repeat (first | refine blk_drewN ?_ _ | refine blk_drew ?_ | refine blk_alloc ?_ _)); exact BK166.out) hb)
                  have n3_ := Aside0.mk (below_step (by repeat (first | (with_reducible first | exact HB.out | apply below_alloc | apply pw_below_drewN | apply below_drew1 | refine below_set ?_ GE154.out | refine below_set ?_ GE166.out) | exact HB.out)) hb)
                  clear HO_44
                  clear BK154
                  clear BK166
                  clear HB
                  have HO_44 := n0_
                  have BK154 := n1_
                  have BK166 := n2_
                  have HB := n3_
                  clear n0_ n1_ n2_ n3_
                  (try clear hb)
                  (try clear hb2)
                  (try clear hk)
                  (try clear hi)
                  refine hK.out _ _ ⟨(blk_cell BK166.out 0).trans rfl, (blk_cell BK166.out 1).trans rfl⟩ (fun hHeld => ?_)
                  clear hK K
                  refine norm_ (a' := ?_) ?_ ?_
                  rotate_left
                  · show Act.put _ (some 51) _ = _
                    simp only [Act.put, List.setIfInBounds_toArray, List.set_cons_zero, List.set_cons_succ, i64_w, i32_w]
                    rfl
                  refine one_ (i := 3) (N := some 53) #[true, true, true, true, false, false, false, false, false, false, false, false, false, false, false, false, false, false, false, false, false, false, false, false, false, false, false] rfl rfl (one_of HT_.out (by kernel_rfl)) (by decide) (fun K hK => ?_)
                  refine goes_ Try.func13 (by kernel_rfl) rfl #[.agg #[.int .i64 ((rd_T23 y162 x46_1).f0), .int .i64 ((rd_T23 y162 x46_1).f1)]] (by rfl) rfl rfl (by (try simp only [List.map_toArray, List.map_cons, List.map_nil]); first | done | rfl | (simp only [List.length_drop, List.length_take]; rfl)) ?_
                  with_reducible refine (omnibusref11_Right.calls ((rd_T23 y162 x46_1).f0) ((rd_T23 y162 x46_1).f1) t168 _ A28.out).mono ?_
                  rintro e w50 ⟨rfl, hb⟩
                  refine ⟨_, rfl, ?_⟩
                  have n0_ := Aside0.mk (Kd.R_below (by (with_reducible repeat (first | apply Kd.R_alloc | apply Kd.R_drewN | apply Kd.R_drew)); exact HO_44.out) hb)
                  have n1_ := Aside0.mk (blk_below (g := gb154) (o := .cells #[.int .i64 a0_0, .int .i64 a0_1] 23 (0, 0)) (by (with_reducible repeat (first | refine blk_drewN ?_ _ | refine blk_drew ?_ | refine blk_alloc ?_ _)); exact BK154.out) hb)
                  have n2_ := Aside0.mk (blk_below (g := gb166) (o := .cells #[.int .i64 ((rd_T23 y162 x46_1).f0), .int .i64 ((rd_T23 y162 x46_1).f1)] 23 (0, 0)) (by (with_reducible repeat (first | refine blk_drewN ?_ _ | refine blk_drew ?_ | refine blk_alloc ?_ _)); exact BK166.out) hb)
                  have n3_ := Aside0.mk (below_step (by repeat (first | (with_reducible first | exact HB.out | apply below_alloc | apply pw_below_drewN | apply below_drew1 | refine below_set ?_ GE154.out | refine below_set ?_ GE166.out) | exact HB.out)) hb)
                  clear HO_44
                  clear BK154
                  clear BK166
                  clear HB
                  have HO_44 := n0_
                  have BK154 := n1_
                  have BK166 := n2_
                  have HB := n3_
                  clear n0_ n1_ n2_ n3_
                  (try clear hb)
                  (try clear hb2)
                  (try clear hk)
                  (try clear hi)
                  refine hK.out _ _ ⟨(blk_cell BK166.out 0).trans rfl, (blk_cell BK166.out 1).trans rfl⟩ (fun hHeld => ?_)
                  clear hK K
                  refine norm_ (a' := ?_) ?_ ?_
                  rotate_left
                  · show Act.put _ (some 53) _ = _
                    simp only [Act.put, List.setIfInBounds_toArray, List.set_cons_zero, List.set_cons_succ, i64_w, i32_w]
                    rfl
                  refine pure_ (i := 4) (N := some 54) (v := ?_) (a' := ?_) #[true, true, true, true, true, false, false, false, false, false, false, false, false, false, false, false, false, false, false, false, false, false, false, false, false, false, false] rfl rfl (any_of HT_.out (by kernel_rfl)) (fun _ _ _ h => h) (Or.inl ⟨by rfl, ?_⟩) ?_ ?_
                  rotate_left
                  · intro w'
                    go_simp
                    with_reducible rfl
                  rotate_left
                  · simp only [Act.put, List.setIfInBounds_toArray, List.set_cons_zero, List.set_cons_succ, i64_w, i32_w]
                    rfl
                  refine pure_ (i := 5) (N := some 55) (v := ?_) (a' := ?_) #[true, true, true, true, true, true, false, false, false, false, false, false, false, false, false, false, false, false, false, false, false, false, false, false, false, false, false] rfl rfl (any_of HT_.out (by kernel_rfl)) (fun _ _ _ h => h) (Or.inl ⟨by rfl, ?_⟩) ?_ ?_
                  rotate_left
                  · intro w'
                    go_simp
                    with_reducible rfl
                  rotate_left
                  · simp only [Act.put, List.setIfInBounds_toArray, List.set_cons_zero, List.set_cons_succ, i64_w, i32_w]
                    rfl
                  refine pure_ (i := 7) (N := some 57) (v := ?_) (a' := ?_) #[true, true, true, true, true, true, false, true, false, false, false, false, false, false, false, false, false, false, false, false, false, false, false, false, false, false, false] rfl rfl (any_of HT_.out (by kernel_rfl)) (fun _ _ _ h => h) (Or.inl ⟨by rfl, ?_⟩) ?_ ?_
                  rotate_left
                  · intro w'
                    go_simp
                    with_reducible rfl
                  rotate_left
                  · simp only [Act.put, List.setIfInBounds_toArray, List.set_cons_zero, List.set_cons_succ, i64_w, i32_w]
                    rfl
                  refine pure_ (i := 10) (N := some 60) (v := ?_) (a' := ?_) #[true, true, true, true, true, true, false, true, false, false, true, false, false, false, false, false, false, false, false, false, false, false, false, false, false, false, false] rfl rfl (any_of HT_.out (by kernel_rfl)) (fun _ _ _ h => h) (Or.inl ⟨by rfl, ?_⟩) ?_ ?_
                  rotate_left
                  · intro w'
                    go_simp
                    with_reducible rfl
                  rotate_left
                  · simp only [Act.put, List.setIfInBounds_toArray, List.set_cons_zero, List.set_cons_succ, i64_w, i32_w]
                    rfl
                  refine take_ (i := 6) (N := some 56) (v := ?_) (a' := ?_) #[true, true, true, true, true, true, true, true, false, false, true, false, false, false, false, false, false, false, false, false, false, false, false, false, false, false, false] rfl rfl (take_ofW HT_.out HW_.out (by kernel_rfl)) (fun _ _ _ h => h) (Or.inl ⟨by rfl, ?_⟩) hHeld ?_ ?_
                  rotate_left
                  · rintro w' ⟨s0, s1⟩
                    go_simp
                    with_reducible rfl
                  rotate_left
                  · simp only [Act.put, List.setIfInBounds_toArray, List.set_cons_zero, List.set_cons_succ, i64_w, i32_w]
                    rfl
                  refine take_ (i := 9) (N := some 59) (v := ?_) (a' := ?_) #[true, true, true, true, true, true, true, true, false, true, true, false, false, false, false, false, false, false, false, false, false, false, false, false, false, false, false] rfl rfl (take_ofW HT_.out HW_.out (by kernel_rfl)) (fun _ _ _ h => h) (Or.inl ⟨by rfl, ?_⟩) hHeld ?_ ?_
                  rotate_left
                  · rintro w' ⟨s0, s1⟩
                    go_simp
                    with_reducible rfl
                  rotate_left
                  · simp only [Act.put, List.setIfInBounds_toArray, List.set_cons_zero, List.set_cons_succ, i64_w, i32_w]
                    rfl
                  refine one_ (i := 8) (N := some 58) #[true, true, true, true, true, true, true, true, true, true, true, false, false, false, false, false, false, false, false, false, false, false, false, false, false, false, false] rfl rfl (one_of HT_.out (by kernel_rfl)) (by decide) (fun K hK => ?_)
                  refine goes_ Try.func14 (by kernel_rfl) rfl #[.agg #[.int .i64 ((rd_T23 y162 x46_1).f0), .int .i64 ((rd_T23 y162 x46_1).f1)], .int .i64 a5] (by rfl) rfl rfl (by (try simp only [List.map_toArray, List.map_cons, List.map_nil]); first | done | rfl | (simp only [List.length_drop, List.length_take]; rfl)) ?_
                  with_reducible refine (lattice_Near.calls ((rd_T23 y162 x46_1).f0) ((rd_T23 y162 x46_1).f1) a5 t169 _ A34.out).mono ?_
                  rintro e w51 ⟨rfl, hb⟩
                  refine ⟨_, rfl, ?_⟩
                  have n0_ := Aside0.mk (Kd.R_below (by (with_reducible repeat (first | apply Kd.R_alloc | apply Kd.R_drewN | apply Kd.R_drew)); exact HO_44.out) hb)
                  have n1_ := Aside0.mk (blk_below (g := gb154) (o := .cells #[.int .i64 a0_0, .int .i64 a0_1] 23 (0, 0)) (by (with_reducible repeat (first | refine blk_drewN ?_ _ | refine blk_drew ?_ | refine blk_alloc ?_ _)); exact BK154.out) hb)
                  have n2_ := Aside0.mk (blk_below (g := gb166) (o := .cells #[.int .i64 ((rd_T23 y162 x46_1).f0), .int .i64 ((rd_T23 y162 x46_1).f1)] 23 (0, 0)) (by (with_reducible repeat (first | refine blk_drewN ?_ _ | refine blk_drew ?_ | refine blk_alloc ?_ _)); exact BK166.out) hb)
                  have n3_ := Aside0.mk (below_step (by repeat (first | (with_reducible first | exact HB.out | apply below_alloc | apply pw_below_drewN | apply below_drew1 | refine below_set ?_ GE154.out | refine below_set ?_ GE166.out) | exact HB.out)) hb)
                  clear HO_44
                  clear BK154
                  clear BK166
                  clear HB
                  have HO_44 := n0_
                  have BK154 := n1_
                  have BK166 := n2_
                  have HB := n3_
                  clear n0_ n1_ n2_ n3_
                  (try clear hb)
                  (try clear hb2)
                  (try clear hk)
                  (try clear hi)
                  refine hK.out _ _ ⟨(blk_cell BK166.out 0).trans rfl, (blk_cell BK166.out 1).trans rfl⟩ (fun hHeld => ?_)
                  clear hK K
                  refine norm_ (a' := ?_) ?_ ?_
                  rotate_left
                  · show Act.put _ (some 58) _ = _
                    simp only [Act.put, List.setIfInBounds_toArray, List.set_cons_zero, List.set_cons_succ, i64_w, i32_w]
                    rfl
                  refine one_ (i := 11) (N := some 61) #[true, true, true, true, true, true, true, true, true, true, true, true, false, false, false, false, false, false, false, false, false, false, false, false, false, false, false] rfl rfl (one_of HT_.out (by kernel_rfl)) (by decide) (fun K hK => ?_)
                  refine goes_ Try.func15 (by kernel_rfl) rfl #[.agg #[.int .i64 ((rd_T23 y162 x46_1).f0), .int .i64 ((rd_T23 y162 x46_1).f1)], .int .i64 a5] (by rfl) rfl rfl (by (try simp only [List.map_toArray, List.map_cons, List.map_nil]); first | done | rfl | (simp only [List.length_drop, List.length_take]; rfl)) ?_
                  with_reducible refine (omnibusref11_Near.calls ((rd_T23 y162 x46_1).f0) ((rd_T23 y162 x46_1).f1) a5 t170 _ A35.out).mono ?_
                  rintro e w52 ⟨rfl, hb⟩
                  refine ⟨_, rfl, ?_⟩
                  have n0_ := Aside0.mk (Kd.R_below (by (with_reducible repeat (first | apply Kd.R_alloc | apply Kd.R_drewN | apply Kd.R_drew)); exact HO_44.out) hb)
                  have n1_ := Aside0.mk (blk_below (g := gb154) (o := .cells #[.int .i64 a0_0, .int .i64 a0_1] 23 (0, 0)) (by (with_reducible repeat (first | refine blk_drewN ?_ _ | refine blk_drew ?_ | refine blk_alloc ?_ _)); exact BK154.out) hb)
                  have n2_ := Aside0.mk (blk_below (g := gb166) (o := .cells #[.int .i64 ((rd_T23 y162 x46_1).f0), .int .i64 ((rd_T23 y162 x46_1).f1)] 23 (0, 0)) (by (with_reducible repeat (first | refine blk_drewN ?_ _ | refine blk_drew ?_ | refine blk_alloc ?_ _)); exact BK166.out) hb)
                  have n3_ := Aside0.mk (below_step (by repeat (first | (with_reducible first | exact HB.out | apply below_alloc | apply pw_below_drewN | apply below_drew1 | refine below_set ?_ GE154.out | refine below_set ?_ GE166.out) | exact HB.out)) hb)
                  clear HO_44
                  clear BK154
                  clear BK166
                  clear HB
                  have HO_44 := n0_
                  have BK154 := n1_
                  have BK166 := n2_
                  have HB := n3_
                  clear n0_ n1_ n2_ n3_
                  (try clear hb)
                  (try clear hb2)
                  (try clear hk)
                  (try clear hi)
                  refine hK.out _ _ ⟨(blk_cell BK166.out 0).trans rfl, (blk_cell BK166.out 1).trans rfl⟩ (fun hHeld => ?_)
                  clear hK K
                  refine norm_ (a' := ?_) ?_ ?_
                  rotate_left
                  · show Act.put _ (some 61) _ = _
                    simp only [Act.put, List.setIfInBounds_toArray, List.set_cons_zero, List.set_cons_succ, i64_w, i32_w]
                    rfl
                  refine pure_ (i := 12) (N := some 62) (v := ?_) (a' := ?_) #[true, true, true, true, true, true, true, true, true, true, true, true, true, false, false, false, false, false, false, false, false, false, false, false, false, false, false] rfl rfl (any_of HT_.out (by kernel_rfl)) (fun _ _ _ h => h) (Or.inl ⟨by rfl, ?_⟩) ?_ ?_
                  rotate_left
                  · intro w'
                    go_simp
                    with_reducible rfl
                  rotate_left
                  · simp only [Act.put, List.setIfInBounds_toArray, List.set_cons_zero, List.set_cons_succ, i64_w, i32_w]
                    rfl
                  refine pure_ (i := 13) (N := some 63) (v := ?_) (a' := ?_) #[true, true, true, true, true, true, true, true, true, true, true, true, true, true, false, false, false, false, false, false, false, false, false, false, false, false, false] rfl rfl (any_of HT_.out (by kernel_rfl)) (fun _ _ _ h => h) (Or.inl ⟨by rfl, ?_⟩) ?_ ?_
                  rotate_left
                  · intro w'
                    go_simp
                    with_reducible rfl
                  rotate_left
                  · simp only [Act.put, List.setIfInBounds_toArray, List.set_cons_zero, List.set_cons_succ, i64_w, i32_w]
                    rfl
                  refine pure_ (i := 14) (N := some 64) (v := ?_) (a' := ?_) #[true, true, true, true, true, true, true, true, true, true, true, true, true, true, true, false, false, false, false, false, false, false, false, false, false, false, false] rfl rfl (any_of HT_.out (by kernel_rfl)) (fun _ _ _ h => h) (Or.inl ⟨by rfl, ?_⟩) ?_ ?_
                  rotate_left
                  · intro w'
                    go_simp
                    with_reducible rfl
                  rotate_left
                  · simp only [Act.put, List.setIfInBounds_toArray, List.set_cons_zero, List.set_cons_succ, i64_w, i32_w]
                    rfl
                  refine pure_ (i := 16) (N := some 66) (v := ?_) (a' := ?_) #[true, true, true, true, true, true, true, true, true, true, true, true, true, true, true, false, true, false, false, false, false, false, false, false, false, false, false] rfl rfl (any_of HT_.out (by kernel_rfl)) (fun _ _ _ h => h) (Or.inl ⟨by rfl, ?_⟩) ?_ ?_
                  rotate_left
                  · intro w'
                    go_simp
                    with_reducible rfl
                  rotate_left
                  · simp only [Act.put, List.setIfInBounds_toArray, List.set_cons_zero, List.set_cons_succ, i64_w, i32_w]
                    rfl
                  refine pure_ (i := 21) (N := some 71) (v := ?_) (a' := ?_) #[true, true, true, true, true, true, true, true, true, true, true, true, true, true, true, false, true, false, false, false, false, true, false, false, false, false, false] rfl rfl (any_of HT_.out (by kernel_rfl)) (fun _ _ _ h => h) (Or.inl ⟨by rfl, ?_⟩) ?_ ?_
                  rotate_left
                  · intro w'
                    go_simp
                    with_reducible rfl
                  rotate_left
                  · simp only [Act.put, List.setIfInBounds_toArray, List.set_cons_zero, List.set_cons_succ, i64_w, i32_w]
                    rfl
                  refine take_ (i := 15) (N := some 65) (v := ?_) (a' := ?_) #[true, true, true, true, true, true, true, true, true, true, true, true, true, true, true, true, true, false, false, false, false, true, false, false, false, false, false] rfl rfl (take_ofW HT_.out HW_.out (by kernel_rfl)) (fun _ _ _ h => h) (Or.inl ⟨by rfl, ?_⟩) hHeld ?_ ?_
                  rotate_left
                  · rintro w' ⟨s0, s1⟩
                    go_simp
                    with_reducible rfl
                  rotate_left
                  · simp only [Act.put, List.setIfInBounds_toArray, List.set_cons_zero, List.set_cons_succ, i64_w, i32_w]
                    rfl
                  refine take_ (i := 20) (N := some 70) (v := ?_) (a' := ?_) #[true, true, true, true, true, true, true, true, true, true, true, true, true, true, true, true, true, false, false, false, true, true, false, false, false, false, false] rfl rfl (take_ofW HT_.out HW_.out (by kernel_rfl)) (fun _ _ _ h => h) (Or.inl ⟨by rfl, ?_⟩) hHeld ?_ ?_
                  rotate_left
                  · rintro w' ⟨s0, s1⟩
                    go_simp
                    with_reducible rfl
                  rotate_left
                  · simp only [Act.put, List.setIfInBounds_toArray, List.set_cons_zero, List.set_cons_succ, i64_w, i32_w]
                    rfl
                  refine one_ (i := 17) (N := some 67) #[true, true, true, true, true, true, true, true, true, true, true, true, true, true, true, true, true, true, false, false, true, true, false, false, false, false, false] rfl rfl (one_of HT_.out (by kernel_rfl)) (by decide) (fun K hK => ?_)
                  refine goes_ Try.func11 (by kernel_rfl) rfl #[.int .i64 a5, .int .i64 12] (by rfl) rfl rfl (by (try simp only [List.map_toArray, List.map_cons, List.map_nil]); first | done | rfl | (simp only [List.length_drop, List.length_take]; rfl)) ?_
                  with_reducible refine (omnibuslaw11_pick.calls a5 12 t171 _ A43.out).mono ?_
                  rintro e w' ⟨rfl, ⟨nd, rfl⟩⟩
                  refine ⟨_, rfl, ?_⟩
                  refine hK.out _ _ ⟨(blk_cell BK166.out 0).trans rfl, (blk_cell BK166.out 1).trans rfl⟩ (fun hHeld => ?_)
                  clear hK K
                  refine norm_ (a' := ?_) ?_ ?_
                  rotate_left
                  · show Act.put _ (some 67) _ = _
                    simp only [Act.put, List.setIfInBounds_toArray, List.set_cons_zero, List.set_cons_succ, i64_w, i32_w]
                    rfl
                  refine pure_ (i := 18) (N := some 68) (v := ?_) (a' := ?_) #[true, true, true, true, true, true, true, true, true, true, true, true, true, true, true, true, true, true, true, false, true, true, false, false, false, false, false] rfl rfl (any_of HT_.out (by kernel_rfl)) (fun _ _ _ h => h) (Or.inl ⟨by rfl, ?_⟩) ?_ ?_
                  rotate_left
                  · intro w'
                    go_simp
                    with_reducible rfl
                  rotate_left
                  · simp only [Act.put, List.setIfInBounds_toArray, List.set_cons_zero, List.set_cons_succ, i64_w, i32_w]
                    rfl
                  refine one_ (i := 19) (N := some 69) #[true, true, true, true, true, true, true, true, true, true, true, true, true, true, true, true, true, true, true, true, true, true, false, false, false, false, false] rfl rfl (one_of HT_.out (by kernel_rfl)) (by decide) (fun K hK => ?_)
                  refine goes_ Try.func14 (by kernel_rfl) rfl #[.agg #[.int .i64 ((rd_T23 y162 x46_1).f0), .int .i64 ((rd_T23 y162 x46_1).f1)], .int .i64 (wrap64 (t171 - 6))] (by rfl) rfl rfl (by (try simp only [List.map_toArray, List.map_cons, List.map_nil]); first | done | rfl | (simp only [List.length_drop, List.length_take]; rfl)) ?_
                  with_reducible refine (lattice_Near.calls ((rd_T23 y162 x46_1).f0) ((rd_T23 y162 x46_1).f1) (wrap64 (t171 - 6)) t172 _ A44.out).mono ?_
                  rintro e w53 ⟨rfl, hb⟩
                  refine ⟨_, rfl, ?_⟩
                  have n0_ := Aside0.mk (Kd.R_below (by (with_reducible repeat (first | apply Kd.R_alloc | apply Kd.R_drewN | apply Kd.R_drew)); exact HO_44.out) hb)
                  have n1_ := Aside0.mk (blk_below (g := gb154) (o := .cells #[.int .i64 a0_0, .int .i64 a0_1] 23 (0, 0)) (by (with_reducible repeat (first | refine blk_drewN ?_ _ | refine blk_drew ?_ | refine blk_alloc ?_ _)); exact BK154.out) hb)
                  have n2_ := Aside0.mk (blk_below (g := gb166) (o := .cells #[.int .i64 ((rd_T23 y162 x46_1).f0), .int .i64 ((rd_T23 y162 x46_1).f1)] 23 (0, 0)) (by (with_reducible repeat (first | refine blk_drewN ?_ _ | refine blk_drew ?_ | refine blk_alloc ?_ _)); exact BK166.out) hb)
                  have n3_ := Aside0.mk (below_step (by repeat (first | (with_reducible first | exact HB.out | apply below_alloc | apply pw_below_drewN | apply below_drew1 | refine below_set ?_ GE154.out | refine below_set ?_ GE166.out) | exact HB.out)) hb)
                  clear HO_44
                  clear BK154
                  clear BK166
                  clear HB
                  have HO_44 := n0_
                  have BK154 := n1_
                  have BK166 := n2_
                  have HB := n3_
                  clear n0_ n1_ n2_ n3_
                  (try clear hb)
                  (try clear hb2)
                  (try clear hk)
                  (try clear hi)
                  refine hK.out _ _ ⟨(blk_cell BK166.out 0).trans rfl, (blk_cell BK166.out 1).trans rfl⟩ (fun hHeld => ?_)
                  clear hK K
                  refine norm_ (a' := ?_) ?_ ?_
                  rotate_left
                  · show Act.put _ (some 69) _ = _
                    simp only [Act.put, List.setIfInBounds_toArray, List.set_cons_zero, List.set_cons_succ, i64_w, i32_w]
                    rfl
                  refine one_ (i := 22) (N := some 72) #[true, true, true, true, true, true, true, true, true, true, true, true, true, true, true, true, true, true, true, true, true, true, true, false, false, false, false] rfl rfl (one_of HT_.out (by kernel_rfl)) (by decide) (fun K hK => ?_)
                  refine goes_ Try.func11 (by kernel_rfl) rfl #[.int .i64 a5, .int .i64 12] (by rfl) rfl rfl (by (try simp only [List.map_toArray, List.map_cons, List.map_nil]); first | done | rfl | (simp only [List.length_drop, List.length_take]; rfl)) ?_
                  with_reducible refine (omnibuslaw11_pick.calls a5 12 t173 _ A45.out).mono ?_
                  rintro e w' ⟨rfl, ⟨nd, rfl⟩⟩
                  refine ⟨_, rfl, ?_⟩
                  refine hK.out _ _ ⟨(blk_cell BK166.out 0).trans rfl, (blk_cell BK166.out 1).trans rfl⟩ (fun hHeld => ?_)
                  clear hK K
                  refine norm_ (a' := ?_) ?_ ?_
                  rotate_left
                  · show Act.put _ (some 72) _ = _
                    simp only [Act.put, List.setIfInBounds_toArray, List.set_cons_zero, List.set_cons_succ, i64_w, i32_w]
                    rfl
                  refine pure_ (i := 23) (N := some 73) (v := ?_) (a' := ?_) #[true, true, true, true, true, true, true, true, true, true, true, true, true, true, true, true, true, true, true, true, true, true, true, true, false, false, false] rfl rfl (any_of HT_.out (by kernel_rfl)) (fun _ _ _ h => h) (Or.inl ⟨by rfl, ?_⟩) ?_ ?_
                  rotate_left
                  · intro w'
                    go_simp
                    with_reducible rfl
                  rotate_left
                  · simp only [Act.put, List.setIfInBounds_toArray, List.set_cons_zero, List.set_cons_succ, i64_w, i32_w]
                    rfl
                  refine one_ (i := 24) (N := some 74) #[true, true, true, true, true, true, true, true, true, true, true, true, true, true, true, true, true, true, true, true, true, true, true, true, true, false, false] rfl rfl (one_of HT_.out (by kernel_rfl)) (by decide) (fun K hK => ?_)
                  refine goes_ Try.func15 (by kernel_rfl) rfl #[.agg #[.int .i64 ((rd_T23 y162 x46_1).f0), .int .i64 ((rd_T23 y162 x46_1).f1)], .int .i64 (wrap64 (t173 - 6))] (by rfl) rfl rfl (by (try simp only [List.map_toArray, List.map_cons, List.map_nil]); first | done | rfl | (simp only [List.length_drop, List.length_take]; rfl)) ?_
                  with_reducible refine (omnibusref11_Near.calls ((rd_T23 y162 x46_1).f0) ((rd_T23 y162 x46_1).f1) (wrap64 (t173 - 6)) t174 _ A46.out).mono ?_
                  rintro e w54 ⟨rfl, hb⟩
                  refine ⟨_, rfl, ?_⟩
                  have n0_ := Aside0.mk (Kd.R_below (by (with_reducible repeat (first | apply Kd.R_alloc | apply Kd.R_drewN | apply Kd.R_drew)); exact HO_44.out) hb)
                  have n1_ := Aside0.mk (blk_below (g := gb154) (o := .cells #[.int .i64 a0_0, .int .i64 a0_1] 23 (0, 0)) (by (with_reducible repeat (first | refine blk_drewN ?_ _ | refine blk_drew ?_ | refine blk_alloc ?_ _)); exact BK154.out) hb)
                  have n2_ := Aside0.mk (blk_below (g := gb166) (o := .cells #[.int .i64 ((rd_T23 y162 x46_1).f0), .int .i64 ((rd_T23 y162 x46_1).f1)] 23 (0, 0)) (by (with_reducible repeat (first | refine blk_drewN ?_ _ | refine blk_drew ?_ | refine blk_alloc ?_ _)); exact BK166.out) hb)
                  have n3_ := Aside0.mk (below_step (by repeat (first | (with_reducible first | exact HB.out | apply below_alloc | apply pw_below_drewN | apply below_drew1 | refine below_set ?_ GE154.out | refine below_set ?_ GE166.out) | exact HB.out)) hb)
                  clear HO_44
                  clear BK154
                  clear BK166
                  clear HB
                  have HO_44 := n0_
                  have BK154 := n1_
                  have BK166 := n2_
                  have HB := n3_
                  clear n0_ n1_ n2_ n3_
                  (try clear hb)
                  (try clear hb2)
                  (try clear hk)
                  (try clear hi)
                  refine hK.out _ _ ⟨(blk_cell BK166.out 0).trans rfl, (blk_cell BK166.out 1).trans rfl⟩ (fun hHeld => ?_)
                  clear hK K
                  refine norm_ (a' := ?_) ?_ ?_
                  rotate_left
                  · show Act.put _ (some 74) _ = _
                    simp only [Act.put, List.setIfInBounds_toArray, List.set_cons_zero, List.set_cons_succ, i64_w, i32_w]
                    rfl
                  refine pure_ (i := 25) (N := some 75) (v := ?_) (a' := ?_) #[true, true, true, true, true, true, true, true, true, true, true, true, true, true, true, true, true, true, true, true, true, true, true, true, true, true, false] rfl rfl (any_of HT_.out (by kernel_rfl)) (fun _ _ _ h => h) (Or.inl ⟨by rfl, ?_⟩) ?_ ?_
                  rotate_left
                  · intro w'
                    go_simp
                    with_reducible rfl
                  rotate_left
                  · simp only [Act.put, List.setIfInBounds_toArray, List.set_cons_zero, List.set_cons_succ, i64_w, i32_w]
                    rfl
                  refine pure_ (i := 26) (N := some 76) (v := ?_) (a' := ?_) #[true, true, true, true, true, true, true, true, true, true, true, true, true, true, true, true, true, true, true, true, true, true, true, true, true, true, true] rfl rfl (any_of HT_.out (by kernel_rfl)) (fun _ _ _ h => h) (Or.inl ⟨by rfl, ?_⟩) ?_ ?_
                  rotate_left
                  · intro w'
                    go_simp
                    with_reducible rfl
                  rotate_left
                  · simp only [Act.put, List.setIfInBounds_toArray, List.set_cons_zero, List.set_cons_succ, i64_w, i32_w]
                    rfl
                  refine done_ (done_of HT_.out (by kernel_rfl)) ?_
                  try go_wp2
                  go_meet
                  case rel => exact ⟨_, ((t172 != t174)), (by first | rfl | (simp; done) | (simp [*]; done)), H', ⟨by have := HK1.out; first | omega | exact Nat.le_refl _⟩, ⟨by (with_reducible repeat (first | apply Kd.R_alloc | apply Kd.R_drewN | apply Kd.R_drew)); exact HO_44.out⟩, ⟨by (with_reducible repeat (first | refine blk_drewN ?_ _ | refine blk_drew ?_ | refine blk_alloc ?_ _)); exact BK154.out⟩, ⟨by (with_reducible repeat (first | refine blk_drewN ?_ _ | refine blk_drew ?_ | refine blk_alloc ?_ _)); exact BK166.out⟩, ⟨by repeat (first | (with_reducible first | exact HB.out | apply below_alloc | apply pw_below_drewN | apply below_drew1 | refine below_set ?_ GE154.out | refine below_set ?_ GE166.out) | exact HB.out)⟩⟩
            case rest =>
              clear HC23
              try clear c1
              try clear p2
              try clear c3
              try clear p6
              try clear c11
              try clear c12
              try clear c13
              try clear c14
              try clear c15
              try clear c36
              try clear c36b0
              try clear c36b1
              try clear c36b2
              obtain ⟨kq, x76_22, rfl, HA, HJ22, HO_44, BK154, BK166, HB⟩ := hcut
              cases kq with
              | zero => exact absurd HA.out (by simp [omnibuslaw11_LatticeTells.j1])
              | succ kj22 =>
                have H := HA.out
                clear HA
                simp only [omnibuslaw11_LatticeTells.j1] at H
                by_cases c55 : x76_22 = true
                · rw [if_pos c55] at H; exact absurd (Option.some.inj H) (by rw [HT.out]; decide)
                · replace c55 := Bool.eq_false_iff.mpr c55
                  subst c55
                  have H1 : ((omnibuslaw11_pick.f a3 2199023255552).bind fun t175 => ((omnibuslaw11_pick.f a4 2199023255552).bind fun t176 => ((omnibuslaw11_pick.f a3 100).bind fun t177 => ((omnibuslaw11_pick.f a4 100).bind fun t178 => ((some (([(⟨a3, a4⟩ : S30), (⟨wrap64 (t175 - 1099511627776), wrap64 (t176 - 1099511627776)⟩ : S30), (⟨wrap64 (t177 - 50), wrap64 (t178 - 50)⟩ : S30)] : List (S30)) : List (S30))).bind fun y179 => (omnibuslaw11_LatticeTells.l1 kj22 a3 a4 a5 t155 y162 (y162.length : Int) x46_1 y179 (y179.length : Int) 0 ((rd_T23 y162 x46_1).f0) ((rd_T23 y162 x46_1).f1))))))) = some r := by rw [if_neg (show ¬ (false = true) by decide)] at H; exact H
                  clear H
                  have H := H1
                  clear H1
                  replace H := Option.bind_eq_some_iff.mp H
                  obtain ⟨t175, A560, H⟩ := H
                  replace H : ((omnibuslaw11_pick.f a4 2199023255552).bind fun t176 => ((omnibuslaw11_pick.f a3 100).bind fun t177 => ((omnibuslaw11_pick.f a4 100).bind fun t178 => ((some (([(⟨a3, a4⟩ : S30), (⟨wrap64 (t175 - 1099511627776), wrap64 (t176 - 1099511627776)⟩ : S30), (⟨wrap64 (t177 - 50), wrap64 (t178 - 50)⟩ : S30)] : List (S30)) : List (S30))).bind fun y179 => (omnibuslaw11_LatticeTells.l1 kj22 a3 a4 a5 t155 y162 (y162.length : Int) x46_1 y179 (y179.length : Int) 0 ((rd_T23 y162 x46_1).f0) ((rd_T23 y162 x46_1).f1)))))) = some r := H
                  have A56 := Aside0.mk A560
                  clear A560
                  replace H := Option.bind_eq_some_iff.mp H
                  obtain ⟨t176, A570, H⟩ := H
                  replace H : ((omnibuslaw11_pick.f a3 100).bind fun t177 => ((omnibuslaw11_pick.f a4 100).bind fun t178 => ((some (([(⟨a3, a4⟩ : S30), (⟨wrap64 (t175 - 1099511627776), wrap64 (t176 - 1099511627776)⟩ : S30), (⟨wrap64 (t177 - 50), wrap64 (t178 - 50)⟩ : S30)] : List (S30)) : List (S30))).bind fun y179 => (omnibuslaw11_LatticeTells.l1 kj22 a3 a4 a5 t155 y162 (y162.length : Int) x46_1 y179 (y179.length : Int) 0 ((rd_T23 y162 x46_1).f0) ((rd_T23 y162 x46_1).f1))))) = some r := H
                  have A57 := Aside0.mk A570
                  clear A570
                  replace H := Option.bind_eq_some_iff.mp H
                  obtain ⟨t177, A580, H⟩ := H
                  replace H : ((omnibuslaw11_pick.f a4 100).bind fun t178 => ((some (([(⟨a3, a4⟩ : S30), (⟨wrap64 (t175 - 1099511627776), wrap64 (t176 - 1099511627776)⟩ : S30), (⟨wrap64 (t177 - 50), wrap64 (t178 - 50)⟩ : S30)] : List (S30)) : List (S30))).bind fun y179 => (omnibuslaw11_LatticeTells.l1 kj22 a3 a4 a5 t155 y162 (y162.length : Int) x46_1 y179 (y179.length : Int) 0 ((rd_T23 y162 x46_1).f0) ((rd_T23 y162 x46_1).f1)))) = some r := H
                  have A58 := Aside0.mk A580
                  clear A580
                  replace H := Option.bind_eq_some_iff.mp H
                  obtain ⟨t178, A590, H⟩ := H
                  replace H : ((some (([(⟨a3, a4⟩ : S30), (⟨wrap64 (t175 - 1099511627776), wrap64 (t176 - 1099511627776)⟩ : S30), (⟨wrap64 (t177 - 50), wrap64 (t178 - 50)⟩ : S30)] : List (S30)) : List (S30))).bind fun y179 => (omnibuslaw11_LatticeTells.l1 kj22 a3 a4 a5 t155 y162 (y162.length : Int) x46_1 y179 (y179.length : Int) 0 ((rd_T23 y162 x46_1).f0) ((rd_T23 y162 x46_1).f1))) = some r := H
                  have A59 := Aside0.mk A590
                  clear A590
                  obtain ⟨y179, hy179⟩ : ∃ y_ : List (S30), y_ = (([(⟨a3, a4⟩ : S30), (⟨wrap64 (t175 - 1099511627776), wrap64 (t176 - 1099511627776)⟩ : S30), (⟨wrap64 (t177 - 50), wrap64 (t178 - 50)⟩ : S30)] : List (S30))) := ⟨_, rfl⟩
                  replace H : (omnibuslaw11_LatticeTells.l1 kj22 a3 a4 a5 t155 y162 (y162.length : Int) x46_1 y179 (y179.length : Int) 0 ((rd_T23 y162 x46_1).f0) ((rd_T23 y162 x46_1).f1)) = some r := by first | (rw [hy179]; with_reducible exact H) | (have H2_ := (Option.bind_some _ _).symm.trans H; rw [hy179]; with_reducible exact H2_) | (have H2_ := (Option.bind_some _ _).symm.trans H; with_reducible exact H2_) | with_reducible exact H | (rw [hy179]; exact H) | exact H
                  have Ny179 := Aside0.mk hy179
                  clear hy179
                  have H' := Aside0.mk H
                  clear H
                  go_wp2_with (first | ((with_reducible refine gate_callee (f := 11) rfl ?_); refine goesL_ (some 81) rfl rfl Try.func11 (by kernel_rfl) rfl #[.int .i64 a3, .int .i64 2199023255552] rfl (by (try simp only [List.map_toArray, List.map_cons, List.map_nil]); first | done | rfl | (simp only [List.length_drop, List.length_take]; rfl)) ?_; (with_reducible refine (omnibuslaw11_pick.calls a3 2199023255552 t175 _ A56.out).mono ?_); rintro e w' ⟨rfl, ⟨nd, rfl⟩⟩; refine ⟨_, rfl, ?_⟩) | ((with_reducible refine gate_callee (f := 11) rfl ?_); refine goesL_ (some 84) rfl rfl Try.func11 (by kernel_rfl) rfl #[.int .i64 a4, .int .i64 2199023255552] rfl (by (try simp only [List.map_toArray, List.map_cons, List.map_nil]); first | done | rfl | (simp only [List.length_drop, List.length_take]; rfl)) ?_; (with_reducible refine (omnibuslaw11_pick.calls a4 2199023255552 t176 _ A57.out).mono ?_); rintro e w' ⟨rfl, ⟨nd, rfl⟩⟩; refine ⟨_, rfl, ?_⟩) | ((with_reducible refine gate_callee (f := 11) rfl ?_); refine goesL_ (some 88) rfl rfl Try.func11 (by kernel_rfl) rfl #[.int .i64 a3, .int .i64 100] rfl (by (try simp only [List.map_toArray, List.map_cons, List.map_nil]); first | done | rfl | (simp only [List.length_drop, List.length_take]; rfl)) ?_; (with_reducible refine (omnibuslaw11_pick.calls a3 100 t177 _ A58.out).mono ?_); rintro e w' ⟨rfl, ⟨nd, rfl⟩⟩; refine ⟨_, rfl, ?_⟩) | ((with_reducible refine gate_callee (f := 11) rfl ?_); refine goesL_ (some 91) rfl rfl Try.func11 (by kernel_rfl) rfl #[.int .i64 a4, .int .i64 100] rfl (by (try simp only [List.map_toArray, List.map_cons, List.map_nil]); first | done | rfl | (simp only [List.length_drop, List.length_take]; rfl)) ?_; (with_reducible refine (omnibuslaw11_pick.calls a4 100 t178 _ A59.out).mono ?_); rintro e w' ⟨rfl, ⟨nd, rfl⟩⟩; refine ⟨_, rfl, ?_⟩) | ((with_reducible refine gate_dst (N := 94) rfl ?_); refine Kd.R_lit k30 _ 30 ?hg (N := 94) ?hd (xs := ([(⟨a3, a4⟩ : S30), (⟨wrap64 (t175 - 1099511627776), wrap64 (t176 - 1099511627776)⟩ : S30), (⟨wrap64 (t177 - 50), wrap64 (t178 - 50)⟩ : S30)] : List (S30))) (inner := [.int .i64 a3, .int .i64 a4, .int .i64 (wrap64 (t175 - 1099511627776)), .int .i64 (wrap64 (t176 - 1099511627776)), .int .i64 (wrap64 (t177 - 50)), .int .i64 (wrap64 (t178 - 50))]) (ok := fun _ => True) (okp := fun _ => True) ?hr ?hp (fun _ hk => hk) trivial (Below.refl _ _) (Nat.le_refl _) (by simp) ?_; (case hd => rfl); (case hg => rfl); (case hr => first | (go_simp; done) | (go_simp; rfl)); (case hp => exact (Reps.c2 (show Kd.M k30 _ _ _ (⟨a3, a4⟩ : S30) [.int .i64 a3, .int .i64 a4] from (k30_mkM _ _ _ (⟨a3, a4⟩ : S30) )) (Reps.c2 (show Kd.M k30 _ _ _ (⟨wrap64 (t175 - 1099511627776), wrap64 (t176 - 1099511627776)⟩ : S30) [.int .i64 (wrap64 (t175 - 1099511627776)), .int .i64 (wrap64 (t176 - 1099511627776))] from (k30_mkM _ _ _ (⟨wrap64 (t175 - 1099511627776), wrap64 (t176 - 1099511627776)⟩ : S30) )) (Reps.c2 (show Kd.M k30 _ _ _ (⟨wrap64 (t177 - 50), wrap64 (t178 - 50)⟩ : S30) [.int .i64 (wrap64 (t177 - 50)), .int .i64 (wrap64 (t178 - 50))] from (k30_mkM _ _ _ (⟨wrap64 (t177 - 50), wrap64 (t178 - 50)⟩ : S30) )) (Reps.none _ _))))); intro v180 w60 ho61 hb hg_ hnew_; clear hg_ hnew_; (first | rw [← Ny179.out] at ho61 | (simp only [Int.reduceToNat] at ho61; rw [← Ny179.out] at ho61)); have n0_ := Aside0.mk (Kd.R_below (by (with_reducible repeat (first | apply Kd.R_alloc | apply Kd.R_drewN | apply Kd.R_drew)); exact HO_44.out) hb); have n1_ := Aside0.mk (Kd.R_lower ho61 (below_size (by repeat (first | (with_reducible first | exact HB.out | apply below_alloc | apply pw_below_drewN | apply below_drew1 | refine below_set ?_ GE154.out | refine below_set ?_ GE166.out) | exact HB.out)))); have n2_ := Aside0.mk (blk_below (g := gb154) (o := .cells #[.int .i64 a0_0, .int .i64 a0_1] 23 (0, 0)) (by (with_reducible repeat (first | refine blk_drewN ?_ _ | refine blk_drew ?_ | refine blk_alloc ?_ _)); exact BK154.out) hb); have n3_ := Aside0.mk (blk_below (g := gb166) (o := .cells #[.int .i64 ((rd_T23 y162 x46_1).f0), .int .i64 ((rd_T23 y162 x46_1).f1)] 23 (0, 0)) (by (with_reducible repeat (first | refine blk_drewN ?_ _ | refine blk_drew ?_ | refine blk_alloc ?_ _)); exact BK166.out) hb); have n4_ := Aside0.mk (below_step (by repeat (first | (with_reducible first | exact HB.out | apply below_alloc | apply pw_below_drewN | apply below_drew1 | refine below_set ?_ GE154.out | refine below_set ?_ GE166.out) | exact HB.out)) hb); clear HO_44; clear BK154; clear BK166; clear HB; have HO_44 := n0_; have HO181 := n1_; have BK154 := n2_; have BK166 := n3_; have HB := n4_; clear n0_ n1_ n2_ n3_ n4_; clear hb ho61; obtain ⟨Ao62, co62, eo62⟩ := Kd.R_slice HO181.out; subst eo62))
                  go_loopg [96] kj22 (fun kq v96 w' => ∃ (x96_3 : Int), v96 = .int .i64 x96_3 ∧ Aside0 (omnibuslaw11_LatticeTells.l1 kq a3 a4 a5 t155 y162 (y162.length : Int) x46_1 y179 (y179.length : Int) x96_3 ((rd_T23 y162 x46_1).f0) ((rd_T23 y162 x46_1).f1) = some r) ∧ Aside0 (kq ≤ kj22) ∧ Aside0 (Kd.R k23 23 w' w.heap.size (fun k_ => k_ ≠ gb154 ∧ k_ ≠ gb166) (.slice (some ad165) y162.length co19) y162) ∧ Aside0 (Kd.R k30 30 w' w.heap.size (fun _ => True) (.slice Ao62 y179.length co62) y179) ∧ Aside0 (w'.heap[gb154]? = some (.cells #[.int .i64 a0_0, .int .i64 a0_1] 23 (0, 0))) ∧ Aside0 (w'.heap[gb166]? = some (.cells #[.int .i64 ((rd_T23 y162 x46_1).f0), .int .i64 ((rd_T23 y162 x46_1).f1)] 23 (0, 0))) ∧ Aside0 (Below w.heap.size w w'))
                  case atStart => exact ⟨(0), (by first | rfl | (simp; done) | (simp [*]; done)), H', ⟨Nat.le_refl _⟩, ⟨by (with_reducible repeat (first | apply Kd.R_alloc | apply Kd.R_drewN | apply Kd.R_drew)); exact HO_44.out⟩, ⟨by (with_reducible repeat (first | apply Kd.R_alloc | apply Kd.R_drewN | apply Kd.R_drew)); exact HO181.out⟩, ⟨by (with_reducible repeat (first | refine blk_drewN ?_ _ | refine blk_drew ?_ | refine blk_alloc ?_ _)); exact BK154.out⟩, ⟨by (with_reducible repeat (first | refine blk_drewN ?_ _ | refine blk_drew ?_ | refine blk_alloc ?_ _)); exact BK166.out⟩, ⟨by repeat (first | (with_reducible first | exact HB.out | apply below_alloc | apply pw_below_drewN | apply below_drew1 | refine below_set ?_ GE154.out | refine below_set ?_ GE166.out) | exact HB.out)⟩⟩
                  case round =>
                    clear H'
                    try clear c1
                    try clear c2
                    try clear p2
                    try clear c3
                    try clear c5
                    try clear p6
                    try clear c11
                    try clear c12
                    try clear c13
                    try clear c14
                    try clear c15
                    try clear c36
                    try clear c36b0
                    try clear c36b1
                    try clear c36b2
                    try clear c55
                    try clear p2
                    try clear p6
                    obtain ⟨x96_3, rfl, HA, HK3, HO_44, HO_94, BK154, BK166, HB⟩ := hrel
                    cases gk with
                    | zero => exact absurd HA.out (by simp [omnibuslaw11_LatticeTells.l1])
                    | succ k3 =>
                      have H := HA.out
                      clear HA
                      simp only [omnibuslaw11_LatticeTells.l1] at H
                      by_cases c63 : x96_3 < (y179.length : Int)
                      · rw [if_pos c63] at H
                        have c63b0 : decide (x96_3 < (y179.length : Int)) = true := decide_eq_true c63
                        clear c63
                        by_cases c64 : 0 ≤ x96_3
                        · rw [if_pos c64] at H
                          have c64b0 : decide (0 ≤ x96_3) = true := decide_eq_true c64
                          clear c64
                          by_cases c65 : x96_3 < (y179.length : Int)
                          · rw [if_pos c65] at H
                            have c65b0 : decide (x96_3 < (y179.length : Int)) = true := decide_eq_true c65
                            clear c65
                            replace H := Option.bind_eq_some_iff.mp H
                            obtain ⟨⟨t184, t185⟩, A660, H⟩ := H
                            replace H : ((omnibusref11_Next.f ((rd_T23 y162 x46_1).f0) ((rd_T23 y162 x46_1).f1) ((rd_T30 y179 x96_3).f0)).bind fun bt186 => ((lattice_Epoch.f ((rd_T23 y162 x46_1).f0) ((rd_T23 y162 x46_1).f1) ((rd_T30 y179 x96_3).f0)).bind fun bt188 => ((omnibusref11_Epoch.f ((rd_T23 y162 x46_1).f0) ((rd_T23 y162 x46_1).f1) ((rd_T30 y179 x96_3).f0)).bind fun bt190 => ((lattice_Order.f ((rd_T23 y162 x46_1).f0) ((rd_T23 y162 x46_1).f1) ((rd_T30 y179 x96_3).f0) ((rd_T30 y179 x96_3).f1)).bind fun bt192 => ((omnibusref11_Order.f k3 ((rd_T23 y162 x46_1).f0) ((rd_T23 y162 x46_1).f1) ((rd_T30 y179 x96_3).f0) ((rd_T30 y179 x96_3).f1)).bind fun bt194 => ((lattice_Begin.f ((rd_T23 y162 x46_1).f0) ((rd_T23 y162 x46_1).f1) ((rd_T30 y179 x96_3).f1)).bind fun bt196 => ((omnibusref11_Begin.f ((rd_T23 y162 x46_1).f0) ((rd_T23 y162 x46_1).f1) ((rd_T30 y179 x96_3).f1)).bind fun bt198 => (if t184 = bt186.1 then (if t185 = bt186.2 then (if bt188.1 = bt190.1 then (if bt188.2 = bt190.2 then (if bt192.1 = bt194.1 then (if bt192.2 = bt194.2 then (if bt196.1 = bt198.1 then (if bt196.2 = bt198.2 then ((lattice_Active.f ((rd_T23 y162 x46_1).f0) ((rd_T23 y162 x46_1).f1) ((rd_T30 y179 x96_3).f0)).bind fun t200 => ((omnibusref11_Active.f ((rd_T23 y162 x46_1).f0) ((rd_T23 y162 x46_1).f1) ((rd_T30 y179 x96_3).f0)).bind fun t201 => (if (t200 != t201) = true then (some false) else (omnibuslaw11_LatticeTells.l1 k3 a3 a4 a5 t155 y162 (y162.length : Int) x46_1 y179 (y179.length : Int) (wrap64 (x96_3 + 1)) ((rd_T23 y162 x46_1).f0) ((rd_T23 y162 x46_1).f1))))) else (some false)) else (some false)) else (some false)) else (some false)) else (some false)) else (some false)) else (some false)) else (some false))))))))) = some r := H
                            have A66 := Aside0.mk A660
                            clear A660
                            replace H := Option.bind_eq_some_iff.mp H
                            obtain ⟨⟨t186, t187⟩, A670, H⟩ := H
                            replace H : ((lattice_Epoch.f ((rd_T23 y162 x46_1).f0) ((rd_T23 y162 x46_1).f1) ((rd_T30 y179 x96_3).f0)).bind fun bt188 => ((omnibusref11_Epoch.f ((rd_T23 y162 x46_1).f0) ((rd_T23 y162 x46_1).f1) ((rd_T30 y179 x96_3).f0)).bind fun bt190 => ((lattice_Order.f ((rd_T23 y162 x46_1).f0) ((rd_T23 y162 x46_1).f1) ((rd_T30 y179 x96_3).f0) ((rd_T30 y179 x96_3).f1)).bind fun bt192 => ((omnibusref11_Order.f k3 ((rd_T23 y162 x46_1).f0) ((rd_T23 y162 x46_1).f1) ((rd_T30 y179 x96_3).f0) ((rd_T30 y179 x96_3).f1)).bind fun bt194 => ((lattice_Begin.f ((rd_T23 y162 x46_1).f0) ((rd_T23 y162 x46_1).f1) ((rd_T30 y179 x96_3).f1)).bind fun bt196 => ((omnibusref11_Begin.f ((rd_T23 y162 x46_1).f0) ((rd_T23 y162 x46_1).f1) ((rd_T30 y179 x96_3).f1)).bind fun bt198 => (if t184 = t186 then (if t185 = t187 then (if bt188.1 = bt190.1 then (if bt188.2 = bt190.2 then (if bt192.1 = bt194.1 then (if bt192.2 = bt194.2 then (if bt196.1 = bt198.1 then (if bt196.2 = bt198.2 then ((lattice_Active.f ((rd_T23 y162 x46_1).f0) ((rd_T23 y162 x46_1).f1) ((rd_T30 y179 x96_3).f0)).bind fun t200 => ((omnibusref11_Active.f ((rd_T23 y162 x46_1).f0) ((rd_T23 y162 x46_1).f1) ((rd_T30 y179 x96_3).f0)).bind fun t201 => (if (t200 != t201) = true then (some false) else (omnibuslaw11_LatticeTells.l1 k3 a3 a4 a5 t155 y162 (y162.length : Int) x46_1 y179 (y179.length : Int) (wrap64 (x96_3 + 1)) ((rd_T23 y162 x46_1).f0) ((rd_T23 y162 x46_1).f1))))) else (some false)) else (some false)) else (some false)) else (some false)) else (some false)) else (some false)) else (some false)) else (some false)))))))) = some r := H
                            have A67 := Aside0.mk A670
                            clear A670
                            replace H := Option.bind_eq_some_iff.mp H
                            obtain ⟨⟨t188, t189⟩, A680, H⟩ := H
                            replace H : ((omnibusref11_Epoch.f ((rd_T23 y162 x46_1).f0) ((rd_T23 y162 x46_1).f1) ((rd_T30 y179 x96_3).f0)).bind fun bt190 => ((lattice_Order.f ((rd_T23 y162 x46_1).f0) ((rd_T23 y162 x46_1).f1) ((rd_T30 y179 x96_3).f0) ((rd_T30 y179 x96_3).f1)).bind fun bt192 => ((omnibusref11_Order.f k3 ((rd_T23 y162 x46_1).f0) ((rd_T23 y162 x46_1).f1) ((rd_T30 y179 x96_3).f0) ((rd_T30 y179 x96_3).f1)).bind fun bt194 => ((lattice_Begin.f ((rd_T23 y162 x46_1).f0) ((rd_T23 y162 x46_1).f1) ((rd_T30 y179 x96_3).f1)).bind fun bt196 => ((omnibusref11_Begin.f ((rd_T23 y162 x46_1).f0) ((rd_T23 y162 x46_1).f1) ((rd_T30 y179 x96_3).f1)).bind fun bt198 => (if t184 = t186 then (if t185 = t187 then (if t188 = bt190.1 then (if t189 = bt190.2 then (if bt192.1 = bt194.1 then (if bt192.2 = bt194.2 then (if bt196.1 = bt198.1 then (if bt196.2 = bt198.2 then ((lattice_Active.f ((rd_T23 y162 x46_1).f0) ((rd_T23 y162 x46_1).f1) ((rd_T30 y179 x96_3).f0)).bind fun t200 => ((omnibusref11_Active.f ((rd_T23 y162 x46_1).f0) ((rd_T23 y162 x46_1).f1) ((rd_T30 y179 x96_3).f0)).bind fun t201 => (if (t200 != t201) = true then (some false) else (omnibuslaw11_LatticeTells.l1 k3 a3 a4 a5 t155 y162 (y162.length : Int) x46_1 y179 (y179.length : Int) (wrap64 (x96_3 + 1)) ((rd_T23 y162 x46_1).f0) ((rd_T23 y162 x46_1).f1))))) else (some false)) else (some false)) else (some false)) else (some false)) else (some false)) else (some false)) else (some false)) else (some false))))))) = some r := H
                            have A68 := Aside0.mk A680
                            clear A680
                            replace H := Option.bind_eq_some_iff.mp H
                            obtain ⟨⟨t190, t191⟩, A690, H⟩ := H
                            replace H : ((lattice_Order.f ((rd_T23 y162 x46_1).f0) ((rd_T23 y162 x46_1).f1) ((rd_T30 y179 x96_3).f0) ((rd_T30 y179 x96_3).f1)).bind fun bt192 => ((omnibusref11_Order.f k3 ((rd_T23 y162 x46_1).f0) ((rd_T23 y162 x46_1).f1) ((rd_T30 y179 x96_3).f0) ((rd_T30 y179 x96_3).f1)).bind fun bt194 => ((lattice_Begin.f ((rd_T23 y162 x46_1).f0) ((rd_T23 y162 x46_1).f1) ((rd_T30 y179 x96_3).f1)).bind fun bt196 => ((omnibusref11_Begin.f ((rd_T23 y162 x46_1).f0) ((rd_T23 y162 x46_1).f1) ((rd_T30 y179 x96_3).f1)).bind fun bt198 => (if t184 = t186 then (if t185 = t187 then (if t188 = t190 then (if t189 = t191 then (if bt192.1 = bt194.1 then (if bt192.2 = bt194.2 then (if bt196.1 = bt198.1 then (if bt196.2 = bt198.2 then ((lattice_Active.f ((rd_T23 y162 x46_1).f0) ((rd_T23 y162 x46_1).f1) ((rd_T30 y179 x96_3).f0)).bind fun t200 => ((omnibusref11_Active.f ((rd_T23 y162 x46_1).f0) ((rd_T23 y162 x46_1).f1) ((rd_T30 y179 x96_3).f0)).bind fun t201 => (if (t200 != t201) = true then (some false) else (omnibuslaw11_LatticeTells.l1 k3 a3 a4 a5 t155 y162 (y162.length : Int) x46_1 y179 (y179.length : Int) (wrap64 (x96_3 + 1)) ((rd_T23 y162 x46_1).f0) ((rd_T23 y162 x46_1).f1))))) else (some false)) else (some false)) else (some false)) else (some false)) else (some false)) else (some false)) else (some false)) else (some false)))))) = some r := H
                            have A69 := Aside0.mk A690
                            clear A690
                            replace H := Option.bind_eq_some_iff.mp H
                            obtain ⟨⟨t192, t193⟩, A700, H⟩ := H
                            replace H : ((omnibusref11_Order.f k3 ((rd_T23 y162 x46_1).f0) ((rd_T23 y162 x46_1).f1) ((rd_T30 y179 x96_3).f0) ((rd_T30 y179 x96_3).f1)).bind fun bt194 => ((lattice_Begin.f ((rd_T23 y162 x46_1).f0) ((rd_T23 y162 x46_1).f1) ((rd_T30 y179 x96_3).f1)).bind fun bt196 => ((omnibusref11_Begin.f ((rd_T23 y162 x46_1).f0) ((rd_T23 y162 x46_1).f1) ((rd_T30 y179 x96_3).f1)).bind fun bt198 => (if t184 = t186 then (if t185 = t187 then (if t188 = t190 then (if t189 = t191 then (if t192 = bt194.1 then (if t193 = bt194.2 then (if bt196.1 = bt198.1 then (if bt196.2 = bt198.2 then ((lattice_Active.f ((rd_T23 y162 x46_1).f0) ((rd_T23 y162 x46_1).f1) ((rd_T30 y179 x96_3).f0)).bind fun t200 => ((omnibusref11_Active.f ((rd_T23 y162 x46_1).f0) ((rd_T23 y162 x46_1).f1) ((rd_T30 y179 x96_3).f0)).bind fun t201 => (if (t200 != t201) = true then (some false) else (omnibuslaw11_LatticeTells.l1 k3 a3 a4 a5 t155 y162 (y162.length : Int) x46_1 y179 (y179.length : Int) (wrap64 (x96_3 + 1)) ((rd_T23 y162 x46_1).f0) ((rd_T23 y162 x46_1).f1))))) else (some false)) else (some false)) else (some false)) else (some false)) else (some false)) else (some false)) else (some false)) else (some false))))) = some r := H
                            have A70 := Aside0.mk A700
                            clear A700
                            replace H := Option.bind_eq_some_iff.mp H
                            obtain ⟨⟨t194, t195⟩, A710, H⟩ := H
                            replace H : ((lattice_Begin.f ((rd_T23 y162 x46_1).f0) ((rd_T23 y162 x46_1).f1) ((rd_T30 y179 x96_3).f1)).bind fun bt196 => ((omnibusref11_Begin.f ((rd_T23 y162 x46_1).f0) ((rd_T23 y162 x46_1).f1) ((rd_T30 y179 x96_3).f1)).bind fun bt198 => (if t184 = t186 then (if t185 = t187 then (if t188 = t190 then (if t189 = t191 then (if t192 = t194 then (if t193 = t195 then (if bt196.1 = bt198.1 then (if bt196.2 = bt198.2 then ((lattice_Active.f ((rd_T23 y162 x46_1).f0) ((rd_T23 y162 x46_1).f1) ((rd_T30 y179 x96_3).f0)).bind fun t200 => ((omnibusref11_Active.f ((rd_T23 y162 x46_1).f0) ((rd_T23 y162 x46_1).f1) ((rd_T30 y179 x96_3).f0)).bind fun t201 => (if (t200 != t201) = true then (some false) else (omnibuslaw11_LatticeTells.l1 k3 a3 a4 a5 t155 y162 (y162.length : Int) x46_1 y179 (y179.length : Int) (wrap64 (x96_3 + 1)) ((rd_T23 y162 x46_1).f0) ((rd_T23 y162 x46_1).f1))))) else (some false)) else (some false)) else (some false)) else (some false)) else (some false)) else (some false)) else (some false)) else (some false)))) = some r := H
                            have A71 := Aside0.mk A710
                            clear A710
                            replace H := Option.bind_eq_some_iff.mp H
                            obtain ⟨⟨t196, t197⟩, A720, H⟩ := H
                            replace H : ((omnibusref11_Begin.f ((rd_T23 y162 x46_1).f0) ((rd_T23 y162 x46_1).f1) ((rd_T30 y179 x96_3).f1)).bind fun bt198 => (if t184 = t186 then (if t185 = t187 then (if t188 = t190 then (if t189 = t191 then (if t192 = t194 then (if t193 = t195 then (if t196 = bt198.1 then (if t197 = bt198.2 then ((lattice_Active.f ((rd_T23 y162 x46_1).f0) ((rd_T23 y162 x46_1).f1) ((rd_T30 y179 x96_3).f0)).bind fun t200 => ((omnibusref11_Active.f ((rd_T23 y162 x46_1).f0) ((rd_T23 y162 x46_1).f1) ((rd_T30 y179 x96_3).f0)).bind fun t201 => (if (t200 != t201) = true then (some false) else (omnibuslaw11_LatticeTells.l1 k3 a3 a4 a5 t155 y162 (y162.length : Int) x46_1 y179 (y179.length : Int) (wrap64 (x96_3 + 1)) ((rd_T23 y162 x46_1).f0) ((rd_T23 y162 x46_1).f1))))) else (some false)) else (some false)) else (some false)) else (some false)) else (some false)) else (some false)) else (some false)) else (some false))) = some r := H
                            have A72 := Aside0.mk A720
                            clear A720
                            replace H := Option.bind_eq_some_iff.mp H
                            obtain ⟨⟨t198, t199⟩, A730, H⟩ := H
                            replace H : (if t184 = t186 then (if t185 = t187 then (if t188 = t190 then (if t189 = t191 then (if t192 = t194 then (if t193 = t195 then (if t196 = t198 then (if t197 = t199 then ((lattice_Active.f ((rd_T23 y162 x46_1).f0) ((rd_T23 y162 x46_1).f1) ((rd_T30 y179 x96_3).f0)).bind fun t200 => ((omnibusref11_Active.f ((rd_T23 y162 x46_1).f0) ((rd_T23 y162 x46_1).f1) ((rd_T30 y179 x96_3).f0)).bind fun t201 => (if (t200 != t201) = true then (some false) else (omnibuslaw11_LatticeTells.l1 k3 a3 a4 a5 t155 y162 (y162.length : Int) x46_1 y179 (y179.length : Int) (wrap64 (x96_3 + 1)) ((rd_T23 y162 x46_1).f0) ((rd_T23 y162 x46_1).f1))))) else (some false)) else (some false)) else (some false)) else (some false)) else (some false)) else (some false)) else (some false)) else (some false)) = some r := H
                            have A73 := Aside0.mk A730
                            clear A730
                            by_cases c74 : t184 = t186
                            · rw [if_pos c74] at H
                              have c74b0 : (t184 == t186) = true := beq_iff_eq.mpr c74
                              have c74b1 : (t184 != t186) = false := bne_eq_false_iff_eq.mpr c74
                              clear c74
                              by_cases c75 : t185 = t187
                              · rw [if_pos c75] at H
                                have c75b0 : (t185 == t187) = true := beq_iff_eq.mpr c75
                                have c75b1 : (t185 != t187) = false := bne_eq_false_iff_eq.mpr c75
                                clear c75
                                by_cases c76 : t188 = t190
                                · rw [if_pos c76] at H
                                  have c76b0 : (t188 == t190) = true := beq_iff_eq.mpr c76
                                  have c76b1 : (t188 != t190) = false := bne_eq_false_iff_eq.mpr c76
                                  clear c76
                                  by_cases c77 : t189 = t191
                                  · rw [if_pos c77] at H
                                    have c77b0 : (t189 == t191) = true := beq_iff_eq.mpr c77
                                    have c77b1 : (t189 != t191) = false := bne_eq_false_iff_eq.mpr c77
                                    clear c77
                                    by_cases c78 : t192 = t194
                                    · rw [if_pos c78] at H
                                      have c78b0 : (t192 == t194) = true := beq_iff_eq.mpr c78
                                      have c78b1 : (t192 != t194) = false := bne_eq_false_iff_eq.mpr c78
                                      clear c78
                                      by_cases c79 : t193 = t195
                                      · rw [if_pos c79] at H
                                        have c79b0 : (t193 == t195) = true := beq_iff_eq.mpr c79
                                        have c79b1 : (t193 != t195) = false := bne_eq_false_iff_eq.mpr c79
                                        clear c79
                                        by_cases c80 : t196 = t198
                                        · rw [if_pos c80] at H
                                          have c80b0 : (t196 == t198) = true := beq_iff_eq.mpr c80
                                          have c80b1 : (t196 != t198) = false := bne_eq_false_iff_eq.mpr c80
                                          clear c80
                                          by_cases c81 : t197 = t199
                                          · rw [if_pos c81] at H
                                            have c81b0 : (t197 == t199) = true := beq_iff_eq.mpr c81
                                            have c81b1 : (t197 != t199) = false := bne_eq_false_iff_eq.mpr c81
                                            clear c81
                                            replace H := Option.bind_eq_some_iff.mp H
                                            obtain ⟨t200, A820, H⟩ := H
                                            replace H : ((omnibusref11_Active.f ((rd_T23 y162 x46_1).f0) ((rd_T23 y162 x46_1).f1) ((rd_T30 y179 x96_3).f0)).bind fun t201 => (if (t200 != t201) = true then (some false) else (omnibuslaw11_LatticeTells.l1 k3 a3 a4 a5 t155 y162 (y162.length : Int) x46_1 y179 (y179.length : Int) (wrap64 (x96_3 + 1)) ((rd_T23 y162 x46_1).f0) ((rd_T23 y162 x46_1).f1)))) = some r := H
                                            have A82 := Aside0.mk A820
                                            clear A820
                                            replace H := Option.bind_eq_some_iff.mp H
                                            obtain ⟨t201, A830, H⟩ := H
                                            replace H : (if (t200 != t201) = true then (some false) else (omnibuslaw11_LatticeTells.l1 k3 a3 a4 a5 t155 y162 (y162.length : Int) x46_1 y179 (y179.length : Int) (wrap64 (x96_3 + 1)) ((rd_T23 y162 x46_1).f0) ((rd_T23 y162 x46_1).f1))) = some r := H
                                            have A83 := Aside0.mk A830
                                            clear A830
                                            by_cases c84 : (t200 != t201) = true
                                            · first | (rw [if_pos c84] at H; exact absurd (Option.some.inj H) (by rw [HT.out]; decide); done) | (rw [if_pos c84] at H; exact absurd (tells_j1 H) (by rw [HT.out]; decide); done)
                                            · rw [if_neg c84] at H
                                              have c84b0 : (t200 != t201) = false := by simpa using c84
                                              (try (have c84b1 : decide (t200 = t201) = true := by simpa using c84))
                                              (try (have c84b2 : (t200 == t201) = true := by simpa using c84))
                                              clear c84
                                              have H' := Aside0.mk H
                                              clear H
                                              have p182 : 0 ≤ (x96_3 : Int) := of_decide_eq_true (by first | (with_reducible assumption) | assumption)
                                              have q182 : x96_3 < (y179.length : Int) := of_decide_eq_true (by first | (with_reducible assumption) | assumption)
                                              obtain ⟨ad182, e182, hx182_0, hx182_1⟩ := at_T30 (Kd.R_reads' HO_94.out).2.2 x96_3 p182 q182
                                              cases e182
                                              replace p182 := eq_true p182
                                              replace q182 := eq_true q182
                                              try go_wp2_with (first | ((with_reducible refine gate_dst (N := 17) rfl ?_); refine box_event ?hg (N := 17) ?hd (cs := #[.int .i64 0, .int .i64 0]) (t := 30) ?hr ?_; (case hd => rfl); (case hg => rfl); (case hr => first | (go_simp; done) | (go_simp; rfl)); intro gb183 hg w116 hbox hb; have n0_ := Aside0.mk (Kd.R_below (by (with_reducible repeat (first | apply Kd.R_alloc | apply Kd.R_drewN | apply Kd.R_drew)); exact HO_44.out) hb); have n1_ := Aside0.mk (Kd.R_below (Kd.R_elderB (by (with_reducible repeat (first | apply Kd.R_alloc | apply Kd.R_drewN | apply Kd.R_drew)); exact HO_94.out) gb183 (Nat.le_of_eq hg.symm)) hb); have n2_ := Aside0.mk (blk_below (g := gb154) (o := .cells #[.int .i64 a0_0, .int .i64 a0_1] 23 (0, 0)) (by (with_reducible repeat (first | refine blk_drewN ?_ _ | refine blk_drew ?_ | refine blk_alloc ?_ _)); exact BK154.out) hb); have n3_ := Aside0.mk (blk_below (g := gb166) (o := .cells #[.int .i64 ((rd_T23 y162 x46_1).f0), .int .i64 ((rd_T23 y162 x46_1).f1)] 23 (0, 0)) (by (with_reducible repeat (first | refine blk_drewN ?_ _ | refine blk_drew ?_ | refine blk_alloc ?_ _)); exact BK166.out) hb); have n4_ := Aside0.mk (below_step (by repeat (first | (with_reducible first | exact HB.out | apply below_alloc | apply pw_below_drewN | apply below_drew1 | refine below_set ?_ GE154.out | refine below_set ?_ GE166.out) | exact HB.out)) hb); have n5_ := Aside0.mk (hbox); have n6_ := Aside0.mk ((by rw [hg]; exact (below_size (by repeat (first | (with_reducible first | exact HB.out | apply below_alloc | apply pw_below_drewN | apply below_drew1 | refine below_set ?_ GE154.out | refine below_set ?_ GE166.out) | exact HB.out))) : w.heap.size ≤ gb183)); have n7_ := Aside0.mk ((by rw [hg]; exact (below_size (by repeat (first | (with_reducible first | exact HB.out | apply below_alloc | apply pw_below_drewN | apply below_drew1 | refine below_set ?_ GE154.out | refine below_set ?_ GE166.out) | exact HB.out))) : w.heap.size ≤ gb183)); have n8_ := Aside0.mk ((by rw [hg]; exact Nat.ne_of_lt (blk_lt (g := gb154) (o := .cells #[.int .i64 a0_0, .int .i64 a0_1] 23 (0, 0)) (by (with_reducible repeat (first | refine blk_drewN ?_ _ | refine blk_drew ?_ | refine blk_alloc ?_ _)); exact BK154.out)) : gb154 ≠ gb183)); have n9_ := Aside0.mk ((by rw [hg]; exact Nat.ne_of_gt (blk_lt (g := gb154) (o := .cells #[.int .i64 a0_0, .int .i64 a0_1] 23 (0, 0)) (by (with_reducible repeat (first | refine blk_drewN ?_ _ | refine blk_drew ?_ | refine blk_alloc ?_ _)); exact BK154.out)) : gb183 ≠ gb154)); have n10_ := Aside0.mk ((by rw [hg]; exact Nat.ne_of_lt (blk_lt (g := gb166) (o := .cells #[.int .i64 ((rd_T23 y162 x46_1).f0), .int .i64 ((rd_T23 y162 x46_1).f1)] 23 (0, 0)) (by (with_reducible repeat (first | refine blk_drewN ?_ _ | refine blk_drew ?_ | refine blk_alloc ?_ _)); exact BK166.out)) : gb166 ≠ gb183)); have n11_ := Aside0.mk ((by rw [hg]; exact Nat.ne_of_gt (blk_lt (g := gb166) (o := .cells #[.int .i64 ((rd_T23 y162 x46_1).f0), .int .i64 ((rd_T23 y162 x46_1).f1)] 23 (0, 0)) (by (with_reducible repeat (first | refine blk_drewN ?_ _ | refine blk_drew ?_ | refine blk_alloc ?_ _)); exact BK166.out)) : gb183 ≠ gb166)); clear HO_44; clear HO_94; clear BK154; clear BK166; clear HB; have HO_44 := n0_; have HO_94 := n1_; have BK154 := n2_; have BK166 := n3_; have HB := n4_; have BK183 := n5_; have GW183 := n6_; have GE183 := n7_; have NB154_183 := n8_; have NB183_154 := n9_; have NB166_183 := n10_; have NB183_166 := n11_; clear n0_ n1_ n2_ n3_ n4_ n5_ n6_ n7_ n8_ n9_ n10_ n11_; clear hb hbox hg; have hnb117 := NB183_154.out; have hnc117 := NB154_183.out; have hnb118 := NB183_166.out; have hnc118 := NB166_183.out; have hcz119_0 : w116.cell? ⟨gb183, 0, none⟩ = some (.int .i64 0) := (blk_cell BK183.out 0).trans rfl; have hcz119_1 : w116.cell? ⟨gb183, 1, none⟩ = some (.int .i64 0) := (blk_cell BK183.out 1).trans rfl; have hfz119_0 := blk_frozen BK183.out 0; have hfz119_1 := blk_frozen BK183.out 1; have hnb120 := NB166_154.out; have hnc120 := NB154_166.out; have hcz121_0 : w116.cell? ⟨gb166, 0, none⟩ = some (.int .i64 ((rd_T23 y162 x46_1).f0)) := (blk_cell BK166.out 0).trans rfl; have hcz121_1 : w116.cell? ⟨gb166, 1, none⟩ = some (.int .i64 ((rd_T23 y162 x46_1).f1)) := (blk_cell BK166.out 1).trans rfl; have hfz121_0 := blk_frozen BK166.out 0; have hfz121_1 := blk_frozen BK166.out 1) | ((with_reducible refine gate_callee (f := 16) rfl ?_); refine goesL_ (some 104) rfl rfl Try.func16 (by kernel_rfl) rfl #[.agg #[.int .i64 ((rd_T23 y162 x46_1).f0), .int .i64 ((rd_T23 y162 x46_1).f1)], .int .i64 ((rd_T30 y179 x96_3).f0)] rfl (by (try simp only [List.map_toArray, List.map_cons, List.map_nil]); first | done | rfl | (simp only [List.length_drop, List.length_take]; rfl)) ?_; (with_reducible refine (lattice_Next.calls ((rd_T23 y162 x46_1).f0) ((rd_T23 y162 x46_1).f1) ((rd_T30 y179 x96_3).f0) t184 t185 _ A66.out).mono ?_); rintro e w122 ⟨rfl, hb⟩; refine ⟨_, rfl, ?_⟩; have n0_ := Aside0.mk (Kd.R_below (by (with_reducible repeat (first | apply Kd.R_alloc | apply Kd.R_drewN | apply Kd.R_drew)); exact (Kd.R_mono (Kd.R_far (p := ⟨gb183, 1, none⟩) (Kd.R_far (p := ⟨gb183, 0, none⟩) (Kd.R_types HO_44.out BK183.out (by decide)) (fun _ hk => hk.2) (.int .i64 ((rd_T30 y179 x96_3).f0))) (fun _ hk => hk.2) (.int .i64 ((rd_T30 y179 x96_3).f1))) (fun _ h_ => h_.1))) hb); have n1_ := Aside0.mk (Kd.R_below (by (with_reducible repeat (first | apply Kd.R_alloc | apply Kd.R_drewN | apply Kd.R_drew)); exact (Kd.R_mono (Kd.R_far (p := ⟨gb183, 1, none⟩) (Kd.R_far (p := ⟨gb183, 0, none⟩) (Kd.R_mono HO_94.out (fun k_ hk => (⟨hk, hk.2⟩ : _ ∧ k_ ≠ gb183))) (fun _ hk => hk.2) (.int .i64 ((rd_T30 y179 x96_3).f0))) (fun _ hk => hk.2) (.int .i64 ((rd_T30 y179 x96_3).f1))) (fun _ h_ => h_.1))) hb); have n2_ := Aside0.mk (blk_below (g := gb154) (o := .cells #[.int .i64 a0_0, .int .i64 a0_1] 23 (0, 0)) (by (with_reducible repeat (first | refine blk_drewN ?_ _ | refine blk_drew ?_ | refine blk_alloc ?_ _)); refine blk_far ?_ NB154_183.out _; (with_reducible repeat (first | refine blk_drewN ?_ _ | refine blk_drew ?_ | refine blk_alloc ?_ _)); refine blk_far ?_ NB154_183.out _; (with_reducible repeat (first | refine blk_drewN ?_ _ | refine blk_drew ?_ | refine blk_alloc ?_ _)); exact BK154.out) hb); have n3_ := Aside0.mk (blk_below (g := gb166) (o := .cells #[.int .i64 ((rd_T23 y162 x46_1).f0), .int .i64 ((rd_T23 y162 x46_1).f1)] 23 (0, 0)) (by (with_reducible repeat (first | refine blk_drewN ?_ _ | refine blk_drew ?_ | refine blk_alloc ?_ _)); refine blk_far ?_ NB166_183.out _; (with_reducible repeat (first | refine blk_drewN ?_ _ | refine blk_drew ?_ | refine blk_alloc ?_ _)); refine blk_far ?_ NB166_183.out _; (with_reducible repeat (first | refine blk_drewN ?_ _ | refine blk_drew ?_ | refine blk_alloc ?_ _)); exact BK166.out) hb); have n4_ := Aside0.mk (blk_below (g := gb183) (o := .cells #[.int .i64 ((rd_T30 y179 x96_3).f0), .int .i64 ((rd_T30 y179 x96_3).f1)] 30 (0, 0)) (by (with_reducible repeat (first | refine blk_drewN ?_ _ | refine blk_drew ?_ | refine blk_alloc ?_ _)); refine blk_put (cs := #[.int .i64 ((rd_T30 y179 x96_3).f0), .int .i64 0]) ?_ 1 _ rfl; (with_reducible repeat (first | refine blk_drewN ?_ _ | refine blk_drew ?_ | refine blk_alloc ?_ _)); refine blk_put (cs := #[.int .i64 0, .int .i64 0]) ?_ 0 _ rfl; (with_reducible repeat (first | refine blk_drewN ?_ _ | refine blk_drew ?_ | refine blk_alloc ?_ _)); exact BK183.out) hb); have n5_ := Aside0.mk (below_step (by repeat (first | (with_reducible first | exact HB.out | apply below_alloc | apply pw_below_drewN | apply below_drew1 | refine below_set ?_ GE154.out | refine below_set ?_ GE166.out | refine below_set ?_ GE183.out) | exact HB.out)) hb); clear HO_44; clear HO_94; clear BK154; clear BK166; clear BK183; clear HB; have HO_44 := n0_; have HO_94 := n1_; have BK154 := n2_; have BK166 := n3_; have BK183 := n4_; have HB := n5_; clear n0_ n1_ n2_ n3_ n4_ n5_; (try clear hb); (try clear hb2); (try clear hk); (try clear hi); have hcz123_0 : w122.cell? ⟨gb166, 0, none⟩ = some (.int .i64 ((rd_T23 y162 x46_1).f0)) := (blk_cell BK166.out 0).trans rfl; have hcz123_1 : w122.cell? ⟨gb166, 1, none⟩ = some (.int .i64 ((rd_T23 y162 x46_1).f1)) := (blk_cell BK166.out 1).trans rfl; have hfz123_0 := blk_frozen BK166.out 0; have hfz123_1 := blk_frozen BK166.out 1; have hcz124_0 : w122.cell? ⟨gb183, 0, none⟩ = some (.int .i64 ((rd_T30 y179 x96_3).f0)) := (blk_cell BK183.out 0).trans rfl; have hcz124_1 : w122.cell? ⟨gb183, 1, none⟩ = some (.int .i64 ((rd_T30 y179 x96_3).f1)) := (blk_cell BK183.out 1).trans rfl; have hfz124_0 := blk_frozen BK183.out 0; have hfz124_1 := blk_frozen BK183.out 1) | ((with_reducible refine gate_callee (f := 17) rfl ?_); refine goesL_ (some 111) rfl rfl Try.func17 (by kernel_rfl) rfl #[.agg #[.int .i64 ((rd_T23 y162 x46_1).f0), .int .i64 ((rd_T23 y162 x46_1).f1)], .int .i64 ((rd_T30 y179 x96_3).f0)] rfl (by (try simp only [List.map_toArray, List.map_cons, List.map_nil]); first | done | rfl | (simp only [List.length_drop, List.length_take]; rfl)) ?_; (with_reducible refine (omnibusref11_Next.calls ((rd_T23 y162 x46_1).f0) ((rd_T23 y162 x46_1).f1) ((rd_T30 y179 x96_3).f0) t186 t187 _ A67.out).mono ?_); rintro e w125 ⟨rfl, hb⟩; refine ⟨_, rfl, ?_⟩; have n0_ := Aside0.mk (Kd.R_below (by (with_reducible repeat (first | apply Kd.R_alloc | apply Kd.R_drewN | apply Kd.R_drew)); exact HO_44.out) hb); have n1_ := Aside0.mk (Kd.R_below (by (with_reducible repeat (first | apply Kd.R_alloc | apply Kd.R_drewN | apply Kd.R_drew)); exact HO_94.out) hb); have n2_ := Aside0.mk (blk_below (g := gb154) (o := .cells #[.int .i64 a0_0, .int .i64 a0_1] 23 (0, 0)) (by (with_reducible repeat (first | refine blk_drewN ?_ _ | refine blk_drew ?_ | refine blk_alloc ?_ _)); exact BK154.out) hb); have n3_ := Aside0.mk (blk_below (g := gb166) (o := .cells #[.int .i64 ((rd_T23 y162 x46_1).f0), .int .i64 ((rd_T23 y162 x46_1).f1)] 23 (0, 0)) (by (with_reducible repeat (first | refine blk_drewN ?_ _ | refine blk_drew ?_ | refine blk_alloc ?_ _)); exact BK166.out) hb); have n4_ := Aside0.mk (blk_below (g := gb183) (o := .cells #[.int .i64 ((rd_T30 y179 x96_3).f0), .int .i64 ((rd_T30 y179 x96_3).f1)] 30 (0, 0)) (by (with_reducible repeat (first | refine blk_drewN ?_ _ | refine blk_drew ?_ | refine blk_alloc ?_ _)); exact BK183.out) hb); have n5_ := Aside0.mk (below_step (by repeat (first | (with_reducible first | exact HB.out | apply below_alloc | apply pw_below_drewN | apply below_drew1 | refine below_set ?_ GE154.out | refine below_set ?_ GE166.out | refine below_set ?_ GE183.out) | exact HB.out)) hb); clear HO_44; clear HO_94; clear BK154; clear BK166; clear BK183; clear HB; have HO_44 := n0_; have HO_94 := n1_; have BK154 := n2_; have BK166 := n3_; have BK183 := n4_; have HB := n5_; clear n0_ n1_ n2_ n3_ n4_ n5_; (try clear hb); (try clear hb2); (try clear hk); (try clear hi); have hcz126_0 : w125.cell? ⟨gb166, 0, none⟩ = some (.int .i64 ((rd_T23 y162 x46_1).f0)) := (blk_cell BK166.out 0).trans rfl; have hcz126_1 : w125.cell? ⟨gb166, 1, none⟩ = some (.int .i64 ((rd_T23 y162 x46_1).f1)) := (blk_cell BK166.out 1).trans rfl; have hfz126_0 := blk_frozen BK166.out 0; have hfz126_1 := blk_frozen BK166.out 1; have hcz127_0 : w125.cell? ⟨gb183, 0, none⟩ = some (.int .i64 ((rd_T30 y179 x96_3).f0)) := (blk_cell BK183.out 0).trans rfl; have hcz127_1 : w125.cell? ⟨gb183, 1, none⟩ = some (.int .i64 ((rd_T30 y179 x96_3).f1)) := (blk_cell BK183.out 1).trans rfl; have hfz127_0 := blk_frozen BK183.out 0; have hfz127_1 := blk_frozen BK183.out 1) | ((with_reducible refine gate_callee (f := 18) rfl ?_); refine goesL_ (some 118) rfl rfl Try.func18 (by kernel_rfl) rfl #[.agg #[.int .i64 ((rd_T23 y162 x46_1).f0), .int .i64 ((rd_T23 y162 x46_1).f1)], .int .i64 ((rd_T30 y179 x96_3).f0)] rfl (by (try simp only [List.map_toArray, List.map_cons, List.map_nil]); first | done | rfl | (simp only [List.length_drop, List.length_take]; rfl)) ?_; (with_reducible refine (lattice_Epoch.calls ((rd_T23 y162 x46_1).f0) ((rd_T23 y162 x46_1).f1) ((rd_T30 y179 x96_3).f0) t188 t189 _ A68.out).mono ?_); rintro e w128 ⟨rfl, hb⟩; refine ⟨_, rfl, ?_⟩; have n0_ := Aside0.mk (Kd.R_below (by (with_reducible repeat (first | apply Kd.R_alloc | apply Kd.R_drewN | apply Kd.R_drew)); exact HO_44.out) hb); have n1_ := Aside0.mk (Kd.R_below (by (with_reducible repeat (first | apply Kd.R_alloc | apply Kd.R_drewN | apply Kd.R_drew)); exact HO_94.out) hb); have n2_ := Aside0.mk (blk_below (g := gb154) (o := .cells #[.int .i64 a0_0, .int .i64 a0_1] 23 (0, 0)) (by (with_reducible repeat (first | refine blk_drewN ?_ _ | refine blk_drew ?_ | refine blk_alloc ?_ _)); exact BK154.out) hb); have n3_ := Aside0.mk (blk_below (g := gb166) (o := .cells #[.int .i64 ((rd_T23 y162 x46_1).f0), .int .i64 ((rd_T23 y162 x46_1).f1)] 23 (0, 0)) (by (with_reducible repeat (first | refine blk_drewN ?_ _ | refine blk_drew ?_ | refine blk_alloc ?_ _)); exact BK166.out) hb); have n4_ := Aside0.mk (blk_below (g := gb183) (o := .cells #[.int .i64 ((rd_T30 y179 x96_3).f0), .int .i64 ((rd_T30 y179 x96_3).f1)] 30 (0, 0)) (by (with_reducible repeat (first | refine blk_drewN ?_ _ | refine blk_drew ?_ | refine blk_alloc ?_ _)); exact BK183.out) hb); have n5_ := Aside0.mk (below_step (by repeat (first | (with_reducible first | exact HB.out | apply below_alloc | apply pw_below_drewN | apply below_drew1 | refine below_set ?_ GE154.out | refine below_set ?_ GE166.out | refine below_set ?_ GE183.out) | exact HB.out)) hb); clear HO_44; clear HO_94; clear BK154; clear BK166; clear BK183; clear HB; have HO_44 := n0_; have HO_94 := n1_; have BK154 := n2_; have BK166 := n3_; have BK183 := n4_; have HB := n5_; clear n0_ n1_ n2_ n3_ n4_ n5_; (try clear hb); (try clear hb2); (try clear hk); (try clear hi); have hcz129_0 : w128.cell? ⟨gb166, 0, none⟩ = some (.int .i64 ((rd_T23 y162 x46_1).f0)) := (blk_cell BK166.out 0).trans rfl; have hcz129_1 : w128.cell? ⟨gb166, 1, none⟩ = some (.int .i64 ((rd_T23 y162 x46_1).f1)) := (blk_cell BK166.out 1).trans rfl; have hfz129_0 := blk_frozen BK166.out 0; have hfz129_1 := blk_frozen BK166.out 1; have hcz130_0 : w128.cell? ⟨gb183, 0, none⟩ = some (.int .i64 ((rd_T30 y179 x96_3).f0)) := (blk_cell BK183.out 0).trans rfl; have hcz130_1 : w128.cell? ⟨gb183, 1, none⟩ = some (.int .i64 ((rd_T30 y179 x96_3).f1)) := (blk_cell BK183.out 1).trans rfl; have hfz130_0 := blk_frozen BK183.out 0; have hfz130_1 := blk_frozen BK183.out 1) | ((with_reducible refine gate_callee (f := 19) rfl ?_); refine goesL_ (some 125) rfl rfl Try.func19 (by kernel_rfl) rfl #[.agg #[.int .i64 ((rd_T23 y162 x46_1).f0), .int .i64 ((rd_T23 y162 x46_1).f1)], .int .i64 ((rd_T30 y179 x96_3).f0)] rfl (by (try simp only [List.map_toArray, List.map_cons, List.map_nil]); first | done | rfl | (simp only [List.length_drop, List.length_take]; rfl)) ?_; (with_reducible refine (omnibusref11_Epoch.calls ((rd_T23 y162 x46_1).f0) ((rd_T23 y162 x46_1).f1) ((rd_T30 y179 x96_3).f0) t190 t191 _ A69.out).mono ?_); rintro e w131 ⟨rfl, hb⟩; refine ⟨_, rfl, ?_⟩; have n0_ := Aside0.mk (Kd.R_below (by (with_reducible repeat (first | apply Kd.R_alloc | apply Kd.R_drewN | apply Kd.R_drew)); exact HO_44.out) hb); have n1_ := Aside0.mk (Kd.R_below (by (with_reducible repeat (first | apply Kd.R_alloc | apply Kd.R_drewN | apply Kd.R_drew)); exact HO_94.out) hb); have n2_ := Aside0.mk (blk_below (g := gb154) (o := .cells #[.int .i64 a0_0, .int .i64 a0_1] 23 (0, 0)) (by (with_reducible repeat (first | refine blk_drewN ?_ _ | refine blk_drew ?_ | refine blk_alloc ?_ _)); exact BK154.out) hb); have n3_ := Aside0.mk (blk_below (g := gb166) (o := .cells #[.int .i64 ((rd_T23 y162 x46_1).f0), .int .i64 ((rd_T23 y162 x46_1).f1)] 23 (0, 0)) (by (with_reducible repeat (first | refine blk_drewN ?_ _ | refine blk_drew ?_ | refine blk_alloc ?_ _)); exact BK166.out) hb); have n4_ := Aside0.mk (blk_below (g := gb183) (o := .cells #[.int .i64 ((rd_T30 y179 x96_3).f0), .int .i64 ((rd_T30 y179 x96_3).f1)] 30 (0, 0)) (by (with_reducible repeat (first | refine blk_drewN ?_ _ | refine blk_drew ?_ | refine blk_alloc ?_ _)); exact BK183.out) hb); have n5_ := Aside0.mk (below_step (by repeat (first | (with_reducible first | exact HB.out | apply below_alloc | apply pw_below_drewN | apply below_drew1 | refine below_set ?_ GE154.out | refine below_set ?_ GE166.out | refine below_set ?_ GE183.out) | exact HB.out)) hb); clear HO_44; clear HO_94; clear BK154; clear BK166; clear BK183; clear HB; have HO_44 := n0_; have HO_94 := n1_; have BK154 := n2_; have BK166 := n3_; have BK183 := n4_; have HB := n5_; clear n0_ n1_ n2_ n3_ n4_ n5_; (try clear hb); (try clear hb2); (try clear hk); (try clear hi); have hcz132_0 : w131.cell? ⟨gb166, 0, none⟩ = some (.int .i64 ((rd_T23 y162 x46_1).f0)) := (blk_cell BK166.out 0).trans rfl; have hcz132_1 : w131.cell? ⟨gb166, 1, none⟩ = some (.int .i64 ((rd_T23 y162 x46_1).f1)) := (blk_cell BK166.out 1).trans rfl; have hfz132_0 := blk_frozen BK166.out 0; have hfz132_1 := blk_frozen BK166.out 1; have hcz133_0 : w131.cell? ⟨gb183, 0, none⟩ = some (.int .i64 ((rd_T30 y179 x96_3).f0)) := (blk_cell BK183.out 0).trans rfl; have hcz133_1 : w131.cell? ⟨gb183, 1, none⟩ = some (.int .i64 ((rd_T30 y179 x96_3).f1)) := (blk_cell BK183.out 1).trans rfl; have hfz133_0 := blk_frozen BK183.out 0; have hfz133_1 := blk_frozen BK183.out 1) | ((with_reducible refine gate_callee (f := 20) rfl ?_); refine goesL_ (some 134) rfl rfl Try.func20 (by kernel_rfl) rfl #[.agg #[.int .i64 ((rd_T23 y162 x46_1).f0), .int .i64 ((rd_T23 y162 x46_1).f1)], .int .i64 ((rd_T30 y179 x96_3).f0), .int .i64 ((rd_T30 y179 x96_3).f1)] rfl (by (try simp only [List.map_toArray, List.map_cons, List.map_nil]); first | done | rfl | (simp only [List.length_drop, List.length_take]; rfl)) ?_; (with_reducible refine (lattice_Order.calls ((rd_T23 y162 x46_1).f0) ((rd_T23 y162 x46_1).f1) ((rd_T30 y179 x96_3).f0) ((rd_T30 y179 x96_3).f1) t192 t193 _ A70.out).mono ?_); rintro e w134 ⟨rfl, hb⟩; refine ⟨_, rfl, ?_⟩; have n0_ := Aside0.mk (Kd.R_below (by (with_reducible repeat (first | apply Kd.R_alloc | apply Kd.R_drewN | apply Kd.R_drew)); exact HO_44.out) hb); have n1_ := Aside0.mk (Kd.R_below (by (with_reducible repeat (first | apply Kd.R_alloc | apply Kd.R_drewN | apply Kd.R_drew)); exact HO_94.out) hb); have n2_ := Aside0.mk (blk_below (g := gb154) (o := .cells #[.int .i64 a0_0, .int .i64 a0_1] 23 (0, 0)) (by (with_reducible repeat (first | refine blk_drewN ?_ _ | refine blk_drew ?_ | refine blk_alloc ?_ _)); exact BK154.out) hb); have n3_ := Aside0.mk (blk_below (g := gb166) (o := .cells #[.int .i64 ((rd_T23 y162 x46_1).f0), .int .i64 ((rd_T23 y162 x46_1).f1)] 23 (0, 0)) (by (with_reducible repeat (first | refine blk_drewN ?_ _ | refine blk_drew ?_ | refine blk_alloc ?_ _)); exact BK166.out) hb); have n4_ := Aside0.mk (blk_below (g := gb183) (o := .cells #[.int .i64 ((rd_T30 y179 x96_3).f0), .int .i64 ((rd_T30 y179 x96_3).f1)] 30 (0, 0)) (by (with_reducible repeat (first | refine blk_drewN ?_ _ | refine blk_drew ?_ | refine blk_alloc ?_ _)); exact BK183.out) hb); have n5_ := Aside0.mk (below_step (by repeat (first | (with_reducible first | exact HB.out | apply below_alloc | apply pw_below_drewN | apply below_drew1 | refine below_set ?_ GE154.out | refine below_set ?_ GE166.out | refine below_set ?_ GE183.out) | exact HB.out)) hb); clear HO_44; clear HO_94; clear BK154; clear BK166; clear BK183; clear HB; have HO_44 := n0_; have HO_94 := n1_; have BK154 := n2_; have BK166 := n3_; have BK183 := n4_; have HB := n5_; clear n0_ n1_ n2_ n3_ n4_ n5_; (try clear hb); (try clear hb2); (try clear hk); (try clear hi); have hcz135_0 : w134.cell? ⟨gb166, 0, none⟩ = some (.int .i64 ((rd_T23 y162 x46_1).f0)) := (blk_cell BK166.out 0).trans rfl; have hcz135_1 : w134.cell? ⟨gb166, 1, none⟩ = some (.int .i64 ((rd_T23 y162 x46_1).f1)) := (blk_cell BK166.out 1).trans rfl; have hfz135_0 := blk_frozen BK166.out 0; have hfz135_1 := blk_frozen BK166.out 1; have hcz136_0 : w134.cell? ⟨gb183, 0, none⟩ = some (.int .i64 ((rd_T30 y179 x96_3).f0)) := (blk_cell BK183.out 0).trans rfl; have hcz136_1 : w134.cell? ⟨gb183, 1, none⟩ = some (.int .i64 ((rd_T30 y179 x96_3).f1)) := (blk_cell BK183.out 1).trans rfl; have hfz136_0 := blk_frozen BK183.out 0; have hfz136_1 := blk_frozen BK183.out 1) | ((with_reducible refine gate_callee (f := 21) rfl ?_); refine goesL_ (some 143) rfl rfl Try.func21 (by kernel_rfl) rfl #[.agg #[.int .i64 ((rd_T23 y162 x46_1).f0), .int .i64 ((rd_T23 y162 x46_1).f1)], .int .i64 ((rd_T30 y179 x96_3).f0), .int .i64 ((rd_T30 y179 x96_3).f1)] rfl (by (try simp only [List.map_toArray, List.map_cons, List.map_nil]); first | done | rfl | (simp only [List.length_drop, List.length_take]; rfl)) ?_; (with_reducible refine (omnibusref11_Order.calls k3 ((rd_T23 y162 x46_1).f0) ((rd_T23 y162 x46_1).f1) ((rd_T30 y179 x96_3).f0) ((rd_T30 y179 x96_3).f1) t194 t195 _ A71.out).mono ?_); rintro e w137 ⟨rfl, hb⟩; refine ⟨_, rfl, ?_⟩; have n0_ := Aside0.mk (Kd.R_below (by (with_reducible repeat (first | apply Kd.R_alloc | apply Kd.R_drewN | apply Kd.R_drew)); exact HO_44.out) hb); have n1_ := Aside0.mk (Kd.R_below (by (with_reducible repeat (first | apply Kd.R_alloc | apply Kd.R_drewN | apply Kd.R_drew)); exact HO_94.out) hb); have n2_ := Aside0.mk (blk_below (g := gb154) (o := .cells #[.int .i64 a0_0, .int .i64 a0_1] 23 (0, 0)) (by (with_reducible repeat (first | refine blk_drewN ?_ _ | refine blk_drew ?_ | refine blk_alloc ?_ _)); exact BK154.out) hb); have n3_ := Aside0.mk (blk_below (g := gb166) (o := .cells #[.int .i64 ((rd_T23 y162 x46_1).f0), .int .i64 ((rd_T23 y162 x46_1).f1)] 23 (0, 0)) (by (with_reducible repeat (first | refine blk_drewN ?_ _ | refine blk_drew ?_ | refine blk_alloc ?_ _)); exact BK166.out) hb); have n4_ := Aside0.mk (blk_below (g := gb183) (o := .cells #[.int .i64 ((rd_T30 y179 x96_3).f0), .int .i64 ((rd_T30 y179 x96_3).f1)] 30 (0, 0)) (by (with_reducible repeat (first | refine blk_drewN ?_ _ | refine blk_drew ?_ | refine blk_alloc ?_ _)); exact BK183.out) hb); have n5_ := Aside0.mk (below_step (by repeat (first | (with_reducible first | exact HB.out | apply below_alloc | apply pw_below_drewN | apply below_drew1 | refine below_set ?_ GE154.out | refine below_set ?_ GE166.out | refine below_set ?_ GE183.out) | exact HB.out)) hb); clear HO_44; clear HO_94; clear BK154; clear BK166; clear BK183; clear HB; have HO_44 := n0_; have HO_94 := n1_; have BK154 := n2_; have BK166 := n3_; have BK183 := n4_; have HB := n5_; clear n0_ n1_ n2_ n3_ n4_ n5_; (try clear hb); (try clear hb2); (try clear hk); (try clear hi); have hcz138_0 : w137.cell? ⟨gb166, 0, none⟩ = some (.int .i64 ((rd_T23 y162 x46_1).f0)) := (blk_cell BK166.out 0).trans rfl; have hcz138_1 : w137.cell? ⟨gb166, 1, none⟩ = some (.int .i64 ((rd_T23 y162 x46_1).f1)) := (blk_cell BK166.out 1).trans rfl; have hfz138_0 := blk_frozen BK166.out 0; have hfz138_1 := blk_frozen BK166.out 1; have hcz139_0 : w137.cell? ⟨gb183, 0, none⟩ = some (.int .i64 ((rd_T30 y179 x96_3).f0)) := (blk_cell BK183.out 0).trans rfl; have hcz139_1 : w137.cell? ⟨gb183, 1, none⟩ = some (.int .i64 ((rd_T30 y179 x96_3).f1)) := (blk_cell BK183.out 1).trans rfl; have hfz139_0 := blk_frozen BK183.out 0; have hfz139_1 := blk_frozen BK183.out 1) | ((with_reducible refine gate_callee (f := 22) rfl ?_); refine goesL_ (some 150) rfl rfl Try.func22 (by kernel_rfl) rfl #[.agg #[.int .i64 ((rd_T23 y162 x46_1).f0), .int .i64 ((rd_T23 y162 x46_1).f1)], .int .i64 ((rd_T30 y179 x96_3).f1)] rfl (by (try simp only [List.map_toArray, List.map_cons, List.map_nil]); first | done | rfl | (simp only [List.length_drop, List.length_take]; rfl)) ?_; (with_reducible refine (lattice_Begin.calls ((rd_T23 y162 x46_1).f0) ((rd_T23 y162 x46_1).f1) ((rd_T30 y179 x96_3).f1) t196 t197 _ A72.out).mono ?_); rintro e w140 ⟨rfl, hb⟩; refine ⟨_, rfl, ?_⟩; have n0_ := Aside0.mk (Kd.R_below (by (with_reducible repeat (first | apply Kd.R_alloc | apply Kd.R_drewN | apply Kd.R_drew)); exact HO_44.out) hb); have n1_ := Aside0.mk (Kd.R_below (by (with_reducible repeat (first | apply Kd.R_alloc | apply Kd.R_drewN | apply Kd.R_drew)); exact HO_94.out) hb); have n2_ := Aside0.mk (blk_below (g := gb154) (o := .cells #[.int .i64 a0_0, .int .i64 a0_1] 23 (0, 0)) (by (with_reducible repeat (first | refine blk_drewN ?_ _ | refine blk_drew ?_ | refine blk_alloc ?_ _)); exact BK154.out) hb); have n3_ := Aside0.mk (blk_below (g := gb166) (o := .cells #[.int .i64 ((rd_T23 y162 x46_1).f0), .int .i64 ((rd_T23 y162 x46_1).f1)] 23 (0, 0)) (by (with_reducible repeat (first | refine blk_drewN ?_ _ | refine blk_drew ?_ | refine blk_alloc ?_ _)); exact BK166.out) hb); have n4_ := Aside0.mk (blk_below (g := gb183) (o := .cells #[.int .i64 ((rd_T30 y179 x96_3).f0), .int .i64 ((rd_T30 y179 x96_3).f1)] 30 (0, 0)) (by (with_reducible repeat (first | refine blk_drewN ?_ _ | refine blk_drew ?_ | refine blk_alloc ?_ _)); exact BK183.out) hb); have n5_ := Aside0.mk (below_step (by repeat (first | (with_reducible first | exact HB.out | apply below_alloc | apply pw_below_drewN | apply below_drew1 | refine below_set ?_ GE154.out | refine below_set ?_ GE166.out | refine below_set ?_ GE183.out) | exact HB.out)) hb); clear HO_44; clear HO_94; clear BK154; clear BK166; clear BK183; clear HB; have HO_44 := n0_; have HO_94 := n1_; have BK154 := n2_; have BK166 := n3_; have BK183 := n4_; have HB := n5_; clear n0_ n1_ n2_ n3_ n4_ n5_; (try clear hb); (try clear hb2); (try clear hk); (try clear hi); have hcz141_0 : w140.cell? ⟨gb166, 0, none⟩ = some (.int .i64 ((rd_T23 y162 x46_1).f0)) := (blk_cell BK166.out 0).trans rfl; have hcz141_1 : w140.cell? ⟨gb166, 1, none⟩ = some (.int .i64 ((rd_T23 y162 x46_1).f1)) := (blk_cell BK166.out 1).trans rfl; have hfz141_0 := blk_frozen BK166.out 0; have hfz141_1 := blk_frozen BK166.out 1; have hcz142_0 : w140.cell? ⟨gb183, 0, none⟩ = some (.int .i64 ((rd_T30 y179 x96_3).f0)) := (blk_cell BK183.out 0).trans rfl; have hcz142_1 : w140.cell? ⟨gb183, 1, none⟩ = some (.int .i64 ((rd_T30 y179 x96_3).f1)) := (blk_cell BK183.out 1).trans rfl; have hfz142_0 := blk_frozen BK183.out 0; have hfz142_1 := blk_frozen BK183.out 1) | ((with_reducible refine gate_callee (f := 23) rfl ?_); refine goesL_ (some 157) rfl rfl Try.func23 (by kernel_rfl) rfl #[.agg #[.int .i64 ((rd_T23 y162 x46_1).f0), .int .i64 ((rd_T23 y162 x46_1).f1)], .int .i64 ((rd_T30 y179 x96_3).f1)] rfl (by (try simp only [List.map_toArray, List.map_cons, List.map_nil]); first | done | rfl | (simp only [List.length_drop, List.length_take]; rfl)) ?_; (with_reducible refine (omnibusref11_Begin.calls ((rd_T23 y162 x46_1).f0) ((rd_T23 y162 x46_1).f1) ((rd_T30 y179 x96_3).f1) t198 t199 _ A73.out).mono ?_); rintro e w143 ⟨rfl, hb⟩; refine ⟨_, rfl, ?_⟩; have n0_ := Aside0.mk (Kd.R_below (by (with_reducible repeat (first | apply Kd.R_alloc | apply Kd.R_drewN | apply Kd.R_drew)); exact HO_44.out) hb); have n1_ := Aside0.mk (Kd.R_below (by (with_reducible repeat (first | apply Kd.R_alloc | apply Kd.R_drewN | apply Kd.R_drew)); exact HO_94.out) hb); have n2_ := Aside0.mk (blk_below (g := gb154) (o := .cells #[.int .i64 a0_0, .int .i64 a0_1] 23 (0, 0)) (by (with_reducible repeat (first | refine blk_drewN ?_ _ | refine blk_drew ?_ | refine blk_alloc ?_ _)); exact BK154.out) hb); have n3_ := Aside0.mk (blk_below (g := gb166) (o := .cells #[.int .i64 ((rd_T23 y162 x46_1).f0), .int .i64 ((rd_T23 y162 x46_1).f1)] 23 (0, 0)) (by (with_reducible repeat (first | refine blk_drewN ?_ _ | refine blk_drew ?_ | refine blk_alloc ?_ _)); exact BK166.out) hb); have n4_ := Aside0.mk (blk_below (g := gb183) (o := .cells #[.int .i64 ((rd_T30 y179 x96_3).f0), .int .i64 ((rd_T30 y179 x96_3).f1)] 30 (0, 0)) (by (with_reducible repeat (first | refine blk_drewN ?_ _ | refine blk_drew ?_ | refine blk_alloc ?_ _)); exact BK183.out) hb); have n5_ := Aside0.mk (below_step (by repeat (first | (with_reducible first | exact HB.out | apply below_alloc | apply pw_below_drewN | apply below_drew1 | refine below_set ?_ GE154.out | refine below_set ?_ GE166.out | refine below_set ?_ GE183.out) | exact HB.out)) hb); clear HO_44; clear HO_94; clear BK154; clear BK166; clear BK183; clear HB; have HO_44 := n0_; have HO_94 := n1_; have BK154 := n2_; have BK166 := n3_; have BK183 := n4_; have HB := n5_; clear n0_ n1_ n2_ n3_ n4_ n5_; (try clear hb); (try clear hb2); (try clear hk); (try clear hi)))
                                              have n0_ := Aside0.mk (Kd.R_drew HO_44.out)
                                              have n1_ := Aside0.mk (Kd.R_drew HO_94.out)
                                              have n2_ := Aside0.mk (blk_drew BK154.out)
                                              have n3_ := Aside0.mk (blk_drew BK166.out)
                                              have n4_ := Aside0.mk (blk_drew BK183.out)
                                              have n5_ := Aside0.mk (below_drew1 HB.out)
                                              clear HO_44
                                              clear HO_94
                                              clear BK154
                                              clear BK166
                                              clear BK183
                                              clear HB
                                              have HO_44 := n0_
                                              have HO_94 := n1_
                                              have BK154 := n2_
                                              have BK166 := n3_
                                              have BK183 := n4_
                                              have HB := n5_
                                              clear n0_ n1_ n2_ n3_ n4_ n5_
                                              refine start_ (n := 49) (S := fun w' => w'.cell? ⟨gb166, 0, none⟩ = some (.int .i64 ((rd_T23 y162 x46_1).f0)) ∧ w'.cell? ⟨gb166, 1, none⟩ = some (.int .i64 ((rd_T23 y162 x46_1).f1)) ∧ w'.cell? ⟨gb183, 0, none⟩ = some (.int .i64 ((rd_T30 y179 x96_3).f0)) ∧ w'.cell? ⟨gb183, 1, none⟩ = some (.int .i64 ((rd_T30 y179 x96_3).f1))) (ds := []) #[false, false, false, false, false, false, false, false, false, false, false, false, false, false, false, false, false, false, false, false, false, false, false, false, false, false, false, false, false, false, false, false, false, false, false, false, false, false, false, false, false, false, false, false, false, false, false, false, false] (by kernel_rfl) rfl rfl ⟨(blk_cell BK166.out 0).trans rfl, (blk_cell BK166.out 1).trans rfl, (blk_cell BK183.out 0).trans rfl, (blk_cell BK183.out 1).trans rfl⟩ (fun hHeld => ?_); refine with_tabW omnibuslaw11_LatticeTells.tab18 omnibuslaw11_LatticeTells.bits18 (fun HT_ HW_ => ?_)
                                              generalize w143.drew = w144 at HO_44 HO_94 BK154 BK166 BK183 HB hHeld ⊢
                                              refine pure_ (i := 0) (N := some 160) (v := ?_) (a' := ?_) #[true, false, false, false, false, false, false, false, false, false, false, false, false, false, false, false, false, false, false, false, false, false, false, false, false, false, false, false, false, false, false, false, false, false, false, false, false, false, false, false, false, false, false, false, false, false, false, false, false] rfl rfl (any_of HT_.out (by kernel_rfl)) (fun _ _ _ h => h) (Or.inl ⟨by rfl, ?_⟩) ?_ ?_
                                              rotate_left
                                              · intro w'
                                                go_simp
                                                with_reducible rfl
                                              rotate_left
                                              · simp only [Act.put, List.setIfInBounds_toArray, List.set_cons_zero, List.set_cons_succ, i64_w, i32_w]
                                                rfl
                                              refine pure_ (i := 1) (N := some 161) (v := ?_) (a' := ?_) #[true, true, false, false, false, false, false, false, false, false, false, false, false, false, false, false, false, false, false, false, false, false, false, false, false, false, false, false, false, false, false, false, false, false, false, false, false, false, false, false, false, false, false, false, false, false, false, false, false] rfl rfl (any_of HT_.out (by kernel_rfl)) (fun _ _ _ h => h) (Or.inl ⟨by rfl, ?_⟩) ?_ ?_
                                              rotate_left
                                              · intro w'
                                                go_simp
                                                with_reducible rfl
                                              rotate_left
                                              · simp only [Act.put, List.setIfInBounds_toArray, List.set_cons_zero, List.set_cons_succ, i64_w, i32_w]
                                                rfl
                                              refine pure_ (i := 2) (N := some 162) (v := ?_) (a' := ?_) #[true, true, true, false, false, false, false, false, false, false, false, false, false, false, false, false, false, false, false, false, false, false, false, false, false, false, false, false, false, false, false, false, false, false, false, false, false, false, false, false, false, false, false, false, false, false, false, false, false] rfl rfl (any_of HT_.out (by kernel_rfl)) (fun _ _ _ h => h) (Or.inl ⟨by rfl, ?_⟩) ?_ ?_
                                              rotate_left
                                              · intro w'
                                                go_simp
                                                with_reducible rfl
                                              rotate_left
                                              · simp only [Act.put, List.setIfInBounds_toArray, List.set_cons_zero, List.set_cons_succ, i64_w, i32_w]
                                                rfl
                                              refine pure_ (i := 3) (N := some 163) (v := ?_) (a' := ?_) #[true, true, true, true, false, false, false, false, false, false, false, false, false, false, false, false, false, false, false, false, false, false, false, false, false, false, false, false, false, false, false, false, false, false, false, false, false, false, false, false, false, false, false, false, false, false, false, false, false] rfl rfl (any_of HT_.out (by kernel_rfl)) (fun _ _ _ h => h) (Or.inl ⟨by rfl, ?_⟩) ?_ ?_
                                              rotate_left
                                              · intro w'
                                                go_simp
                                                with_reducible rfl
                                              rotate_left
                                              · simp only [Act.put, List.setIfInBounds_toArray, List.set_cons_zero, List.set_cons_succ, i64_w, i32_w]
                                                rfl
                                              refine pure_ (i := 4) (N := some 164) (v := ?_) (a' := ?_) #[true, true, true, true, true, false, false, false, false, false, false, false, false, false, false, false, false, false, false, false, false, false, false, false, false, false, false, false, false, false, false, false, false, false, false, false, false, false, false, false, false, false, false, false, false, false, false, false, false] rfl rfl (any_of HT_.out (by kernel_rfl)) (fun _ _ _ h => h) (Or.inl ⟨by rfl, ?_⟩) ?_ ?_
                                              rotate_left
                                              · intro w'
                                                go_simp
                                                with_reducible rfl
                                              rotate_left
                                              · simp only [Act.put, List.setIfInBounds_toArray, List.set_cons_zero, List.set_cons_succ, i64_w, i32_w]
                                                rfl
                                              refine pure_ (i := 5) (N := some 165) (v := ?_) (a' := ?_) #[true, true, true, true, true, true, false, false, false, false, false, false, false, false, false, false, false, false, false, false, false, false, false, false, false, false, false, false, false, false, false, false, false, false, false, false, false, false, false, false, false, false, false, false, false, false, false, false, false] rfl rfl (any_of HT_.out (by kernel_rfl)) (fun _ _ _ h => h) (Or.inl ⟨by rfl, ?_⟩) ?_ ?_
                                              rotate_left
                                              · intro w'
                                                go_simp
                                                with_reducible rfl
                                              rotate_left
                                              · simp only [Act.put, List.setIfInBounds_toArray, List.set_cons_zero, List.set_cons_succ, i64_w, i32_w]
                                                rfl
                                              refine pure_ (i := 6) (N := some 166) (v := ?_) (a' := ?_) #[true, true, true, true, true, true, true, false, false, false, false, false, false, false, false, false, false, false, false, false, false, false, false, false, false, false, false, false, false, false, false, false, false, false, false, false, false, false, false, false, false, false, false, false, false, false, false, false, false] rfl rfl (any_of HT_.out (by kernel_rfl)) (fun _ _ _ h => h) (Or.inl ⟨by rfl, ?_⟩) ?_ ?_
                                              rotate_left
                                              · intro w'
                                                go_simp
                                                with_reducible rfl
                                              rotate_left
                                              · simp only [Act.put, List.setIfInBounds_toArray, List.set_cons_zero, List.set_cons_succ, i64_w, i32_w]
                                                rfl
                                              refine pure_ (i := 7) (N := some 167) (v := ?_) (a' := ?_) #[true, true, true, true, true, true, true, true, false, false, false, false, false, false, false, false, false, false, false, false, false, false, false, false, false, false, false, false, false, false, false, false, false, false, false, false, false, false, false, false, false, false, false, false, false, false, false, false, false] rfl rfl (any_of HT_.out (by kernel_rfl)) (fun _ _ _ h => h) (Or.inl ⟨by rfl, ?_⟩) ?_ ?_
                                              rotate_left
                                              · intro w'
                                                go_simp
                                                with_reducible rfl
                                              rotate_left
                                              · simp only [Act.put, List.setIfInBounds_toArray, List.set_cons_zero, List.set_cons_succ, i64_w, i32_w]
                                                rfl
                                              refine pure_ (i := 8) (N := some 168) (v := ?_) (a' := ?_) #[true, true, true, true, true, true, true, true, true, false, false, false, false, false, false, false, false, false, false, false, false, false, false, false, false, false, false, false, false, false, false, false, false, false, false, false, false, false, false, false, false, false, false, false, false, false, false, false, false] rfl rfl (any_of HT_.out (by kernel_rfl)) (fun _ _ _ h => h) (Or.inl ⟨by rfl, ?_⟩) ?_ ?_
                                              rotate_left
                                              · intro w'
                                                go_simp
                                                with_reducible rfl
                                              rotate_left
                                              · simp only [Act.put, List.setIfInBounds_toArray, List.set_cons_zero, List.set_cons_succ, i64_w, i32_w]
                                                rfl
                                              refine pure_ (i := 9) (N := some 169) (v := ?_) (a' := ?_) #[true, true, true, true, true, true, true, true, true, true, false, false, false, false, false, false, false, false, false, false, false, false, false, false, false, false, false, false, false, false, false, false, false, false, false, false, false, false, false, false, false, false, false, false, false, false, false, false, false] rfl rfl (any_of HT_.out (by kernel_rfl)) (fun _ _ _ h => h) (Or.inl ⟨by rfl, ?_⟩) ?_ ?_
                                              rotate_left
                                              · intro w'
                                                go_simp
                                                with_reducible rfl
                                              rotate_left
                                              · simp only [Act.put, List.setIfInBounds_toArray, List.set_cons_zero, List.set_cons_succ, i64_w, i32_w]
                                                rfl
                                              refine pure_ (i := 10) (N := some 170) (v := ?_) (a' := ?_) #[true, true, true, true, true, true, true, true, true, true, true, false, false, false, false, false, false, false, false, false, false, false, false, false, false, false, false, false, false, false, false, false, false, false, false, false, false, false, false, false, false, false, false, false, false, false, false, false, false] rfl rfl (any_of HT_.out (by kernel_rfl)) (fun _ _ _ h => h) (Or.inl ⟨by rfl, ?_⟩) ?_ ?_
                                              rotate_left
                                              · intro w'
                                                go_simp
                                                with_reducible rfl
                                              rotate_left
                                              · simp only [Act.put, List.setIfInBounds_toArray, List.set_cons_zero, List.set_cons_succ, i64_w, i32_w]
                                                rfl
                                              refine pure_ (i := 11) (N := some 171) (v := ?_) (a' := ?_) #[true, true, true, true, true, true, true, true, true, true, true, true, false, false, false, false, false, false, false, false, false, false, false, false, false, false, false, false, false, false, false, false, false, false, false, false, false, false, false, false, false, false, false, false, false, false, false, false, false] rfl rfl (any_of HT_.out (by kernel_rfl)) (fun _ _ _ h => h) (Or.inl ⟨by rfl, ?_⟩) ?_ ?_
                                              rotate_left
                                              · intro w'
                                                go_simp
                                                with_reducible rfl
                                              rotate_left
                                              · simp only [Act.put, List.setIfInBounds_toArray, List.set_cons_zero, List.set_cons_succ, i64_w, i32_w]
                                                rfl
                                              refine pure_ (i := 12) (N := some 172) (v := ?_) (a' := ?_) #[true, true, true, true, true, true, true, true, true, true, true, true, true, false, false, false, false, false, false, false, false, false, false, false, false, false, false, false, false, false, false, false, false, false, false, false, false, false, false, false, false, false, false, false, false, false, false, false, false] rfl rfl (any_of HT_.out (by kernel_rfl)) (fun _ _ _ h => h) (Or.inl ⟨by rfl, ?_⟩) ?_ ?_
                                              rotate_left
                                              · intro w'
                                                go_simp
                                                with_reducible rfl
                                              rotate_left
                                              · simp only [Act.put, List.setIfInBounds_toArray, List.set_cons_zero, List.set_cons_succ, i64_w, i32_w]
                                                rfl
                                              refine pure_ (i := 13) (N := some 173) (v := ?_) (a' := ?_) #[true, true, true, true, true, true, true, true, true, true, true, true, true, true, false, false, false, false, false, false, false, false, false, false, false, false, false, false, false, false, false, false, false, false, false, false, false, false, false, false, false, false, false, false, false, false, false, false, false] rfl rfl (any_of HT_.out (by kernel_rfl)) (fun _ _ _ h => h) (Or.inl ⟨by rfl, ?_⟩) ?_ ?_
                                              rotate_left
                                              · intro w'
                                                go_simp
                                                with_reducible rfl
                                              rotate_left
                                              · simp only [Act.put, List.setIfInBounds_toArray, List.set_cons_zero, List.set_cons_succ, i64_w, i32_w]
                                                rfl
                                              refine pure_ (i := 14) (N := some 174) (v := ?_) (a' := ?_) #[true, true, true, true, true, true, true, true, true, true, true, true, true, true, true, false, false, false, false, false, false, false, false, false, false, false, false, false, false, false, false, false, false, false, false, false, false, false, false, false, false, false, false, false, false, false, false, false, false] rfl rfl (any_of HT_.out (by kernel_rfl)) (fun _ _ _ h => h) (Or.inl ⟨by rfl, ?_⟩) ?_ ?_
                                              rotate_left
                                              · intro w'
                                                go_simp
                                                with_reducible rfl
                                              rotate_left
                                              · simp only [Act.put, List.setIfInBounds_toArray, List.set_cons_zero, List.set_cons_succ, i64_w, i32_w]
                                                rfl
                                              refine pure_ (i := 15) (N := some 175) (v := ?_) (a' := ?_) #[true, true, true, true, true, true, true, true, true, true, true, true, true, true, true, true, false, false, false, false, false, false, false, false, false, false, false, false, false, false, false, false, false, false, false, false, false, false, false, false, false, false, false, false, false, false, false, false, false] rfl rfl (any_of HT_.out (by kernel_rfl)) (fun _ _ _ h => h) (Or.inl ⟨by rfl, ?_⟩) ?_ ?_
                                              rotate_left
                                              · intro w'
                                                go_simp
                                                with_reducible rfl
                                              rotate_left
                                              · simp only [Act.put, List.setIfInBounds_toArray, List.set_cons_zero, List.set_cons_succ, i64_w, i32_w]
                                                rfl
                                              refine pure_ (i := 16) (N := some 176) (v := ?_) (a' := ?_) #[true, true, true, true, true, true, true, true, true, true, true, true, true, true, true, true, true, false, false, false, false, false, false, false, false, false, false, false, false, false, false, false, false, false, false, false, false, false, false, false, false, false, false, false, false, false, false, false, false] rfl rfl (any_of HT_.out (by kernel_rfl)) (fun _ _ _ h => h) (Or.inl ⟨by rfl, ?_⟩) ?_ ?_
                                              rotate_left
                                              · intro w'
                                                go_simp
                                                with_reducible rfl
                                              rotate_left
                                              · simp only [Act.put, List.setIfInBounds_toArray, List.set_cons_zero, List.set_cons_succ, i64_w, i32_w]
                                                rfl
                                              refine pure_ (i := 17) (N := some 177) (v := ?_) (a' := ?_) #[true, true, true, true, true, true, true, true, true, true, true, true, true, true, true, true, true, true, false, false, false, false, false, false, false, false, false, false, false, false, false, false, false, false, false, false, false, false, false, false, false, false, false, false, false, false, false, false, false] rfl rfl (any_of HT_.out (by kernel_rfl)) (fun _ _ _ h => h) (Or.inl ⟨by rfl, ?_⟩) ?_ ?_
                                              rotate_left
                                              · intro w'
                                                go_simp
                                                with_reducible rfl
                                              rotate_left
                                              · simp only [Act.put, List.setIfInBounds_toArray, List.set_cons_zero, List.set_cons_succ, i64_w, i32_w]
                                                rfl
                                              refine pure_ (i := 18) (N := some 178) (v := ?_) (a' := ?_) #[true, true, true, true, true, true, true, true, true, true, true, true, true, true, true, true, true, true, true, false, false, false, false, false, false, false, false, false, false, false, false, false, false, false, false, false, false, false, false, false, false, false, false, false, false, false, false, false, false] rfl rfl (any_of HT_.out (by kernel_rfl)) (fun _ _ _ h => h) (Or.inl ⟨by rfl, ?_⟩) ?_ ?_
                                              rotate_left
                                              · intro w'
                                                go_simp
                                                with_reducible rfl
                                              rotate_left
                                              · simp only [Act.put, List.setIfInBounds_toArray, List.set_cons_zero, List.set_cons_succ, i64_w, i32_w]
                                                rfl
                                              refine pure_ (i := 19) (N := some 179) (v := ?_) (a' := ?_) #[true, true, true, true, true, true, true, true, true, true, true, true, true, true, true, true, true, true, true, true, false, false, false, false, false, false, false, false, false, false, false, false, false, false, false, false, false, false, false, false, false, false, false, false, false, false, false, false, false] rfl rfl (any_of HT_.out (by kernel_rfl)) (fun _ _ _ h => h) (Or.inl ⟨by rfl, ?_⟩) ?_ ?_
                                              rotate_left
                                              · intro w'
                                                go_simp
                                                with_reducible rfl
                                              rotate_left
                                              · simp only [Act.put, List.setIfInBounds_toArray, List.set_cons_zero, List.set_cons_succ, i64_w, i32_w]
                                                rfl
                                              refine pure_ (i := 20) (N := some 180) (v := ?_) (a' := ?_) #[true, true, true, true, true, true, true, true, true, true, true, true, true, true, true, true, true, true, true, true, true, false, false, false, false, false, false, false, false, false, false, false, false, false, false, false, false, false, false, false, false, false, false, false, false, false, false, false, false] rfl rfl (any_of HT_.out (by kernel_rfl)) (fun _ _ _ h => h) (Or.inl ⟨by rfl, ?_⟩) ?_ ?_
                                              rotate_left
                                              · intro w'
                                                go_simp
                                                with_reducible rfl
                                              rotate_left
                                              · simp only [Act.put, List.setIfInBounds_toArray, List.set_cons_zero, List.set_cons_succ, i64_w, i32_w]
                                                rfl
                                              refine pure_ (i := 21) (N := some 181) (v := ?_) (a' := ?_) #[true, true, true, true, true, true, true, true, true, true, true, true, true, true, true, true, true, true, true, true, true, true, false, false, false, false, false, false, false, false, false, false, false, false, false, false, false, false, false, false, false, false, false, false, false, false, false, false, false] rfl rfl (any_of HT_.out (by kernel_rfl)) (fun _ _ _ h => h) (Or.inl ⟨by rfl, ?_⟩) ?_ ?_
                                              rotate_left
                                              · intro w'
                                                go_simp
                                                with_reducible rfl
                                              rotate_left
                                              · simp only [Act.put, List.setIfInBounds_toArray, List.set_cons_zero, List.set_cons_succ, i64_w, i32_w]
                                                rfl
                                              refine pure_ (i := 22) (N := some 182) (v := ?_) (a' := ?_) #[true, true, true, true, true, true, true, true, true, true, true, true, true, true, true, true, true, true, true, true, true, true, true, false, false, false, false, false, false, false, false, false, false, false, false, false, false, false, false, false, false, false, false, false, false, false, false, false, false] rfl rfl (any_of HT_.out (by kernel_rfl)) (fun _ _ _ h => h) (Or.inl ⟨by rfl, ?_⟩) ?_ ?_
                                              rotate_left
                                              · intro w'
                                                go_simp
                                                with_reducible rfl
                                              rotate_left
                                              · simp only [Act.put, List.setIfInBounds_toArray, List.set_cons_zero, List.set_cons_succ, i64_w, i32_w]
                                                rfl
                                              refine pure_ (i := 23) (N := some 183) (v := ?_) (a' := ?_) #[true, true, true, true, true, true, true, true, true, true, true, true, true, true, true, true, true, true, true, true, true, true, true, true, false, false, false, false, false, false, false, false, false, false, false, false, false, false, false, false, false, false, false, false, false, false, false, false, false] rfl rfl (any_of HT_.out (by kernel_rfl)) (fun _ _ _ h => h) (Or.inl ⟨by rfl, ?_⟩) ?_ ?_
                                              rotate_left
                                              · intro w'
                                                go_simp
                                                with_reducible rfl
                                              rotate_left
                                              · simp only [Act.put, List.setIfInBounds_toArray, List.set_cons_zero, List.set_cons_succ, i64_w, i32_w]
                                                rfl
                                              refine pure_ (i := 24) (N := some 184) (v := ?_) (a' := ?_) #[true, true, true, true, true, true, true, true, true, true, true, true, true, true, true, true, true, true, true, true, true, true, true, true, true, false, false, false, false, false, false, false, false, false, false, false, false, false, false, false, false, false, false, false, false, false, false, false, false] rfl rfl (any_of HT_.out (by kernel_rfl)) (fun _ _ _ h => h) (Or.inl ⟨by rfl, ?_⟩) ?_ ?_
                                              rotate_left
                                              · intro w'
                                                go_simp
                                                with_reducible rfl
                                              rotate_left
                                              · simp only [Act.put, List.setIfInBounds_toArray, List.set_cons_zero, List.set_cons_succ, i64_w, i32_w]
                                                rfl
                                              refine pure_ (i := 25) (N := some 185) (v := ?_) (a' := ?_) #[true, true, true, true, true, true, true, true, true, true, true, true, true, true, true, true, true, true, true, true, true, true, true, true, true, true, false, false, false, false, false, false, false, false, false, false, false, false, false, false, false, false, false, false, false, false, false, false, false] rfl rfl (any_of HT_.out (by kernel_rfl)) (fun _ _ _ h => h) (Or.inl ⟨by rfl, ?_⟩) ?_ ?_
                                              rotate_left
                                              · intro w'
                                                go_simp
                                                with_reducible rfl
                                              rotate_left
                                              · simp only [Act.put, List.setIfInBounds_toArray, List.set_cons_zero, List.set_cons_succ, i64_w, i32_w]
                                                rfl
                                              refine pure_ (i := 26) (N := some 186) (v := ?_) (a' := ?_) #[true, true, true, true, true, true, true, true, true, true, true, true, true, true, true, true, true, true, true, true, true, true, true, true, true, true, true, false, false, false, false, false, false, false, false, false, false, false, false, false, false, false, false, false, false, false, false, false, false] rfl rfl (any_of HT_.out (by kernel_rfl)) (fun _ _ _ h => h) (Or.inl ⟨by rfl, ?_⟩) ?_ ?_
                                              rotate_left
                                              · intro w'
                                                go_simp
                                                with_reducible rfl
                                              rotate_left
                                              · simp only [Act.put, List.setIfInBounds_toArray, List.set_cons_zero, List.set_cons_succ, i64_w, i32_w]
                                                rfl
                                              refine pure_ (i := 27) (N := some 187) (v := ?_) (a' := ?_) #[true, true, true, true, true, true, true, true, true, true, true, true, true, true, true, true, true, true, true, true, true, true, true, true, true, true, true, true, false, false, false, false, false, false, false, false, false, false, false, false, false, false, false, false, false, false, false, false, false] rfl rfl (any_of HT_.out (by kernel_rfl)) (fun _ _ _ h => h) (Or.inl ⟨by rfl, ?_⟩) ?_ ?_
                                              rotate_left
                                              · intro w'
                                                go_simp
                                                with_reducible rfl
                                              rotate_left
                                              · simp only [Act.put, List.setIfInBounds_toArray, List.set_cons_zero, List.set_cons_succ, i64_w, i32_w]
                                                rfl
                                              refine pure_ (i := 28) (N := some 188) (v := ?_) (a' := ?_) #[true, true, true, true, true, true, true, true, true, true, true, true, true, true, true, true, true, true, true, true, true, true, true, true, true, true, true, true, true, false, false, false, false, false, false, false, false, false, false, false, false, false, false, false, false, false, false, false, false] rfl rfl (any_of HT_.out (by kernel_rfl)) (fun _ _ _ h => h) (Or.inl ⟨by rfl, ?_⟩) ?_ ?_
                                              rotate_left
                                              · intro w'
                                                go_simp
                                                with_reducible rfl
                                              rotate_left
                                              · simp only [Act.put, List.setIfInBounds_toArray, List.set_cons_zero, List.set_cons_succ, i64_w, i32_w]
                                                rfl
                                              refine pure_ (i := 29) (N := some 189) (v := ?_) (a' := ?_) #[true, true, true, true, true, true, true, true, true, true, true, true, true, true, true, true, true, true, true, true, true, true, true, true, true, true, true, true, true, true, false, false, false, false, false, false, false, false, false, false, false, false, false, false, false, false, false, false, false] rfl rfl (any_of HT_.out (by kernel_rfl)) (fun _ _ _ h => h) (Or.inl ⟨by rfl, ?_⟩) ?_ ?_
                                              rotate_left
                                              · intro w'
                                                go_simp
                                                with_reducible rfl
                                              rotate_left
                                              · simp only [Act.put, List.setIfInBounds_toArray, List.set_cons_zero, List.set_cons_succ, i64_w, i32_w]
                                                rfl
                                              refine pure_ (i := 30) (N := some 190) (v := ?_) (a' := ?_) #[true, true, true, true, true, true, true, true, true, true, true, true, true, true, true, true, true, true, true, true, true, true, true, true, true, true, true, true, true, true, true, false, false, false, false, false, false, false, false, false, false, false, false, false, false, false, false, false, false] rfl rfl (any_of HT_.out (by kernel_rfl)) (fun _ _ _ h => h) (Or.inl ⟨by rfl, ?_⟩) ?_ ?_
                                              rotate_left
                                              · intro w'
                                                go_simp
                                                with_reducible rfl
                                              rotate_left
                                              · simp only [Act.put, List.setIfInBounds_toArray, List.set_cons_zero, List.set_cons_succ, i64_w, i32_w]
                                                rfl
                                              refine pure_ (i := 31) (N := some 191) (v := ?_) (a' := ?_) #[true, true, true, true, true, true, true, true, true, true, true, true, true, true, true, true, true, true, true, true, true, true, true, true, true, true, true, true, true, true, true, true, false, false, false, false, false, false, false, false, false, false, false, false, false, false, false, false, false] rfl rfl (any_of HT_.out (by kernel_rfl)) (fun _ _ _ h => h) (Or.inl ⟨by rfl, ?_⟩) ?_ ?_
                                              rotate_left
                                              · intro w'
                                                go_simp
                                                with_reducible rfl
                                              rotate_left
                                              · simp only [Act.put, List.setIfInBounds_toArray, List.set_cons_zero, List.set_cons_succ, i64_w, i32_w]
                                                rfl
                                              refine pure_ (i := 32) (N := some 192) (v := ?_) (a' := ?_) #[true, true, true, true, true, true, true, true, true, true, true, true, true, true, true, true, true, true, true, true, true, true, true, true, true, true, true, true, true, true, true, true, true, false, false, false, false, false, false, false, false, false, false, false, false, false, false, false, false] rfl rfl (any_of HT_.out (by kernel_rfl)) (fun _ _ _ h => h) (Or.inl ⟨by rfl, ?_⟩) ?_ ?_
                                              rotate_left
                                              · intro w'
                                                go_simp
                                                with_reducible rfl
                                              rotate_left
                                              · simp only [Act.put, List.setIfInBounds_toArray, List.set_cons_zero, List.set_cons_succ, i64_w, i32_w]
                                                rfl
                                              refine pure_ (i := 33) (N := some 193) (v := ?_) (a' := ?_) #[true, true, true, true, true, true, true, true, true, true, true, true, true, true, true, true, true, true, true, true, true, true, true, true, true, true, true, true, true, true, true, true, true, true, false, false, false, false, false, false, false, false, false, false, false, false, false, false, false] rfl rfl (any_of HT_.out (by kernel_rfl)) (fun _ _ _ h => h) (Or.inl ⟨by rfl, ?_⟩) ?_ ?_
                                              rotate_left
                                              · intro w'
                                                go_simp
                                                with_reducible rfl
                                              rotate_left
                                              · simp only [Act.put, List.setIfInBounds_toArray, List.set_cons_zero, List.set_cons_succ, i64_w, i32_w]
                                                rfl
                                              refine pure_ (i := 34) (N := some 194) (v := ?_) (a' := ?_) #[true, true, true, true, true, true, true, true, true, true, true, true, true, true, true, true, true, true, true, true, true, true, true, true, true, true, true, true, true, true, true, true, true, true, true, false, false, false, false, false, false, false, false, false, false, false, false, false, false] rfl rfl (any_of HT_.out (by kernel_rfl)) (fun _ _ _ h => h) (Or.inl ⟨by rfl, ?_⟩) ?_ ?_
                                              rotate_left
                                              · intro w'
                                                go_simp
                                                with_reducible rfl
                                              rotate_left
                                              · simp only [Act.put, List.setIfInBounds_toArray, List.set_cons_zero, List.set_cons_succ, i64_w, i32_w]
                                                rfl
                                              refine pure_ (i := 35) (N := some 195) (v := ?_) (a' := ?_) #[true, true, true, true, true, true, true, true, true, true, true, true, true, true, true, true, true, true, true, true, true, true, true, true, true, true, true, true, true, true, true, true, true, true, true, true, false, false, false, false, false, false, false, false, false, false, false, false, false] rfl rfl (any_of HT_.out (by kernel_rfl)) (fun _ _ _ h => h) (Or.inl ⟨by rfl, ?_⟩) ?_ ?_
                                              rotate_left
                                              · intro w'
                                                go_simp
                                                with_reducible rfl
                                              rotate_left
                                              · simp only [Act.put, List.setIfInBounds_toArray, List.set_cons_zero, List.set_cons_succ, i64_w, i32_w]
                                                rfl
                                              refine pure_ (i := 36) (N := some 196) (v := ?_) (a' := ?_) #[true, true, true, true, true, true, true, true, true, true, true, true, true, true, true, true, true, true, true, true, true, true, true, true, true, true, true, true, true, true, true, true, true, true, true, true, true, false, false, false, false, false, false, false, false, false, false, false, false] rfl rfl (any_of HT_.out (by kernel_rfl)) (fun _ _ _ h => h) (Or.inl ⟨by rfl, ?_⟩) ?_ ?_
                                              rotate_left
                                              · intro w'
                                                go_simp
                                                with_reducible rfl
                                              rotate_left
                                              · simp only [Act.put, List.setIfInBounds_toArray, List.set_cons_zero, List.set_cons_succ, i64_w, i32_w]
                                                rfl
                                              refine pure_ (i := 37) (N := some 197) (v := ?_) (a' := ?_) #[true, true, true, true, true, true, true, true, true, true, true, true, true, true, true, true, true, true, true, true, true, true, true, true, true, true, true, true, true, true, true, true, true, true, true, true, true, true, false, false, false, false, false, false, false, false, false, false, false] rfl rfl (any_of HT_.out (by kernel_rfl)) (fun _ _ _ h => h) (Or.inl ⟨by rfl, ?_⟩) ?_ ?_
                                              rotate_left
                                              · intro w'
                                                go_simp
                                                with_reducible rfl
                                              rotate_left
                                              · simp only [Act.put, List.setIfInBounds_toArray, List.set_cons_zero, List.set_cons_succ, i64_w, i32_w]
                                                rfl
                                              refine pure_ (i := 38) (N := some 198) (v := ?_) (a' := ?_) #[true, true, true, true, true, true, true, true, true, true, true, true, true, true, true, true, true, true, true, true, true, true, true, true, true, true, true, true, true, true, true, true, true, true, true, true, true, true, true, false, false, false, false, false, false, false, false, false, false] rfl rfl (any_of HT_.out (by kernel_rfl)) (fun _ _ _ h => h) (Or.inl ⟨by rfl, ?_⟩) ?_ ?_
                                              rotate_left
                                              · intro w'
                                                go_simp
                                                with_reducible rfl
                                              rotate_left
                                              · simp only [Act.put, List.setIfInBounds_toArray, List.set_cons_zero, List.set_cons_succ, i64_w, i32_w]
                                                rfl
                                              refine pure_ (i := 40) (N := some 200) (v := ?_) (a' := ?_) #[true, true, true, true, true, true, true, true, true, true, true, true, true, true, true, true, true, true, true, true, true, true, true, true, true, true, true, true, true, true, true, true, true, true, true, true, true, true, true, false, true, false, false, false, false, false, false, false, false] rfl rfl (any_of HT_.out (by kernel_rfl)) (fun _ _ _ h => h) (Or.inl ⟨by rfl, ?_⟩) ?_ ?_
                                              rotate_left
                                              · intro w'
                                                go_simp
                                                with_reducible rfl
                                              rotate_left
                                              · simp only [Act.put, List.setIfInBounds_toArray, List.set_cons_zero, List.set_cons_succ, i64_w, i32_w]
                                                rfl
                                              refine pure_ (i := 44) (N := some 204) (v := ?_) (a' := ?_) #[true, true, true, true, true, true, true, true, true, true, true, true, true, true, true, true, true, true, true, true, true, true, true, true, true, true, true, true, true, true, true, true, true, true, true, true, true, true, true, false, true, false, false, false, true, false, false, false, false] rfl rfl (any_of HT_.out (by kernel_rfl)) (fun _ _ _ h => h) (Or.inl ⟨by rfl, ?_⟩) ?_ ?_
                                              rotate_left
                                              · intro w'
                                                go_simp
                                                with_reducible rfl
                                              rotate_left
                                              · simp only [Act.put, List.setIfInBounds_toArray, List.set_cons_zero, List.set_cons_succ, i64_w, i32_w]
                                                rfl
                                              refine take_ (i := 39) (N := some 199) (v := ?_) (a' := ?_) #[true, true, true, true, true, true, true, true, true, true, true, true, true, true, true, true, true, true, true, true, true, true, true, true, true, true, true, true, true, true, true, true, true, true, true, true, true, true, true, true, true, false, false, false, true, false, false, false, false] rfl rfl (take_ofW HT_.out HW_.out (by kernel_rfl)) (fun _ _ _ h => h) (Or.inl ⟨by rfl, ?_⟩) hHeld ?_ ?_
                                              rotate_left
                                              · rintro w' ⟨s0, s1, s2, s3⟩
                                                go_simp
                                                with_reducible rfl
                                              rotate_left
                                              · simp only [Act.put, List.setIfInBounds_toArray, List.set_cons_zero, List.set_cons_succ, i64_w, i32_w]
                                                rfl
                                              refine take_ (i := 41) (N := some 201) (v := ?_) (a' := ?_) #[true, true, true, true, true, true, true, true, true, true, true, true, true, true, true, true, true, true, true, true, true, true, true, true, true, true, true, true, true, true, true, true, true, true, true, true, true, true, true, true, true, true, false, false, true, false, false, false, false] rfl rfl (take_ofW HT_.out HW_.out (by kernel_rfl)) (fun _ _ _ h => h) (Or.inl ⟨by rfl, ?_⟩) hHeld ?_ ?_
                                              rotate_left
                                              · rintro w' ⟨s0, s1, s2, s3⟩
                                                go_simp
                                                with_reducible rfl
                                              rotate_left
                                              · simp only [Act.put, List.setIfInBounds_toArray, List.set_cons_zero, List.set_cons_succ, i64_w, i32_w]
                                                rfl
                                              refine take_ (i := 43) (N := some 203) (v := ?_) (a' := ?_) #[true, true, true, true, true, true, true, true, true, true, true, true, true, true, true, true, true, true, true, true, true, true, true, true, true, true, true, true, true, true, true, true, true, true, true, true, true, true, true, true, true, true, false, true, true, false, false, false, false] rfl rfl (take_ofW HT_.out HW_.out (by kernel_rfl)) (fun _ _ _ h => h) (Or.inl ⟨by rfl, ?_⟩) hHeld ?_ ?_
                                              rotate_left
                                              · rintro w' ⟨s0, s1, s2, s3⟩
                                                go_simp
                                                with_reducible rfl
                                              rotate_left
                                              · simp only [Act.put, List.setIfInBounds_toArray, List.set_cons_zero, List.set_cons_succ, i64_w, i32_w]
                                                rfl
                                              refine take_ (i := 45) (N := some 205) (v := ?_) (a' := ?_) #[true, true, true, true, true, true, true, true, true, true, true, true, true, true, true, true, true, true, true, true, true, true, true, true, true, true, true, true, true, true, true, true, true, true, true, true, true, true, true, true, true, true, false, true, true, true, false, false, false] rfl rfl (take_ofW HT_.out HW_.out (by kernel_rfl)) (fun _ _ _ h => h) (Or.inl ⟨by rfl, ?_⟩) hHeld ?_ ?_
                                              rotate_left
                                              · rintro w' ⟨s0, s1, s2, s3⟩
                                                go_simp
                                                with_reducible rfl
                                              rotate_left
                                              · simp only [Act.put, List.setIfInBounds_toArray, List.set_cons_zero, List.set_cons_succ, i64_w, i32_w]
                                                rfl
                                              refine one_ (i := 42) (N := some 202) #[true, true, true, true, true, true, true, true, true, true, true, true, true, true, true, true, true, true, true, true, true, true, true, true, true, true, true, true, true, true, true, true, true, true, true, true, true, true, true, true, true, true, true, true, true, true, false, false, false] rfl rfl (one_of HT_.out (by kernel_rfl)) (by decide) (fun K hK => ?_)
                                              refine goes_ Try.func24 (by kernel_rfl) rfl #[.agg #[.int .i64 ((rd_T23 y162 x46_1).f0), .int .i64 ((rd_T23 y162 x46_1).f1)], .int .i64 ((rd_T30 y179 x96_3).f0)] (by rfl) rfl rfl (by (try simp only [List.map_toArray, List.map_cons, List.map_nil]); first | done | rfl | (simp only [List.length_drop, List.length_take]; rfl)) ?_
                                              with_reducible refine (lattice_Active.calls ((rd_T23 y162 x46_1).f0) ((rd_T23 y162 x46_1).f1) ((rd_T30 y179 x96_3).f0) t200 _ A82.out).mono ?_
                                              rintro e w145 ⟨rfl, hb⟩
                                              refine ⟨_, rfl, ?_⟩
                                              have n0_ := Aside0.mk (Kd.R_below (by (with_reducible repeat (first | apply Kd.R_alloc | apply Kd.R_drewN | apply Kd.R_drew)); exact HO_44.out) hb)
                                              have n1_ := Aside0.mk (Kd.R_below (by (with_reducible repeat (first | apply Kd.R_alloc | apply Kd.R_drewN | apply Kd.R_drew)); exact HO_94.out) hb)
                                              have n2_ := Aside0.mk (blk_below (g := gb154) (o := .cells #[.int .i64 a0_0, .int .i64 a0_1] 23 (0, 0)) (by (with_reducible repeat (first | refine blk_drewN ?_ _ | refine blk_drew ?_ | refine blk_alloc ?_ _)); exact BK154.out) hb)
                                              have n3_ := Aside0.mk (blk_below (g := gb166) (o := .cells #[.int .i64 ((rd_T23 y162 x46_1).f0), .int .i64 ((rd_T23 y162 x46_1).f1)] 23 (0, 0)) (by (with_reducible repeat (first | refine blk_drewN ?_ _ | refine blk_drew ?_ | refine blk_alloc ?_ _)); exact BK166.out) hb)
                                              have n4_ := Aside0.mk (blk_below (g := gb183) (o := .cells #[.int .i64 ((rd_T30 y179 x96_3).f0), .int .i64 ((rd_T30 y179 x96_3).f1)] 30 (0, 0)) (by (with_reducible repeat (first | refine blk_drewN ?_ _ | refine blk_drew ?_ | refine blk_alloc ?_ _)); exact BK183.out) hb)
                                              have n5_ := Aside0.mk (below_step (by repeat (first | (with_reducible first | exact HB.out | apply below_alloc | apply pw_below_drewN | apply below_drew1 | refine below_set ?_ GE154.out | refine below_set ?_ GE166.out | refine below_set ?_ GE183.out) | exact HB.out)) hb)
                                              clear HO_44
                                              clear HO_94
                                              clear BK154
                                              clear BK166
                                              clear BK183
                                              clear HB
                                              have HO_44 := n0_
                                              have HO_94 := n1_
                                              have BK154 := n2_
                                              have BK166 := n3_
                                              have BK183 := n4_
                                              have HB := n5_
                                              clear n0_ n1_ n2_ n3_ n4_ n5_
                                              (try clear hb)
                                              (try clear hb2)
                                              (try clear hk)
                                              (try clear hi)
                                              refine hK.out _ _ ⟨(blk_cell BK166.out 0).trans rfl, (blk_cell BK166.out 1).trans rfl, (blk_cell BK183.out 0).trans rfl, (blk_cell BK183.out 1).trans rfl⟩ (fun hHeld => ?_)
                                              clear hK K
                                              refine norm_ (a' := ?_) ?_ ?_
                                              rotate_left
                                              · show Act.put _ (some 202) _ = _
                                                simp only [Act.put, List.setIfInBounds_toArray, List.set_cons_zero, List.set_cons_succ, i64_w, i32_w]
                                                rfl
                                              refine one_ (i := 46) (N := some 206) #[true, true, true, true, true, true, true, true, true, true, true, true, true, true, true, true, true, true, true, true, true, true, true, true, true, true, true, true, true, true, true, true, true, true, true, true, true, true, true, true, true, true, true, true, true, true, true, false, false] rfl rfl (one_of HT_.out (by kernel_rfl)) (by decide) (fun K hK => ?_)
                                              refine goes_ Try.func25 (by kernel_rfl) rfl #[.agg #[.int .i64 ((rd_T23 y162 x46_1).f0), .int .i64 ((rd_T23 y162 x46_1).f1)], .int .i64 ((rd_T30 y179 x96_3).f0)] (by rfl) rfl rfl (by (try simp only [List.map_toArray, List.map_cons, List.map_nil]); first | done | rfl | (simp only [List.length_drop, List.length_take]; rfl)) ?_
                                              with_reducible refine (omnibusref11_Active.calls ((rd_T23 y162 x46_1).f0) ((rd_T23 y162 x46_1).f1) ((rd_T30 y179 x96_3).f0) t201 _ A83.out).mono ?_
                                              rintro e w146 ⟨rfl, hb⟩
                                              refine ⟨_, rfl, ?_⟩
                                              have n0_ := Aside0.mk (Kd.R_below (by (with_reducible repeat (first | apply Kd.R_alloc | apply Kd.R_drewN | apply Kd.R_drew)); exact HO_44.out) hb)
                                              have n1_ := Aside0.mk (Kd.R_below (by (with_reducible repeat (first | apply Kd.R_alloc | apply Kd.R_drewN | apply Kd.R_drew)); exact HO_94.out) hb)
                                              have n2_ := Aside0.mk (blk_below (g := gb154) (o := .cells #[.int .i64 a0_0, .int .i64 a0_1] 23 (0, 0)) (by (with_reducible repeat (first | refine blk_drewN ?_ _ | refine blk_drew ?_ | refine blk_alloc ?_ _)); exact BK154.out) hb)
                                              have n3_ := Aside0.mk (blk_below (g := gb166) (o := .cells #[.int .i64 ((rd_T23 y162 x46_1).f0), .int .i64 ((rd_T23 y162 x46_1).f1)] 23 (0, 0)) (by (with_reducible repeat (first | refine blk_drewN ?_ _ | refine blk_drew ?_ | refine blk_alloc ?_ _)); exact BK166.out) hb)
                                              have n4_ := Aside0.mk (blk_below (g := gb183) (o := .cells #[.int .i64 ((rd_T30 y179 x96_3).f0), .int .i64 ((rd_T30 y179 x96_3).f1)] 30 (0, 0)) (by (with_reducible repeat (first | refine blk_drewN ?_ _ | refine blk_drew ?_ | refine blk_alloc ?_ _)); exact BK183.out) hb)
                                              have n5_ := Aside0.mk (below_step (by repeat (first | (with_reducible first | exact HB.out | apply below_alloc | apply pw_below_drewN | apply below_drew1 | refine below_set ?_ GE154.out | refine below_set ?_ GE166.out | refine below_set ?_ GE183.out) | exact HB.out)) hb)
                                              clear HO_44
                                              clear HO_94
                                              clear BK154
                                              clear BK166
                                              clear BK183
                                              clear HB
                                              have HO_44 := n0_
                                              have HO_94 := n1_
                                              have BK154 := n2_
                                              have BK166 := n3_
                                              have BK183 := n4_
                                              have HB := n5_
                                              clear n0_ n1_ n2_ n3_ n4_ n5_
                                              (try clear hb)
                                              (try clear hb2)
                                              (try clear hk)
                                              (try clear hi)
                                              refine hK.out _ _ ⟨(blk_cell BK166.out 0).trans rfl, (blk_cell BK166.out 1).trans rfl, (blk_cell BK183.out 0).trans rfl, (blk_cell BK183.out 1).trans rfl⟩ (fun hHeld => ?_)
                                              clear hK K
                                              refine norm_ (a' := ?_) ?_ ?_
                                              rotate_left
                                              · show Act.put _ (some 206) _ = _
                                                simp only [Act.put, List.setIfInBounds_toArray, List.set_cons_zero, List.set_cons_succ, i64_w, i32_w]
                                                rfl
                                              refine pure_ (i := 47) (N := some 207) (v := ?_) (a' := ?_) #[true, true, true, true, true, true, true, true, true, true, true, true, true, true, true, true, true, true, true, true, true, true, true, true, true, true, true, true, true, true, true, true, true, true, true, true, true, true, true, true, true, true, true, true, true, true, true, true, false] rfl rfl (any_of HT_.out (by kernel_rfl)) (fun _ _ _ h => h) (Or.inl ⟨by rfl, ?_⟩) ?_ ?_
                                              rotate_left
                                              · intro w'
                                                go_simp
                                                with_reducible rfl
                                              rotate_left
                                              · simp only [Act.put, List.setIfInBounds_toArray, List.set_cons_zero, List.set_cons_succ, i64_w, i32_w]
                                                rfl
                                              refine pure_ (i := 48) (N := some 208) (v := ?_) (a' := ?_) #[true, true, true, true, true, true, true, true, true, true, true, true, true, true, true, true, true, true, true, true, true, true, true, true, true, true, true, true, true, true, true, true, true, true, true, true, true, true, true, true, true, true, true, true, true, true, true, true, true] rfl rfl (any_of HT_.out (by kernel_rfl)) (fun _ _ _ h => h) (Or.inl ⟨by rfl, ?_⟩) ?_ ?_
                                              rotate_left
                                              · intro w'
                                                go_simp
                                                with_reducible rfl
                                              rotate_left
                                              · simp only [Act.put, List.setIfInBounds_toArray, List.set_cons_zero, List.set_cons_succ, i64_w, i32_w]
                                                rfl
                                              refine done_ (done_of HT_.out (by kernel_rfl)) ?_
                                              try go_wp2
                                              go_roundg k3
                                              case measure => have := HK1.out; have := HJ22.out; have := HK3.out; omega
                                              case rel => exact ⟨(wrap64 (x96_3 + 1)), (by first | rfl | (simp; done) | (simp [*]; done)), H', ⟨by have := HK1.out; have := HJ22.out; have := HK3.out; omega⟩, ⟨by (with_reducible repeat (first | apply Kd.R_alloc | apply Kd.R_drewN | apply Kd.R_drew)); exact HO_44.out⟩, ⟨by (with_reducible repeat (first | apply Kd.R_alloc | apply Kd.R_drewN | apply Kd.R_drew)); exact Kd.R_mono HO_94.out (fun _ hk => trivial)⟩, ⟨by (with_reducible repeat (first | refine blk_drewN ?_ _ | refine blk_drew ?_ | refine blk_alloc ?_ _)); exact BK154.out⟩, ⟨by (with_reducible repeat (first | refine blk_drewN ?_ _ | refine blk_drew ?_ | refine blk_alloc ?_ _)); exact BK166.out⟩, ⟨by repeat (first | (with_reducible first | exact HB.out | apply below_alloc | apply pw_below_drewN | apply below_drew1 | refine below_set ?_ GE154.out | refine below_set ?_ GE166.out | refine below_set ?_ GE183.out) | exact HB.out)⟩⟩
                                          · rw [if_neg c81] at H; exact absurd (Option.some.inj H) (by rw [HT.out]; decide)
                                        · rw [if_neg c80] at H; exact absurd (Option.some.inj H) (by rw [HT.out]; decide)
                                      · rw [if_neg c79] at H; exact absurd (Option.some.inj H) (by rw [HT.out]; decide)
                                    · rw [if_neg c78] at H; exact absurd (Option.some.inj H) (by rw [HT.out]; decide)
                                  · rw [if_neg c77] at H; exact absurd (Option.some.inj H) (by rw [HT.out]; decide)
                                · rw [if_neg c76] at H; exact absurd (Option.some.inj H) (by rw [HT.out]; decide)
                              · rw [if_neg c75] at H; exact absurd (Option.some.inj H) (by rw [HT.out]; decide)
                            · rw [if_neg c74] at H; exact absurd (Option.some.inj H) (by rw [HT.out]; decide)
                          · rw [if_neg c65] at H
                            exact absurd H (by simp)
                        · rw [if_neg c64] at H
                          exact absurd H (by simp)
                      · rw [if_neg c63] at H
                        have c63b0 : decide (x96_3 < (y179.length : Int)) = false := decide_eq_false c63
                        clear c63
                        have H' := Aside0.mk H
                        clear H
                        go_wp2
                        go_roundg k3
                        case measure => have := HK1.out; have := HJ22.out; have := HK3.out; omega
                        case rel => exact ⟨(wrap64 (x46_1 + 1)), (by first | rfl | (simp; done) | (simp [*]; done)), H', ⟨by have := HK1.out; have := HJ22.out; have := HK3.out; omega⟩, ⟨by (with_reducible repeat (first | apply Kd.R_alloc | apply Kd.R_drewN | apply Kd.R_drew)); exact Kd.R_mono HO_44.out (fun _ hk => hk.1)⟩, ⟨by (with_reducible repeat (first | refine blk_drewN ?_ _ | refine blk_drew ?_ | refine blk_alloc ?_ _)); exact BK154.out⟩, ⟨by repeat (first | (with_reducible first | exact HB.out | apply below_alloc | apply pw_below_drewN | apply below_drew1 | refine below_set ?_ GE154.out | refine below_set ?_ GE166.out) | exact HB.out)⟩⟩
          · rw [if_neg c22] at H
            exact absurd H (by simp)
        · rw [if_neg c21] at H
          exact absurd H (by simp)
      · rw [if_neg c20] at H
        have c20b0 : decide (x46_1 < (y162.length : Int)) = false := decide_eq_false c20
        clear c20
        first
        | exact absurd (Option.some.inj H) (by rw [HT.out]; decide)
        | obtain rfl := Option.some.inj H
          go_wp2
          go_ret
          exact ⟨by first | rfl | (simp [errW_none, errW_some] <;> rfl) | (simp [*, errW_none, errW_some] <;> rfl), by repeat (first | (with_reducible first | exact HB.out | apply below_alloc | apply pw_below_drewN | apply below_drew1 | refine below_set ?_ GE154.out) | exact HB.out)⟩

/-- THE ONE PURE STATEMENT of omnibuslaw11_LatticeTells: yours. -/
def omnibuslaw11_LatticeTells.Pure : Prop := ∀ (a0_0 : Int) (a0_1 : Int) (a1 : Int) (a2 : Int) (a3 : Int) (a4 : Int) (a5 : Int), (Lit.int .i64 a0_0).wf = true → (Lit.int .i64 a0_1).wf = true → (Lit.int .i64 a1).wf = true → (Lit.int .i64 a2).wf = true → (Lit.int .i64 a3).wf = true → (Lit.int .i64 a4).wf = true → (Lit.int .i64 a5).wf = true → ∃ k, omnibuslaw11_LatticeTells.f k a0_0 a0_1 a1 a2 a3 a4 a5 = some true
theorem omnibuslaw11_LatticeTells.walk (P : omnibuslaw11_LatticeTells.Pure) (a0_0 : Int) (a0_1 : Int) (a1 : Int) (a2 : Int) (a3 : Int) (a4 : Int) (a5 : Int) (w : World) (w0_0 : (Lit.int .i64 a0_0).wf = true) (w0_1 : (Lit.int .i64 a0_1).wf = true) (w1 : (Lit.int .i64 a1).wf = true) (w2 : (Lit.int .i64 a2).wf = true) (w3 : (Lit.int .i64 a3).wf = true) (w4 : (Lit.int .i64 a4).wf = true) (w5 : (Lit.int .i64 a5).wf = true) :
    Calls Try.prog 3 #[.agg #[.int .i64 a0_0, .int .i64 a0_1], .int .i64 a1, .int .i64 a2, .int .i64 a3, .int .i64 a4, .int .i64 a5] w fun e w' => e = .returned (.bool true) ∧ Below w.heap.size w w' := by
  obtain ⟨k, h⟩ := P a0_0 a0_1 a1 a2 a3 a4 a5 w0_0 w0_1 w1 w2 w3 w4 w5
  refine (omnibuslaw11_LatticeTells.calls k a0_0 a0_1 a1 a2 a3 a4 a5 true w h rfl).mono ?_
  rintro e w' ⟨rfl, hd⟩
  exact ⟨rfl, hd⟩

end Go.Proofs.Ytbjmoebajdhdoaa.PB
