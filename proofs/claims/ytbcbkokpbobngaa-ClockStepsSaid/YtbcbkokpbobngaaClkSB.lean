/- What the printed functions pick, down, Elapsed, Macro, Middle, Correct, Spread and devs come to. Plain laws on numbers and lists. -/
import Derived.Test.YtbcbkokpbobngaaPSx3
import Derived.Test.YtbcbkokpbobngaaClkSA
namespace Go.Proofs.Ytbcbkokpbobngaa
open Go.RowKit Go.Proofs.Ytbcbkokpbobngaa.PS Go.Proofs.YtbcbkokpbobngaaW.PrintWords Go.Proofs.YtbcbkokpbobngaaW.PrintLast Go.Proofs.YtbcbkokpbobngaaW.PrintMore
theorem wf_i64 {x : Int} (h : (Lit.int .i64 x).wf = true) : -9223372036854775808 ≤ x ∧ x ≤ 9223372036854775807 := by
  have hmin : IntKind.i64.min = -9223372036854775808 := rfl
  have hmax : IntKind.i64.max = 9223372036854775807 := rfl
  simp only [Lit.wf, Bool.and_eq_true, decide_eq_true_eq] at h
  omega
/-- Which of n things a raw number speaks of. -/
def pk (c n : Int) : Int := (if c < 0 then -(c + 1) else c) % n
theorem pk_range (c n : Int) (hn : 0 < n) : 0 ≤ pk c n ∧ pk c n < n := ⟨Int.emod_nonneg _ (by omega), Int.emod_lt_of_pos _ hn⟩
theorem pick_eq (c n : Int) (hc : -9223372036854775808 ≤ c ∧ c ≤ 9223372036854775807) (hn : 0 < n) : omnibuslaw10_pick.f c n = some (pk c n) := by
  unfold omnibuslaw10_pick.f pk
  by_cases h : c < 0
  · rw [if_pos h, if_neg (by omega), if_pos h, w64 (x := c + 1) (by omega) (by omega), w64 (by omega) (by omega), Int.tmod_eq_emod_of_nonneg (by omega)]
  · rw [if_neg h, if_neg (by omega), if_neg h, Int.tmod_eq_emod_of_nonneg (by omega)]
theorem down_eq (a b : Int) (ha : -2305843009213693952 ≤ a ∧ a ≤ 2305843009213693952) (hb : 0 < b) (hb2 : b ≤ 2305843009213693952) : clock_down.f a b = some (a / b) := by
  unfold clock_down.f
  rw [if_neg (by omega)]
  have h1 : -b < a.tmod b ∧ a.tmod b < b := by
    have := Int.tmod_lt_of_pos a hb
    have h2 := Int.tmod_lt_of_pos (-a) hb
    rw [Int.neg_tmod] at h2
    omega
  have e1 : wrap64 (a.tmod b + b) = a.tmod b + b := w64 (by omega) (by omega)
  have e2 : (a.tmod b + b).tmod b = a % b := by
    rw [Int.tmod_eq_emod_of_nonneg (by omega), Int.add_emod_right, Int.tmod_eq_emod]
    split
    · simp
    · rw [Int.sub_emod, Int.natAbs_of_nonneg (by omega)]
      simp
  rw [e1, e2]
  have h3 := Int.emod_nonneg a (show b ≠ 0 by omega)
  have h4 := Int.emod_lt_of_pos a hb
  rw [w64 (x := a - a % b) (by omega) (by omega)]
  have e3 : a - a % b = b * (a / b) := by have := Int.mul_ediv_add_emod a b; omega
  rw [e3, Int.mul_tdiv_cancel_left _ (by omega)]
  have h5 : -4611686018427387904 ≤ a / b ∧ a / b ≤ 2305843009213693952 := by
    constructor
    · have := Int.mul_ediv_add_emod a b
      by_cases hq : a / b ≤ -1
      · have h6 : b * (a / b) ≤ 1 * (a / b) := Int.mul_le_mul_of_nonpos_right (by omega) (by omega)
        omega
      · omega
    · by_cases hq : 0 ≤ a / b
      · have h6 : 1 * (a / b) ≤ b * (a / b) := Int.mul_le_mul_of_nonneg_right (by omega) hq
        omega
      · omega
  rw [w64 (by omega) (by omega)]
theorem Elapsed_eq (t d : Int) (ht : 0 ≤ t ∧ t ≤ 1099511627776) (hd : -1000 ≤ d ∧ d ≤ 1000) : clock_Elapsed.f t d = some (t + t * d / 1000000, 0) ∧ -1099511627776000 ≤ t * d ∧ t * d ≤ 1099511627776000 := by
  have h1 : -1099511627776000 ≤ t * d ∧ t * d ≤ 1099511627776000 := by
    have a := Int.mul_le_mul_of_nonneg_left hd.2 ht.1
    have b := Int.mul_le_mul_of_nonneg_left hd.1 ht.1
    omega
  refine ⟨?_, h1⟩
  unfold clock_Elapsed.f
  rw [if_neg (by omega), if_neg (by omega), if_neg (by omega), if_neg (by omega), w64 (x := t * d) (by omega) (by omega), down_eq _ _ (by omega) (by omega) (by omega)]
  simp only [Option.bind_some]
  rw [w64 (by omega) (by omega)]
theorem Macro_eq (t s : Int) (ht : -1099511627776 ≤ t ∧ t ≤ 1099511627776) (hs : 1 ≤ s ∧ s ≤ 1048576) : clock_Macro.f t s = some (t / s, t % s, 0) := by
  unfold clock_Macro.f
  rw [if_neg (by omega), if_neg (by omega), if_neg (by omega), if_neg (by omega), down_eq _ _ (by omega) (by omega) (by omega)]
  simp only [Option.bind_some]
  have e := Int.mul_ediv_add_emod t s
  have h1 := Int.emod_nonneg t (show s ≠ 0 by omega)
  have h2 := Int.emod_lt_of_pos t (show 0 < s by omega)
  have e2 : t / s * s = s * (t / s) := Int.mul_comm _ _
  rw [w64 (x := t / s * s) (by omega) (by omega), w64 (by omega) (by omega)]
  congr 2
  congr 1
  omega
/-! ### Middle -/
def mid (k : Nat) (l : List Int) : Int := ((srt l).getD k 0 + (srt l).getD (l.length - 1 - k) 0) / 2
theorem ends_cut (l : List Int) (k : Nat) (h : 2 * k < l.length) : lo (((srt l).take (l.length - k)).drop k) = (srt l).getD k 0 ∧ hi (((srt l).take (l.length - k)).drop k) = (srt l).getD (l.length - 1 - k) 0 := by
  have hlen : (((srt l).take (l.length - k)).drop k).length = l.length - k - k := by
    rw [List.length_drop, List.length_take, srt_length]
    omega
  have hg : ∀ i, i < l.length - k - k → (((srt l).take (l.length - k)).drop k)[i]? = some ((srt l).getD (k + i) 0) := by
    intro i hi
    rw [List.getElem?_drop, List.getElem?_take, if_pos (by omega), List.getD_eq_getElem?_getD, List.getElem?_eq_getElem (by rw [srt_length]; omega)]
    rfl
  have hm : ∀ x, x ∈ (((srt l).take (l.length - k)).drop k) ↔ ∃ i, i < l.length - k - k ∧ x = (srt l).getD (k + i) 0 := by
    intro x
    rw [List.mem_iff_getElem?]
    constructor
    · rintro ⟨i, hi⟩
      have hi' : i < l.length - k - k := by
        rw [← hlen]
        exact (List.getElem?_eq_some_iff.1 hi).1
      rw [hg i hi'] at hi
      exact ⟨i, hi', (Option.some.inj hi).symm⟩
    · rintro ⟨i, hi, rfl⟩
      exact ⟨i, hg i hi⟩
  have hne : (((srt l).take (l.length - k)).drop k) ≠ [] := by
    intro e
    rw [e] at hlen
    simp at hlen
    omega
  have hfirst : (srt l).getD k 0 ∈ (((srt l).take (l.length - k)).drop k) := (hm _).2 ⟨0, by omega, rfl⟩
  have hlast : (srt l).getD (l.length - 1 - k) 0 ∈ (((srt l).take (l.length - k)).drop k) := (hm _).2 ⟨l.length - 1 - k - k, by omega, by congr 1; omega⟩
  constructor
  · have a := lo_le hfirst
    obtain ⟨i, hi, e⟩ := (hm _).1 (lo_mem hne)
    have b := srt_mono (srt_is l) (i := k) (j := k + i) (by omega) (by omega)
    omega
  · have a := le_hi hlast
    obtain ⟨i, hi', e⟩ := (hm _).1 (hi_mem hne)
    have b := srt_mono (srt_is l) (i := k + i) (j := l.length - 1 - k) (by omega) (by omega)
    omega
theorem Middle_first (k : Nat) (l : List Int) (r : Int × Int) (hk : k ≤ 7) (hl : ∀ x ∈ l, -1073741824 ≤ x ∧ x ≤ 1073741824) (hn : l.length ≤ 64)
    (h : Ev (fun n => clock_Middle.j0 n (k : Int) l false) r) : Ev (fun n => clock_Middle.f n (k : Int) l) r := by
  unfold clock_Middle.f
  refine Ev.bind (f := fun n (bt113 : Int × Int) => (if (k : Int) < 0 then (clock_Middle.j0 n (k : Int) l (decide ((k : Int) < 0))) else (if (k : Int) > 7 then (clock_Middle.j0 n (k : Int) l (decide ((k : Int) > 7))) else (if bt113.1 < (-1073741824) then (clock_Middle.j0 n (k : Int) l (decide (bt113.1 < (-1073741824)))) else (clock_Middle.j0 n (k : Int) l (decide (bt113.2 > 1073741824))))))) (ends_ev l (by omega)) ?_
  have h1 : ¬ lo l < -1073741824 ∧ ¬ hi l > 1073741824 := by
    by_cases e : l = []
    · subst e
      simp [lo, hi]
    · have a := (hl _ (lo_mem e)).1
      have b := (hl _ (hi_mem e)).2
      omega
  refine Ev.congr (fun n => ?_) h
  rw [if_neg (by omega), if_neg (by omega), if_neg h1.1, decide_eq_false h1.2]
theorem Middle_short (k : Nat) (l : List Int) (hk : k ≤ 7) (hl : ∀ x ∈ l, -1073741824 ≤ x ∧ x ≤ 1073741824) (hn : l.length ≤ 2 * k) : Ev (fun n => clock_Middle.f n (k : Int) l) (0, 3) := by
  refine Middle_first k l _ hk hl (by omega) (Ev.step (f := fun _ => some (0, 3)) (fun n => ?_) (Ev.now _))
  simp only [clock_Middle.j0]
  rw [if_neg (by simp), if_neg (by omega), if_pos (by rw [w64 (by omega) (by omega)]; omega)]
theorem Middle_ev (k : Nat) (l : List Int) (hk : k ≤ 7) (hl : ∀ x ∈ l, -1073741824 ≤ x ∧ x ≤ 1073741824) (hn : l.length ≤ 64) (hlt : 2 * k < l.length) : Ev (fun n => clock_Middle.f n (k : Int) l) (mid k l, 0) := by
  refine Middle_first k l _ hk hl hn ?_
  have e0 : wrap64 (2 * (k : Int)) = 2 * (k : Int) := w64 (by omega) (by omega)
  have hsl := srt_length l
  have e1 : wrap64 (((srt l).length : Int) - (k : Int)) = ((l.length - k : Nat) : Int) := by rw [w64 (by omega) (by omega)]; omega
  obtain ⟨c1, c2⟩ := ends_cut l k hlt
  have b1 := hl _ (srt_mem (srt_is l) (k := k) (by omega))
  have b2 := hl _ (srt_mem (srt_is l) (k := l.length - 1 - k) (by omega))
  refine Ev.step (f := fun n => (clock_order_int.f n l).bind fun t115 => (if 0 ≤ (k : Int) then (if (k : Int) ≤ (wrap64 ((t115.length : Int) - (k : Int))) then (if (wrap64 ((t115.length : Int) - (k : Int))) ≤ (t115.length : Int) then ((clock_ends_int.f n ((t115.take ((wrap64 ((t115.length : Int) - (k : Int))) : Int).toNat).drop ((k : Int) : Int).toNat)).bind fun bt122 => ((clock_down.f (wrap64 (bt122.1 + bt122.2)) 2).bind fun t124 => (some (t124, 0)))) else (none)) else (none)) else (none))) (fun n => ?_) ?_
  · simp only [clock_Middle.j0]
    rw [if_neg (by simp), if_neg (by omega), if_neg (by rw [e0]; omega)]
  · refine Ev.bind (f := fun n (t115 : List Int) => (if 0 ≤ (k : Int) then (if (k : Int) ≤ (wrap64 ((t115.length : Int) - (k : Int))) then (if (wrap64 ((t115.length : Int) - (k : Int))) ≤ (t115.length : Int) then ((clock_ends_int.f n ((t115.take ((wrap64 ((t115.length : Int) - (k : Int))) : Int).toNat).drop ((k : Int) : Int).toNat)).bind fun bt122 => ((clock_down.f (wrap64 (bt122.1 + bt122.2)) 2).bind fun t124 => (some (t124, 0)))) else (none)) else (none)) else (none))) (order_ev l (by omega)) ?_
    refine Ev.congr (g := _) (f := fun n => (clock_ends_int.f n (((srt l).take (l.length - k)).drop k)).bind fun bt122 => ((clock_down.f (wrap64 (bt122.1 + bt122.2)) 2).bind fun t124 => (some (t124, 0)))) (fun n => ?_) ?_
    · rw [if_pos (by omega), e1, if_pos (by omega), if_pos (by omega), Int.toNat_natCast, Int.toNat_natCast]
    · refine Ev.bind (f := fun _ (bt122 : Int × Int) => ((clock_down.f (wrap64 (bt122.1 + bt122.2)) 2).bind fun t124 => (some (t124, 0)))) (ends_ev _ ?_) ?_
      · rw [List.length_drop, List.length_take, hsl]
        omega
      · refine Ev.congr (f := fun _ => some (mid k l, 0)) (fun n => ?_) (Ev.now _)
        rw [c1, c2, w64 (by omega) (by omega), down_eq _ _ (by omega) (by omega) (by omega)]
        rfl
theorem Spread_ev (l : List Int) (hn : l.length ≤ 9223372036854775806) : Ev (fun n => clock_Spread.f n l) (wrap64 (hi l - lo l)) := by
  unfold clock_Spread.f
  exact Ev.bind (f := fun _ (bt127 : Int × Int) => some (wrap64 (bt127.2 - bt127.1))) (ends_ev l hn) (Ev.now _)
theorem Correct_ev (o : Int) (k : Nat) (b : Int) (l : List Int) (hb : 0 ≤ b ∧ b ≤ 1000000) (hk : k ≤ 7) (hl : ∀ x ∈ l, -1073741824 ≤ x ∧ x ≤ 1073741824) (hn : l.length ≤ 64) (hlt : 2 * k < l.length) :
    Ev (fun n => clock_Correct.f n o (k : Int) b l) (wrap64 (o + (if b < (if mid k l < -b then -b else mid k l) then b else (if mid k l < -b then -b else mid k l)))) := by
  unfold clock_Correct.f
  refine Ev.bind (f := fun _ (bt125 : Int × Int) => (if bt125.2 = 0 then (if b < 0 then (some o) else (some (wrap64 (o + (mn (mx bt125.1 (wrap64 (-b))) b))))) else (some o))) (Middle_ev k l hk hl hn hlt) ?_
  refine Ev.congr (fun n => ?_) (Ev.now _)
  rw [if_pos rfl, if_neg (by omega), w64 (x := -b) (by omega) (by omega)]
  rfl
theorem Correct_short (o : Int) (k : Nat) (b : Int) (l : List Int) (hk : k ≤ 7) (hl : ∀ x ∈ l, -1073741824 ≤ x ∧ x ≤ 1073741824) (hn : l.length ≤ 2 * k) : Ev (fun n => clock_Correct.f n o (k : Int) b l) o := by
  unfold clock_Correct.f
  refine Ev.bind (f := fun _ (bt125 : Int × Int) => (if bt125.2 = 0 then (if b < 0 then (some o) else (some (wrap64 (o + (mn (mx bt125.1 (wrap64 (-b))) b))))) else (some o))) (Middle_short k l hk hl hn) ?_
  exact Ev.congr (fun n => by rw [if_neg (by decide)]) (Ev.now _)
theorem Correct_below (o : Int) (k : Nat) (b : Int) (l : List Int) (hb : b < 0) (hk : k ≤ 7) (hl : ∀ x ∈ l, -1073741824 ≤ x ∧ x ≤ 1073741824) (hn : l.length ≤ 64) : Ev (fun n => clock_Correct.f n o (k : Int) b l) o := by
  by_cases h : l.length ≤ 2 * k
  · exact Correct_short o k b l hk hl h
  · unfold clock_Correct.f
    refine Ev.bind (f := fun _ (bt125 : Int × Int) => (if bt125.2 = 0 then (if b < 0 then (some o) else (some (wrap64 (o + (mn (mx bt125.1 (wrap64 (-b))) b))))) else (some o))) (Middle_ev k l hk hl hn (by omega)) ?_
    exact Ev.congr (fun n => by rw [if_pos rfl, if_pos hb]) (Ev.now _)
/-! ### devs -/
def dv (below : Int) (c : Int) : Int := pk c (2 * below + 1) - below
def dvs (raw : List Int) (most : Nat) (below : Int) : List Int := (raw.take most).map (dv below)
theorem devs_l0 (raw : List Int) (most : Nat) (below : Int) (hr : ∀ x ∈ raw, (Lit.int .i64 x).wf = true) (hlen : raw.length * 8 ≤ 140737488351232) (hb : 0 ≤ below ∧ below ≤ 1073741824) (hm : most ≤ 1000000) :
    ∀ (d i : Nat) (acc : List Int), i + d = min raw.length most → acc = (raw.take i).map (dv below) → Ev (fun k => omnibuslaw10_devs.l0 k raw (most : Int) below acc (i : Int)) (dvs raw most below)
  | 0, i, acc, hd, ha => by
    have e : acc = dvs raw most below := by
      rw [ha, dvs]
      congr 1
      rw [List.take_eq_take_iff]
      omega
    refine Ev.step (f := fun _ => some (dvs raw most below)) (fun k => ?_) (Ev.now _)
    simp only [omnibuslaw10_devs.l0]
    by_cases h : (i : Int) < (raw.length : Int)
    · rw [if_pos h, if_neg (by omega), e]
    · rw [if_neg h, e]
  | d + 1, i, acc, hd, ha => by
    have hlt : i < raw.length := by omega
    have e : rd raw (i : Int) = raw[i] := by
      show raw.getD i 0 = _
      rw [List.getD_eq_getElem?_getD, List.getElem?_eq_getElem hlt]
      rfl
    have hw := wf_i64 (hr _ (List.getElem_mem hlt))
    have hp := pk_range raw[i] (2 * below + 1) (by omega)
    have hal : acc.length = i := by rw [ha, List.length_map, List.length_take]; omega
    refine Ev.step (f := fun k => omnibuslaw10_devs.l0 k raw (most : Int) below (acc ++ [dv below raw[i]]) ((i + 1 : Nat) : Int)) (fun k => ?_) (devs_l0 raw most below hr hlen hb hm d (i + 1) _ (by omega) ?_)
    · simp only [omnibuslaw10_devs.l0]
      rw [if_pos (by omega), if_pos (by omega), if_pos (by omega), e, w64 (x := 2 * below) (by omega) (by omega), w64 (x := 2 * below + 1) (by omega) (by omega), pick_eq _ _ hw (by omega)]
      simp only [Option.bind_some]
      rw [if_pos (by omega), w64 (x := (i : Int) + 1) (by omega) (by omega), w64 (by omega) (by omega)]
      rfl
    · rw [List.take_succ_eq_append_getElem hlt, List.map_append, ha]
      rfl
theorem devs_ev (raw : List Int) (most : Nat) (below : Int) (hr : ∀ x ∈ raw, (Lit.int .i64 x).wf = true) (hlen : raw.length * 8 ≤ 140737488351232) (hb : 0 ≤ below ∧ below ≤ 1073741824) (hm : most ≤ 1000000) :
    Ev (fun k => omnibuslaw10_devs.f k raw (most : Int) below) (dvs raw most below) := by
  unfold omnibuslaw10_devs.f
  exact devs_l0 raw most below hr hlen hb hm (min raw.length most) 0 [] (by omega) (by simp)
theorem dvs_range {raw : List Int} {most : Nat} {below : Int} (hb : 0 ≤ below) {x : Int} (h : x ∈ dvs raw most below) : -below ≤ x ∧ x ≤ below := by
  obtain ⟨c, _, rfl⟩ := List.mem_map.1 h
  have := pk_range c (2 * below + 1) (by omega)
  unfold dv
  omega
theorem dvs_length (raw : List Int) (most : Nat) (below : Int) : (dvs raw most below).length = min most raw.length := by
  rw [dvs, List.length_map, List.length_take]
theorem awake_ev : Ev (fun k => omnibuslaw10_awake.f k) true := Ev.of omnibuslaw10_awake.mono (k := 60) (by decide +kernel)
end Go.Proofs.Ytbcbkokpbobngaa
