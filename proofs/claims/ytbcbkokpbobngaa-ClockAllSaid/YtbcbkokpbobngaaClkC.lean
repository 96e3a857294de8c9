/- All devs so much more: what becomes of the middle, the least and the greatest one. Plain laws on lists. -/
import Derived.Test.YtbcbkokpbobngaaClkB
namespace Go.Proofs.Ytbcbkokpbobngaa
open Go.RowKit Go.Proofs.Ytbcbkokpbobngaa.PA Go.Proofs.YtbcbkokpbobngaaW.PrintWords Go.Proofs.YtbcbkokpbobngaaW.PrintLast Go.Proofs.YtbcbkokpbobngaaW.PrintMore
theorem mid_map_add (k : Nat) (l : List Int) (b : Int) (hlt : 2 * k < l.length) : mid k (l.map (· + b)) = mid k l + b := by
  have h1 := srt_map_add b (srt_is l) (srt_is (l.map (· + b))) (k := k) (by omega)
  have h2 := srt_map_add b (srt_is l) (srt_is (l.map (· + b))) (k := l.length - 1 - k) (by omega)
  unfold mid
  rw [List.length_map, h1, h2]
  omega
theorem mid_grown (k : Nat) (l g : List Int) (hlt : 2 * k < l.length) (hl : l.length = g.length) (hi : ∀ i, i < l.length → l.getD i 0 ≤ g.getD i 0) : mid k l ≤ mid k g := by
  have h1 := srt_grown (srt_is l) (srt_is g) hl hi (k := k) (by omega)
  have h2 := srt_grown (srt_is l) (srt_is g) hl hi (k := l.length - 1 - k) (by omega)
  unfold mid
  rw [← hl]
  omega
theorem lo_map_add (l : List Int) (b : Int) (h : l ≠ []) : lo (l.map (· + b)) = lo l + b := by
  have h' : l.map (· + b) ≠ [] := by simpa using h
  have a := lo_le (List.mem_map_of_mem (f := (· + b)) (lo_mem h))
  obtain ⟨x, hx, e⟩ := List.mem_map.1 (lo_mem h')
  have c := lo_le hx
  omega
theorem hi_map_add (l : List Int) (b : Int) (h : l ≠ []) : hi (l.map (· + b)) = hi l + b := by
  have h' : l.map (· + b) ≠ [] := by simpa using h
  have a := le_hi (List.mem_map_of_mem (f := (· + b)) (hi_mem h))
  obtain ⟨x, hx, e⟩ := List.mem_map.1 (hi_mem h')
  have c := le_hi hx
  omega
theorem rd_nat (xs : List Int) (i : Nat) (h : i < xs.length) : rd xs (i : Int) = xs[i] := by
  show xs.getD i 0 = _
  rw [List.getD_eq_getElem?_getD, List.getElem?_eq_getElem h]
  rfl
theorem mid_range (k : Nat) (l : List Int) (m : Int) (hl : ∀ x ∈ l, -m ≤ x ∧ x ≤ m) (hlt : 2 * k < l.length) : -m ≤ mid k l ∧ mid k l ≤ m := by
  have b1 := hl _ (srt_mem (srt_is l) (k := k) (by omega))
  have b2 := hl _ (srt_mem (srt_is l) (k := l.length - 1 - k) (by omega))
  unfold mid
  omega
end Go.Proofs.Ytbcbkokpbobngaa
