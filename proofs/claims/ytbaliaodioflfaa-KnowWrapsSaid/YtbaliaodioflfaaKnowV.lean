/-
  A store into a row of the call's own. For every row of numbers.
-/
import Derived.Test.YtbaliaodioflfaaOwn
namespace Go.Proofs.Ytbaliaodioflfaa
open Go.RowKit

section
variable {W w : World} {E g n cap : Nat} {xs : List Value} {Rs : List Res}
theorem Hd.row_heap (h : Hd W w (RowR E 1 (.slice (some ⟨g, 0, none⟩) n cap) n xs :: Rs)) : ∃ cur, w.heap[g]? = some (.cells cur E (0, 0)) ∧ cur.size = cap ∧ n ≤ cap ∧ cur.toList.take n = xs := by
  obtain ⟨hl, ⟨h1, _⟩ | ⟨g2, c2, cur, hv, _, hc, h3, h4, h5, h6⟩⟩ := h.owns
  · cases h1
  simp only [Value.slice.injEq, Option.some.injEq, Addr.mk.injEq, and_true, true_and] at hv
  obtain ⟨rfl, rfl⟩ := hv
  rw [Nat.mul_one] at h5 h6
  exact ⟨cur, hc, h5, h3, h6⟩
theorem Hd.row_set (j : Nat) (v : Value) (h : Hd W w (RowR E 1 (.slice (some ⟨g, 0, none⟩) n cap) n xs :: Rs)) : Hd W (w.setCell ⟨g, j, none⟩ v) (RowR E 1 (.slice (some ⟨g, 0, none⟩) n cap) n (xs.set j v) :: Rs) := by
  obtain ⟨cur, hb, c1, c2, c3⟩ := h.row_heap
  obtain ⟨f, hR, hf, hlt, hshut⟩ := h.open
  obtain ⟨hl, ⟨h1, _⟩ | ⟨g2, k2, cur2, hv, r1, r2, r3, r4, rfl⟩⟩ := hR
  · cases h1
  simp only [Value.slice.injEq, Option.some.injEq, Addr.mk.injEq, and_true, true_and] at hv
  obtain ⟨rfl, rfl⟩ := hv
  refine hshut _ _ (fun i => if i = g then some (.cells (cur.setIfInBounds j v) E (0, 0)) else none) ⟨by simpa using hl, .inr ⟨g, cap, cur.setIfInBounds j v, rfl, r1, r2, by simpa using c1, by rw [Nat.mul_one, Array.toList_setIfInBounds, List.take_set, c3], rfl⟩⟩ (fun i o hi => ?_) (fun i hi => ?_) rfl rfl rfl (by simp) (fun i hi hi2 => ?_)
  · dsimp only at hi
    split at hi
    · rename_i e; subst e
      rw [heap_setCell_same _ _ _ _ _ _ hb]; exact hi
    · cases hi
  · split at hi
    · rename_i e; subst e; exact .inl (by simp)
    · exact absurd rfl hi
  · refine heap_setCell_other _ _ _ _ fun e => ?_
    have : i = g := e
    subst this
    simp at hi2
theorem nums_end {k : IntKind} (ks : List Int) (x a : Int) {n : Nat} (h : n + 1 = (ks ++ [x]).length) : (nums k (ks ++ [x])).set n (.int k a) = nums k (ks ++ [a]) := by
  have : n = (ks.map (Value.int k)).length := by simpa using h
  subst this
  simp [nums]
end
end Go.Proofs.Ytbaliaodioflfaa
