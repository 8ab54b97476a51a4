/-
  A written list of numbers, as the laws of layer 8 read it. For every list.
-/
import Derived.Test.YtbaliaodioflfaaKnowL
namespace Go.Proofs.Ytbaliaodioflfaa
open Go.RowKit

theorem intsAt_lit {w : World} (k : Int) (ks : List Int) {cells : Array Value} (hcl : cells = (ints (k :: ks)).toArray) : IntsAt (w.alloc (.cells cells 3 (0, 0))) (some ⟨w.heap.size, 0, none⟩) (k :: ks) := by
  refine .inr ⟨_, _, rfl, fun j hj => ?_⟩
  subst hcl
  rw [Nat.zero_add, cell_of_heap (heap_at rfl), List.getElem?_toArray]
  rw [show ints (k :: ks) = (k :: ks).map (Value.int .i64) from rfl, List.getElem?_map, List.getD_eq_getElem?_getD, List.getElem?_eq_getElem hj]
  rfl
theorem below_alloc {w : World} (o : Obj) : Below w.heap.size w (w.alloc o) := (Below.refl _ _).alloc (Nat.le_refl _) _
end Go.Proofs.Ytbaliaodioflfaa
