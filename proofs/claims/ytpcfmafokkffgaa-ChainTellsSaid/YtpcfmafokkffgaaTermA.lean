/-
  Walks through package term: Parts, Len, New. For every argument and every memory that holds what the hypotheses say.
-/
import Derived.Test.YtpcfmafokkffgaaPure
import Derived.Test.YtpcfmafokkffgaaHeap
import Derived.BigQuiet
import Derived.Deep.QuietTactic
import Derived.WalkLawsBesides
namespace Go.Proofs.Ytpcfmafokkffgaa
open Go.RowKit

def ints (xs : List Int) : List Value := xs.map (Value.int .i64)

/-- New ints, in a block of their own; or none. -/
structure IntsNew (w w' : World) (a : Option Addr) (xs : List Int) : Prop where
  below : Below w.heap.size w w'
  lies : (xs = [] ∧ a = none) ∨ ∃ b, a = some ⟨b, 0, none⟩ ∧ w.heap.size ≤ b ∧ w'.heap[b]? = some (.cells (ints xs).toArray 3 (0, 0))

theorem ret_slice {a : Option Addr} {n m : Nat} (h : n = m) : Ending.returned (.slice a n n) = .returned (.slice a m m) := by rw [h]

set_option maxHeartbeats 1000000 in
theorem parts_calls (k : Int) (s : ByteArray) (n a b c : Int) (w : World) :
    Calls Try.prog 58 #[.agg #[.int .i64 k, .string s, .int .u64 n, .int .i64 a, .int .i64 b, .int .i64 c]] w fun e w' =>
      ∃ ad, e = .returned (.slice ad (many k) (many k)) ∧ IntsNew w w' ad (T.parts ⟨k, s, n, a, b, c⟩) := by
  go_enter Try.func58, Try.ntmps58
  go_wp2
  all_goals go_ret
  all_goals simp only [beq_iff_eq, beq_eq_false_iff_ne, ne_eq] at *
  all_goals
    first
      | (refine ⟨some ⟨w.heap.size + 1, 0, none⟩, ret_slice (by simp [many, *]), ((Below.refl _ _).alloc (Nat.le_refl _) _).alloc (by simp) _, .inr ⟨w.heap.size + 1, rfl, by omega, cells_at (heap_at (by simp)) ?_⟩⟩; simp [T.parts, many, ints, *]; done)
      | (refine ⟨none, ret_slice (by simp [many, *]), (Below.refl _ _).alloc (Nat.le_refl _) _, .inl ⟨?_, rfl⟩⟩; simp [T.parts, many, *]; done)
end Go.Proofs.Ytpcfmafokkffgaa
