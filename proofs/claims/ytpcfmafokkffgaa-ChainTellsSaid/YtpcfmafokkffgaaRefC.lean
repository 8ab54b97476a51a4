/-
  Walks through what the statements share of the document's layer 2: Ref, Parts, Get. For every term and every memory that holds a store.
-/
import Derived.Test.YtpcfmafokkffgaaRPutB
import Derived.Test.YtpcfmafokkffgaaPureB
namespace Go.Proofs.Ytpcfmafokkffgaa
open Go.RowKit

set_option maxHeartbeats 1000000 in
theorem ref_calls (k : Int) (s : ByteArray) (n a b c : Int) (w : World) :
    Calls Try.prog 53 #[.agg #[.int .i64 k, .string s, .int .u64 n, .int .i64 a, .int .i64 b, .int .i64 c]] w fun e w' =>
      e = .returned (T.val ⟨k, s, n, a, b, c⟩) ∧ Below w.heap.size w w' := by
  go_enter Try.func53, Try.ntmps53
  go_wp2
  refine bodyPost_ret (v := T.val ⟨k, s, n, a, b, c⟩) (by simp [results, Try.results53, go_sem, T.val]) rfl ⟨rfl, ?_⟩
  exact ((Below.refl _ _).alloc (Nat.le_refl _) _).alloc (by simp) _





end Go.Proofs.Ytpcfmafokkffgaa
