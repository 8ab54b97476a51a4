/-
  What SymDoes calls besides: Ref. For every state.
-/
import Derived.Test.YtbaliaodioflfaaSymRoom
namespace Go.Proofs.Ytbaliaodioflfaa
open Go.RowKit

set_option maxRecDepth 100000 in
set_option maxHeartbeats 4000000 in
theorem ref7_calls {W w : World} {Rs : List Res} (ck k h n : Int) (hd : Hd W w Rs) :
    Calls Try.prog 23 #[.agg #[.int .i64 ck, .int .i64 k, .int .i64 h, .int .u64 n]] w fun e w' => e = .returned (.agg #[.int .i64 ck, .int .i64 k, .int .i64 h, .int .u64 n]) ∧ Hd W w' Rs := by
  have H := hid hd
  clear hd
  go_enter Try.func23, Try.ntmps23
  go_wp2_with fail
  refine bodyPost_ret (v := .agg #[.int .i64 ck, .int .i64 k, .int .i64 h, .int .u64 n]) (by simp [results, Try.results23, go_sem]) rfl ⟨rfl, ?_⟩
  exact H.out.al.al
end Go.Proofs.Ytbaliaodioflfaa
