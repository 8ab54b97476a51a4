/-
  Walks through the document's package of layer 2: Many. For every argument.
-/
import Derived.Test.YtpcfmafokkffgaaLawA
namespace Go.Proofs.Ytpcfmafokkffgaa
open Go.RowKit

set_option maxHeartbeats 1000000 in
theorem many_lit (k : Int) (w : World) (h : k = 3 ∨ k = 5 ∨ k = 9 ∨ k = 4 ∨ k = 6 ∨ k = 7 ∨ k = 8 ∨ k = 11 ∨ k = 10) :
    Calls Try.prog 97 #[.int .i64 k] w fun e w' => e = .returned (.int .i64 (many k)) ∧ w = w' := by
  rcases h with rfl | rfl | rfl | rfl | rfl | rfl | rfl | rfl | rfl
  all_goals
    go_enter Try.func97, Try.ntmps97
    go_wp2
    go_ret
    exact ⟨rfl, rfl⟩

set_option maxHeartbeats 1000000 in
theorem many_other (k : Int) (w : World) (h3 : (k == 3) = false) (h5 : (k == 5) = false) (h9 : (k == 9) = false) (h4 : (k == 4) = false) (h6 : (k == 6) = false) (h7 : (k == 7) = false) (h8 : (k == 8) = false) (h11 : (k == 11) = false) (h10 : (k == 10) = false) :
    Calls Try.prog 97 #[.int .i64 k] w fun e w' => e = .returned (.int .i64 0) ∧ w = w' := by
  go_enter Try.func97, Try.ntmps97
  go_wp2
  go_ret
  exact ⟨rfl, rfl⟩

theorem many_calls (k : Int) (w : World) :
    Calls Try.prog 97 #[.int .i64 k] w fun e w' => e = .returned (.int .i64 (many k)) ∧ w = w' := by
  by_cases h : k = 3 ∨ k = 5 ∨ k = 9 ∨ k = 4 ∨ k = 6 ∨ k = 7 ∨ k = 8 ∨ k = 11 ∨ k = 10
  · exact many_lit k w h
  · simp only [not_or] at h
    obtain ⟨h3, h5, h9, h4, h6, h7, h8, h11, h10⟩ := h
    have e : many k = 0 := by simp [many, *]
    rw [e]
    exact many_other k w (by simpa using h3) (by simpa using h5) (by simpa using h9) (by simpa using h4) (by simpa using h6) (by simpa using h7) (by simpa using h8) (by simpa using h11) (by simpa using h10)
end Go.Proofs.Ytpcfmafokkffgaa
