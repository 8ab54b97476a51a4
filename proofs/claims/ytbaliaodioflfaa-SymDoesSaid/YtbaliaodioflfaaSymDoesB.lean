/-
  What SymDoes needs besides: the number of a state stays one; the document's states compared.
-/
import Derived.Test.YtbaliaodioflfaaSymNames
import Derived.Test.YtbaliaodioflfaaRSymB
namespace Go.Proofs.Ytbaliaodioflfaa
open Go.RowKit

/-- The number of a state fits. -/
def Sy.fits (y : Sy) : Prop := 0 ≤ y.n ∧ y.n ≤ 18446744073709551615
theorem sBegin_fits (m : Int) (L : List T) (s : ByteArray) : (sBegin m L s).1.fits := by unfold sBegin; split <;> simp [Sy.fits, Sy.zero]
theorem sHash_fits (m : Int) (L : List T) {y : Sy} (x : Int) (h : y.fits) : (sHash m L y x).1.fits := by
  unfold sHash; split
  · exact h
  · simp [Sy.fits, Sy.zero]
theorem sMix_fits (m : Int) (L : List T) (y : Sy) (x : Int) : (sMix m L y x).1.fits := by unfold sMix; split <;> simp [Sy.fits, Sy.zero]
theorem sSaid_fits (m : Int) (L : List T) {y : Sy} (x p : Int) (h : y.fits) (hr : y.ready = true) : (sSaid m L y x p).1.fits := by
  have hn : y.n ≠ 18446744073709551615 := by
    intro e
    simp [Sy.ready, e] at hr
  obtain ⟨h0, h1⟩ := h
  unfold sSaid; split
  · show 0 ≤ y.n + 1 ∧ y.n + 1 ≤ 18446744073709551615
    omega
  · simp [Sy.fits, Sy.zero]
theorem sSeal_fits (m : Int) (L : List T) {y : Sy} (x : Int) (h : y.fits) : (sSeal m L y x).1.fits := by
  unfold sSeal; split
  · split
    · exact sSaid_fits _ _ _ _ h (by assumption)
    · simp [Sy.fits, Sy.zero]
  · simp [Sy.fits, Sy.zero]
theorem sOpen_fits (m : Int) (L : List T) {y : Sy} (x : Int) (h : y.fits) : (sOpen m L y x).1.fits := by
  unfold sOpen; split
  · split
    · exact sSaid_fits _ _ _ _ h (by assumption)
    · simp [Sy.fits, Sy.zero]
  · simp [Sy.fits, Sy.zero]

theorem neq_RSy (x y : Sy) (w : World) : (binOp .neq 31 (.agg #[.int .i64 x.ck, .int .i64 x.k, .int .i64 x.h, .int .u64 x.n]) (.agg #[.int .i64 y.ck, .int .i64 y.k, .int .i64 y.h, .int .u64 y.n])).run Try.prog w = .ok (.bool (!decide (x = y))) w := by
  obtain ⟨a, b, c, d⟩ := x
  obtain ⟨a', b', c', d'⟩ := y
  have e : (Op.equalIn 10000 31 (.agg #[.int .i64 a, .int .i64 b, .int .i64 c, .int .u64 d]) (.agg #[.int .i64 a', .int .i64 b', .int .i64 c', .int .u64 d'])).run Try.prog w = .ok (decide ((⟨a, b, c, d⟩ : Sy) = ⟨a', b', c', d'⟩)) w := by
    go_simp
    by_cases h1 : a = a' <;> by_cases h2 : b = b' <;> by_cases h3 : c = c' <;> by_cases h4 : d = d' <;> simp [h1, h2, h3, h4]
  rw [run_neq_struct, e]
  rfl
end Go.Proofs.Ytbaliaodioflfaa
