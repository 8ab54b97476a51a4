/-
  Insert of one entry. For every row and every place.
-/
import Derived.Test.YtbaliaodioflfaaSkipG
namespace Go.Proofs.Ytbaliaodioflfaa
open Go.RowKit

theorem insert_calls {W w : World} {n x i : Nat} {v : Value} {es : List En} {e : En} {Rs : List Res} (hn : n = es.length) (hi : i ≤ n) (hsm : n ≤ 1000) (h : Hd W w (RowR 91 4 v n (ensC es) :: Blk x (.cells e.cells.toArray 91 (0, 0)) :: Rs)) :
    Calls Try.prog 90 #[v, .int .i64 i, .slice (some ⟨x, 0, none⟩) 1 1] w fun e' w' => ∃ g' cap', e' = .returned (.slice (some ⟨g', 0, none⟩) (n + 1) cap') ∧
      Hd W w' (RowR 91 4 (.slice (some ⟨g', 0, none⟩) (n + 1) cap') (n + 1) (ensC (es.take i ++ e :: es.drop i)) :: Rs) := by
  by_cases hin : i = n
  · subst hin
    refine (ins_end hn hsm h).mono ?_
    rintro e' w' ⟨g', cap', rfl, hd⟩
    refine ⟨g', cap', rfl, ?_⟩
    rw [hn, List.take_length, List.drop_length, ← hn]
    exact hd.un2
  · obtain ⟨hl, ⟨_, h0⟩ | ⟨g, cap, cur, rfl, _, hc, h3, h4, h5, h6⟩⟩ := h.owns
    · omega
    · by_cases hr : n + 1 ≤ cap
      · refine (ins_shift hn (by omega) hr hsm h).mono ?_
        rintro e' w' ⟨rfl, hd⟩
        exact ⟨g, cap, rfl, hd.un2⟩
      · refine (ins_grow hn (by omega) (by omega) hsm h).mono ?_
        rintro e' w' ⟨g', cap', rfl, hd⟩
        exact ⟨g', cap', rfl, hd.un2.un2⟩
end Go.Proofs.Ytbaliaodioflfaa
