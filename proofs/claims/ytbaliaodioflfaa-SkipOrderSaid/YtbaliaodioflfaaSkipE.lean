/-
  Copies of entries into a row of the call's own. For every row.
-/
import Derived.Test.YtbaliaodioflfaaSkipD
import Derived.Laws.CopyRow
namespace Go.Proofs.Ytbaliaodioflfaa
open Go.RowKit

section
variable {W w : World} {E g n cap size : Nat} {xs : List Value} {Rs : List Res}
theorem Hd.row_heapS (h : Hd W w (RowR E size (.slice (some ⟨g, 0, none⟩) n cap) n xs :: Rs)) : ∃ cur, w.heap[g]? = some (.cells cur E (0, 0)) ∧ cur.size = cap * size ∧ n ≤ cap ∧ cap ≤ maxLen ∧ cur.toList.take (n * size) = xs := by
  obtain ⟨hl, ⟨h1, _⟩ | ⟨g2, c2, cur, hv, _, hc, h3, h4, h5, h6⟩⟩ := h.owns
  · cases h1
  simp only [Value.slice.injEq, Option.some.injEq, Addr.mk.injEq, and_true, true_and] at hv
  obtain ⟨rfl, rfl⟩ := hv
  exact ⟨cur, hc, h5, h3, h4, h6⟩

/-- The row written anew, in place. -/
theorem Hd.row_setRow {cur cur' : Array Value} {m : Nat} {ys : List Value} (hg : w.heap[g]? = some (.cells cur E (0, 0))) (hs : cur'.size = cur.size) (hm : m ≤ cap) (hy : cur'.toList.take (m * size) = ys) (hyl : ys.length = m * size) (h : Hd W w (RowR E size (.slice (some ⟨g, 0, none⟩) n cap) n xs :: Rs)) : Hd W (w.setRow g cur') (RowR E size (.slice (some ⟨g, 0, none⟩) m cap) m ys :: Rs) := by
  obtain ⟨cur2, hb, c1, c2, c4, c3⟩ := h.row_heapS
  rw [hg] at hb
  cases hb
  obtain ⟨f, hR, hf, hlt, hshut⟩ := h.open
  obtain ⟨hl, ⟨h1, _⟩ | ⟨g2, k2, cur2, hv, r1, r2, r3, r4, rfl⟩⟩ := hR
  · cases h1
  simp only [Value.slice.injEq, Option.some.injEq, Addr.mk.injEq, and_true, true_and] at hv
  obtain ⟨rfl, rfl⟩ := hv
  refine hshut _ _ (fun i => if i = g then some (.cells cur' E (0, 0)) else none) ⟨hyl, .inr ⟨g, cap, cur', rfl, hm, c4, by rw [hs, c1], hy, rfl⟩⟩ (fun i o hi => ?_) (fun i hi => ?_) rfl rfl rfl (by simp) (fun i hi hi2 => ?_)
  · dsimp only at hi
    split at hi
    · rename_i e; subst e
      rw [setRow_heap w i cur cur' E (0, 0) hg]; exact hi
    · cases hi
  · split at hi
    · rename_i e; subst e; exact .inl (by simp)
    · exact absurd rfl hi
  · refine setRow_other w g i cur' fun e => ?_
    subst e
    simp at hi2
end

/-- COPY, of entries. -/
theorem run_copy4 (w : World) (ty : TypeId) (g o dLen dCap : Nat) (a : Addr) (sLen sCap : Nat) (cur : Array Value) (cs : List Value)
    (hg : w.heap[g]? = some (.cells cur 91 (0, 0))) (hn : cs.length = Nat.min sLen dLen * 4)
    (hsrc : ∀ j v, cs[j]? = some v → w.cell? (a.add j) = some v) (hfit : o + cs.length ≤ cur.size) (h1 : ∀ v ∈ cs, v.oneCell' = true) :
    (Builtin.copy_ #[83, 83] ty #[.slice (some ⟨g, o, none⟩) dLen dCap, .slice (some a) sLen sCap]).run Try.prog w =
      .ok (goInt (Nat.min sLen dLen)) (w.setRow g (cur.toList.take o ++ cs ++ cur.toList.drop (o + cs.length)).toArray) := by
  have hl := run_loadCells_list (P := Try.prog) w a cs hsrc
  have hst := run_storeCells_at Try.prog g o 91 cs 0 cur w hg (by simpa using hfit) h1
  obtain ⟨i, hi, hz, hsz, hby⟩ := info_E
  rw [hn] at hl
  simp [Builtin.copy_, run_underlying Try.underlying83, Builtin.lenOf, Builtin.firstCells, sizeOf, typeInfo, hi, hsz, hl, hst]
end Go.Proofs.Ytbaliaodioflfaa
