/-
  Insert of one entry, where there is no room. For every row.
-/
import Derived.Test.YtbaliaodioflfaaSkipF
import Derived.Shelf.Spec.SlicesInsertGrow
namespace Go.Proofs.Ytbaliaodioflfaa
open Go.RowKit Go.Lib

theorem grow_row {row A : List Value} {es : List En} {e : En} {i n : Nat} (hn : n = es.length) (hi : i ≤ n) (hA : A.length = i * 4) (hx : row.take (i * 4) = A) :
    ((row.take (i * 4) ++ e.cells ++ row.drop ((i + 1) * 4)).take ((i + 1) * 4) ++ ensC (es.drop i) ++ (row.take (i * 4) ++ e.cells ++ row.drop ((i + 1) * 4)).drop ((n + 1) * 4)).take ((n + 1) * 4) = A ++ (e.cells ++ ensC (es.drop i)) := by
  have l2 : (ensC (es.drop i)).length = (n - i) * 4 := by rw [ensC_length, List.length_drop, hn]
  have l3 : e.cells.length = 4 := rfl
  rw [hx]
  have e1 : (A ++ e.cells ++ row.drop ((i + 1) * 4)).take ((i + 1) * 4) = A ++ e.cells := List.take_left' (by rw [List.length_append, hA, l3]; omega)
  rw [e1, List.append_assoc A, List.take_left' (by rw [List.length_append, List.length_append, hA, l2, l3]; omega)]

section
variable {W w : World} {g cap n x : Nat} {es : List En} {e : En} {Rs : List Res}
theorem Hd.row_cells {E size : Nat} {cs : Array Value} (hs : cs.size = cap * size) (hn : n ≤ cap) (hm : cap ≤ maxLen) (h : Hd W w Rs) : Hd W (w.alloc (.cells cs E (0, 0))) (RowR E size (.slice (some ⟨w.heap.size, 0, none⟩) n cap) n (cs.toList.take (n * size)) :: Rs) := by
  refine h.add ((Below.refl _ _).alloc (Nat.le_refl _) _) (fun j => if j = w.heap.size then some (.cells cs E (0, 0)) else none) ⟨by rw [List.length_take, Array.length_toList, hs]; exact Nat.min_eq_left (Nat.mul_le_mul_right _ hn), .inr ⟨w.heap.size, cap, cs, rfl, hn, hm, hs, rfl, rfl⟩⟩ (fun k o hk => ?_) (fun k hk => ?_)
  · dsimp only at hk
    split at hk
    · rename_i e1; subst e1; rw [heap_at rfl]; exact hk
    · cases hk
  · split at hk
    · omega
    · exact absurd rfl hk

set_option maxRecDepth 100000 in
set_option maxHeartbeats 8000000 in
theorem ins_grow {i : Nat} (hn : n = es.length) (hi : i < n) (hroom : cap < n + 1) (hsm : n ≤ 1000) (h : Hd W w (RowR 91 4 (.slice (some ⟨g, 0, none⟩) n cap) n (ensC es) :: Blk x (.cells e.cells.toArray 91 (0, 0)) :: Rs)) :
    Calls Try.prog 90 #[.slice (some ⟨g, 0, none⟩) n cap, .int .i64 i, .slice (some ⟨x, 0, none⟩) 1 1] w fun e' w' => ∃ g' cap', e' = .returned (.slice (some ⟨g', 0, none⟩) (n + 1) cap') ∧
      Hd W w' (RowR 91 4 (.slice (some ⟨g', 0, none⟩) (n + 1) cap') (n + 1) (ensC (es.take i ++ e :: es.drop i)) :: RowR 91 4 (.slice (some ⟨g, 0, none⟩) n cap) n (ensC es) :: Blk x (.cells e.cells.toArray 91 (0, 0)) :: Rs) := by
  obtain ⟨cur, hg, hcs, hnc, hcm, hct⟩ := h.row_heapS
  have hb := h.swap.blk
  have hgw := (Array.getElem?_eq_some_iff.1 hg).1
  have hxw := (Array.getElem?_eq_some_iff.1 hb).1
  obtain ⟨i0, hi0, hz0, hzs, hzb⟩ := info_E
  have lA : (ensC (es.take i)).length = i * 4 := by rw [ensC_length, List.length_take]; omega
  have ld : (ensC (es.drop i)).length = (n - i) * 4 := by rw [ensC_length, List.length_drop, hn]
  have hkk : (n : Int) + 1 - (i : Int) = ((n + 1 - i : Nat) : Int) := by omega
  have hik : i + (n + 1 - i) = n + 1 := by omega
  have hold : (Builtin.firstCells i0.size i (.slice (some ⟨g, 0, none⟩) i cap)).run Try.prog w.drew = .ok (ensC (es.take i)).toArray w.drew := by
    rw [hzs]
    exact run_firstCells_some w.drew 4 i ⟨g, 0, none⟩ i cap (ensC (es.take i)) lA (fun j v hj => by
      rw [show ((⟨g, 0, none⟩ : Addr).add j) = ⟨g, j, none⟩ by simp [Addr.add_lit]]
      show w.drew.cell? _ = some v
      rw [cell_of_heap (w := w.drew) hg, ← Array.getElem?_toList]
      refine get_of_take hct ?_
      rw [← ensC_take, List.getElem?_take] at hj
      split at hj
      · exact hj
      · cases hj)
  have hrz : ∀ ty, (Builtin.append_ #[83, 3] ty #[.slice (some ⟨g, 0, none⟩) i cap, .int .i64 ((n : Int) + 1 - (i : Int))]).run Try.prog w =
      .ok (.slice (some ⟨w.heap.size, 0, none⟩) (n + 1) (grownCap w (n + 1) cap 91)) (w.drew.alloc (.cells ((ensC (es.take i)).toArray ++ Builtin.zeroCells (enV En.zero).cells (n + 1 - i) ++ Builtin.zeroCells (enV En.zero).cells (grownCap w (n + 1) cap 91 - (n + 1))) 91)) := fun ty => by
    have h := Lib.run_append_grow_zeros w 83 3 ty 91 i0 _ .i64 .i64 Try.underlying83 Try.underlying3 hi0 hz0 (some ⟨g, 0, none⟩) i cap (ensC (es.take i)) hold (n + 1 - i) (by omega) (by omega) (by omega) (by omega) (by rw [hzb]; omega) (by rw [hzb, hik]; exact growslice_fits hroom (by omega))
    rw [hik] at h
    rw [hkk]
    exact h
  have hGn : n + 1 ≤ grownCap w (n + 1) cap 91 := grownCap_ge w _ _ _
  have hGm := grownCap_le_maxLen w (n + 1) cap 91 (by unfold maxLen; omega)
  obtain ⟨G, hG⟩ : ∃ G, G = grownCap w (n + 1) cap 91 := ⟨_, rfl⟩
  rw [← hG] at hrz hGn hGm
  obtain ⟨ROW, hROW⟩ : ∃ ROW : Array Value, ROW = (ensC (es.take i)).toArray ++ Builtin.zeroCells (enV En.zero).cells (n + 1 - i) ++ Builtin.zeroCells (enV En.zero).cells (G - (n + 1)) := ⟨_, rfl⟩
  rw [← hROW] at hrz
  have hRs : ROW.size = G * 4 := by
    rw [hROW]
    simp [Builtin.zeroCells, Value.cells, enV, lA]
    omega
  have hRt : ROW.toList.take (i * 4) = ensC (es.take i) := by
    rw [hROW]
    simp only [Array.toList_append, List.append_assoc]
    exact List.take_left' lA
  have le4 : e.cells.length = 4 := rfl
  have hRl : ROW.toList.length = G * 4 := by simpa using hRs
  obtain ⟨N, hN⟩ : ∃ N, w.heap.size = N := ⟨_, rfl⟩
  obtain ⟨ROW1, hROW1⟩ : ∃ c, (ROW.toList.take (i * 4) ++ e.cells ++ ROW.toList.drop (i * 4 + e.cells.length)).toArray = c := ⟨_, rfl⟩
  obtain ⟨ROW2, hROW2⟩ : ∃ c, (ROW1.toList.take ((i + 1) * 4) ++ ensC (es.drop i) ++ ROW1.toList.drop ((i + 1) * 4 + (ensC (es.drop i)).length)).toArray = c := ⟨_, rfl⟩
  have hs1 : ROW1.size = ROW.size := by
    rw [← hROW1]
    simp only [List.size_toArray, List.length_append, List.length_take, List.length_drop, le4, hRl, hRs]
    omega
  have hs2 : ROW2.size = ROW1.size := by
    rw [← hROW2]
    simp only [List.size_toArray, List.length_append, List.length_take, List.length_drop, ld, Array.length_toList, hs1, hRs]
    omega
  have hcpA : ∀ (X : World), X.heap = (w.alloc (.cells ROW 91 (0, 0))).heap → ∀ ty q dl dc sc, q = i * 4 → dl = n + 1 - i → (Builtin.copy_ #[83, 83] ty #[.slice (some ⟨w.heap.size, q, none⟩) dl dc, .slice (some ⟨x, 0, none⟩) 1 sc]).run Try.prog X = .ok (goInt 1) (X.setRow w.heap.size ROW1) := fun X hX ty q dl dc sc e1 e2 => by
    subst e1; subst e2
    have hgX : X.heap[w.heap.size]? = some (.cells ROW 91 (0, 0)) := by rw [hX]; exact heap_at rfl
    have hbX : X.heap[x]? = some (.cells e.cells.toArray 91 (0, 0)) := by rw [hX]; exact (((Below.refl w.heap.size w).alloc (Nat.le_refl _) _).block x hxw).trans hb
    have := run_copy4 X ty w.heap.size (i * 4) (n + 1 - i) dc ⟨x, 0, none⟩ 1 sc ROW e.cells hgX (by rw [show Nat.min 1 (n + 1 - i) = 1 by simp only [Nat.min_def]; split <;> omega]; rfl)
      (fun j v hj => by
        rw [show ((⟨x, 0, none⟩ : Addr).add j) = ⟨x, j, none⟩ by simp [Addr.add_lit], cell_of_heap hbX, List.getElem?_toArray]
        exact hj) (by rw [hRs, le4]; omega) (fun v hv => ensC_one (es := [e]) v (by simpa [ensC] using hv))
    rw [hROW1, show Nat.min 1 (n + 1 - i) = 1 by simp only [Nat.min_def]; split <;> omega] at this
    exact this
  have hcpB : ∀ (X : World), X.heap = ((w.alloc (.cells ROW 91 (0, 0))).setRow w.heap.size ROW1).heap → ∀ ty p q dl dc sl sc, p = (i + 1) * 4 → q = i * 4 → dl = n - i → sl = n - i → (Builtin.copy_ #[83, 83] ty #[.slice (some ⟨w.heap.size, p, none⟩) dl dc, .slice (some ⟨g, q, none⟩) sl sc]).run Try.prog X = .ok (goInt ((n - i : Nat) : Int)) (X.setRow w.heap.size ROW2) := fun X hX ty p q dl dc sl sc e1 e2 e3 e4 => by
    subst e1; subst e2; subst e3; subst e4
    have hgX : X.heap[w.heap.size]? = some (.cells ROW1 91 (0, 0)) := by rw [hX]; exact setRow_heap _ _ ROW _ _ (0, 0) (heap_at rfl)
    have hgg : X.heap[g]? = some (.cells cur 91 (0, 0)) := by
      rw [hX, setRow_other _ _ g _ (by omega)]
      exact (((Below.refl w.heap.size w).alloc (Nat.le_refl _) _).block g hgw).trans hg
    have := run_copy4 X ty w.heap.size ((i + 1) * 4) (n - i) dc ⟨g, i * 4, none⟩ (n - i) sc ROW1 (ensC (es.drop i)) hgX (by rw [ld]; simp)
      (fun j v hj => by
        rw [show ((⟨g, i * 4, none⟩ : Addr).add j) = ⟨g, i * 4 + j, none⟩ by simp [Addr.add_lit], cell_of_heap hgg, ← Array.getElem?_toList]
        refine get_of_take hct ?_
        rwa [← ensC_drop, List.getElem?_drop] at hj) (by rw [hs1, hRs, ld]; omega) ensC_one
    rw [hROW2] at this
    simpa using this
  have hfin := grow_row (e := e) (row := ROW.toList) hn (Nat.le_of_lt hi) lA hRt
  have HF : Hid (Hd W ((((w.alloc (.cells ROW 91 (0, 0))).drew.setRow w.heap.size ROW1).drew).setRow w.heap.size ROW2) (RowR 91 4 (.slice (some ⟨w.heap.size, 0, none⟩) (n + 1) G) (n + 1) (ensC (es.take i ++ e :: es.drop i)) :: RowR 91 4 (.slice (some ⟨g, 0, none⟩) n cap) n (ensC es) :: Blk x (.cells e.cells.toArray 91 (0, 0)) :: Rs)) := hid (by
    have h0 := (h.row_cells (E := 91) hRs hGn hGm).dr
    have h1 := Hd.row_setRow (m := n + 1) (cur' := ROW1) (ys := ROW1.toList.take ((n + 1) * 4)) (show _ = some (.cells ROW 91 (0, 0)) from heap_at (w := w) rfl) hs1 hGn rfl (by rw [List.length_take, Array.length_toList, hs1, hRs]; omega) h0
    refine Hd.row_setRow (m := n + 1) (cur := ROW1) (cur' := ROW2) ?_ hs2 hGn ?_ ?_ h1.dr
    · exact setRow_heap (w.alloc (.cells ROW 91 (0, 0))).drew _ ROW _ _ (0, 0) (heap_at (w := w) rfl)
    · rw [ensC_append]
      show _ = ensC (es.take i) ++ (e.cells ++ ensC (es.drop i))
      rw [← hfin, ← hROW2, ← hROW1]
      have l2 : (i + 1) * 4 + (n - i) * 4 = (n + 1) * 4 := by omega
      have l4 : i * 4 + 4 = (i + 1) * 4 := by omega
      simp only [ld, le4, l2, l4]
    · rw [ensC_length, List.length_append, List.length_cons, List.length_take, List.length_drop]; omega)
  have hG63 : G ≤ 9223372036854775807 := by unfold maxLen at hGm; exact hGm
  have hcm2 : cap ≤ 9223372036854775807 := by unfold maxLen at hcm; exact hcm
  have hGi : ¬ (G = i) := by omega
  have hGim : ¬ (G = i + 1) := by omega
  have hci : ¬ (cap = i) := by omega
  have hz2 : ¬ ((i : Int) = (n : Int)) := by omega
  have hz3 : (cap : Int) < (n : Int) + 1 := by omega
  have hw1 : IntKind.i64.wrap ((i : Int) + 1) = (i : Int) + 1 := by rw [IntKind.wrap_i64]; omega
  have hb1 : (0 : Int) ≤ (i : Int) + 1 := by omega
  have hin : i ≤ n := by omega
  have htn : ((i : Int) + 1).toNat = i + 1 := by omega
  have hb3 : (i : Int) ≤ (n : Int) := by omega
  have mixed : Try.prog.follows .mixedOrders = true := by kernel_rfl
  clear hfin hs1 hs2 hROW1 hROW2 h hcs hct hg hb ld lA hn hkk hik hold hROW hG hRl hRt hRs le4 hN hgw hxw hi0 hz0 hzs hzb hcm hGm
  go_enter Try.func90, Try.ntmps90
  go_wp2_with (at_builtin; refine Lib.wpList_append_run _ rfl _ _ _ _ rfl _ _ rfl rfl _ _ (hrz _) ?_)
  rw [hcpA (w.alloc (.cells ROW 91 (0, 0))).drew rfl _ _ _ _ _ rfl rfl]
  go_wp2_with fail
  go_region_law_o (refine step_copy_runI rfl _ _ 83 83 rfl (.slice (some ⟨w.heap.size, (i + 1) * 4, none⟩) (n - i) (G - (i + 1))) (.slice (some ⟨g, i * 4, none⟩) (n - i) (cap - i)) (by simp [Act.eval, Act.put]) (by simp [Act.eval, Act.put]) (hcpB (((w.alloc (.cells ROW 91 (0, 0))).drew.setRow w.heap.size ROW1).drew) rfl _ _ _ _ _ _ _ rfl rfl rfl rfl) ?_)
  go_wp2_with fail
  go_ret
  exact ⟨_, _, rfl, HF.out⟩
end
end Go.Proofs.Ytbaliaodioflfaa
