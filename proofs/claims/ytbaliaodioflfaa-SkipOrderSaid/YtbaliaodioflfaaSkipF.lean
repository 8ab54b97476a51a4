/-
  Insert of one entry, where there is room. For every row.
-/
import Derived.Test.YtbaliaodioflfaaSkipE
import Derived.Shelf.Spec.SlicesInsert
namespace Go.Proofs.Ytbaliaodioflfaa
open Go.RowKit Go.Lib

theorem ensC_take (es : List En) (i : Nat) : (ensC es).take (i * 4) = ensC (es.take i) := by
  by_cases h : i ≤ es.length
  · rw [show ensC es = ensC (es.take i) ++ ensC (es.drop i) by rw [← ensC_append, List.take_append_drop]]
    exact List.take_left' (by rw [ensC_length, List.length_take]; omega)
  · rw [List.take_of_length_le (by rw [ensC_length]; omega), List.take_of_length_le (by omega)]
theorem ensC_drop (es : List En) (i : Nat) : (ensC es).drop (i * 4) = ensC (es.drop i) := by
  by_cases h : i ≤ es.length
  · rw [show ensC es = ensC (es.take i) ++ ensC (es.drop i) by rw [← ensC_append, List.take_append_drop]]
    exact List.drop_left' (by rw [ensC_length, List.length_take]; omega)
  · rw [List.drop_eq_nil_of_le (by rw [ensC_length]; omega), List.drop_eq_nil_of_le (by omega)]; rfl

/-- What the two copies leave. -/
theorem ins_row {cur : List Value} {es : List En} {e : En} {i n : Nat} (hn : n = es.length) (hi : i ≤ n) (hc : (n + 1) * 4 ≤ cur.length) (hx : cur.take (n * 4) = ensC es) :
    ((cur.take ((i + 1) * 4) ++ ensC (es.drop i) ++ cur.drop ((n + 1) * 4)).take (i * 4) ++ e.cells ++ (cur.take ((i + 1) * 4) ++ ensC (es.drop i) ++ cur.drop ((n + 1) * 4)).drop ((i + 1) * 4)).take ((n + 1) * 4) = ensC (es.take i ++ e :: es.drop i) := by
  have l1 : (cur.take ((i + 1) * 4)).length = (i + 1) * 4 := by rw [List.length_take]; omega
  have l2 : (ensC (es.drop i)).length = (n - i) * 4 := by rw [ensC_length, List.length_drop, hn]
  have l3 : (ensC (es.take i)).length = i * 4 := by rw [ensC_length, List.length_take]; omega
  have e1 : (cur.take ((i + 1) * 4) ++ ensC (es.drop i) ++ cur.drop ((n + 1) * 4)).take (i * 4) = ensC (es.take i) := by
    rw [List.append_assoc, List.take_append_of_le_length (by rw [l1]; omega), List.take_take, Nat.min_eq_left (by omega), ← ensC_take, ← hx, List.take_take, Nat.min_eq_left (by omega)]
  have e2 : (cur.take ((i + 1) * 4) ++ ensC (es.drop i) ++ cur.drop ((n + 1) * 4)).drop ((i + 1) * 4) = ensC (es.drop i) ++ cur.drop ((n + 1) * 4) := by
    rw [List.append_assoc, List.drop_left' l1]
  rw [e1, e2, ensC_append]
  show (ensC (es.take i) ++ e.cells ++ (ensC (es.drop i) ++ cur.drop ((n + 1) * 4))).take ((n + 1) * 4) = ensC (es.take i) ++ (e.cells ++ ensC (es.drop i))
  rw [← List.append_assoc, List.append_assoc (ensC (es.take i)) e.cells]
  refine List.take_left' ?_
  have : e.cells.length = 4 := rfl
  rw [List.length_append, List.length_append, l2, l3, this]
  omega

section
variable {W w : World} {g cap n x : Nat} {es : List En} {e : En} {Rs : List Res}

theorem Hd.row_apart {E size : Nat} {xs : List Value} {o : Obj} (h : Hd W w (RowR E size (.slice (some ⟨g, 0, none⟩) n cap) n xs :: Blk x o :: Rs)) : x ≠ g := by
  obtain ⟨f1, ⟨_, hf⟩, _, _, f2, h2, _, hd2, _⟩ := h.lies
  have e2 : f2 = fun j => if j = x then some o else none := h2
  rcases hf with ⟨h1, _⟩ | ⟨g2, c2, cur, hv, _, _, _, _, rfl⟩
  · cases h1
  simp only [Value.slice.injEq, Option.some.injEq, Addr.mk.injEq, and_true, true_and] at hv
  obtain ⟨rfl, rfl⟩ := hv
  intro e
  subst e
  exact hd2 x (by rw [e2]; simp) (.inr (by simp))
theorem over_apart {w : World} {a b : Addr} {lb cb : Nat} (hne : a.block ≠ b.block) {tA tB : TypeId} {kA kB : Nat} (hsa : w.shape? a.block = some (tA, kA)) (hsb : w.shape? b.block = some (tB, kB)) (hkB : kB ≠ 0) (hfa : w.frozen? a = false) (hfe : w.frozen? { block := a.block, off := kA } = false) :
    (callFunc 107 #[.slice (some a) 1 1, .slice (some b) lb cb]).run Try.prog w = .ok (.value (.bool false)) w := by
  obtain ⟨i, hi, hz, hsz, hby⟩ := info_E
  rw [run_callFunc_extern (e := Extern.SlicesOverlaps.overlaps #[83, 83] #[4]) Try.func107 (by kernel_rfl) (by kernel_rfl) (by kernel_rfl) (by kernel_rfl),
    Lib.run_overlaps_apart w 83 4 91 Try.underlying83 4 (fun w => by simp [sizeOf, typeInfo, hi, hsz]) a b 1 1 lb cb hne tA tB kA kB hsa hsb hkB hfa hfe]
  rfl

set_option maxRecDepth 100000 in
set_option maxHeartbeats 8000000 in
theorem ins_shift {i : Nat} (hn : n = es.length) (hi : i < n) (hroom : n + 1 ≤ cap) (hsm : n ≤ 1000) (h : Hd W w (RowR 91 4 (.slice (some ⟨g, 0, none⟩) n cap) n (ensC es) :: Blk x (.cells e.cells.toArray 91 (0, 0)) :: Rs)) :
    Calls Try.prog 90 #[.slice (some ⟨g, 0, none⟩) n cap, .int .i64 i, .slice (some ⟨x, 0, none⟩) 1 1] w fun e' w' => e' = .returned (.slice (some ⟨g, 0, none⟩) (n + 1) cap) ∧
      Hd W w' (RowR 91 4 (.slice (some ⟨g, 0, none⟩) (n + 1) cap) (n + 1) (ensC (es.take i ++ e :: es.drop i)) :: Blk x (.cells e.cells.toArray 91 (0, 0)) :: Rs) := by
  obtain ⟨cur, hg, hcs, hnc, hcm, hct⟩ := h.row_heapS
  have hb := h.swap.blk
  have hxg := h.row_apart
  have hcl : cur.toList.length = cap * 4 := by simpa using hcs
  have hov : ∀ lb cb p, (callFunc 107 #[.slice (some ⟨x, 0, none⟩) 1 1, .slice (some ⟨g, p, none⟩) lb cb]).run Try.prog w = .ok (.value (.bool false)) w := fun lb cb p =>
    over_apart (tA := 91) (tB := 91) (kA := 4) (kB := cur.size) hxg (by simp [World.shape?, hb, En.cells]) (by simp [World.shape?, hg]) (by omega) (frozen_of_heap hb _) (frozen_of_heap hb _)
  obtain ⟨cur1, hcur1⟩ : ∃ c, (cur.toList.take ((i + 1) * 4) ++ ensC (es.drop i) ++ cur.toList.drop ((i + 1) * 4 + (ensC (es.drop i)).length)).toArray = c := ⟨_, rfl⟩
  have ld : (ensC (es.drop i)).length = (n - i) * 4 := by rw [ensC_length, List.length_drop, hn]
  have hcp1 : ∀ ty p q dl dc sl sc, p = (i + 1) * 4 → q = i * 4 → dl = n - i → sl = n + 1 - i → (Builtin.copy_ #[83, 83] ty #[.slice (some ⟨g, p, none⟩) dl dc, .slice (some ⟨g, q, none⟩) sl sc]).run Try.prog w.drew = .ok (goInt ((n - i : Nat) : Int)) (w.drew.setRow g cur1) := fun ty p q dl dc sl sc e1 e2 e3 e4 => by
    subst e1; subst e2; subst e3; subst e4
    have := run_copy4 w.drew ty g ((i + 1) * 4) (n - i) dc ⟨g, i * 4, none⟩ (n + 1 - i) sc cur (ensC (es.drop i)) hg (by rw [ld]; simp only [Nat.min_def]; split <;> omega)
      (fun j v hj => by
        rw [show ((⟨g, i * 4, none⟩ : Addr).add j) = ⟨g, i * 4 + j, none⟩ by simp [Addr.add_lit]]
        show w.drew.cell? _ = some v
        rw [cell_of_heap (w := w.drew) hg, ← Array.getElem?_toList]
        refine get_of_take hct ?_
        rwa [← ensC_drop, List.getElem?_drop] at hj) (by rw [ld]; omega) ensC_one
    rw [hcur1, show Nat.min (n + 1 - i) (n - i) = n - i by simp only [Nat.min_def]; split <;> omega] at this
    exact this
  have hs1 : cur1.size = cur.size := by
    rw [← hcur1]
    simp only [List.size_toArray, List.length_append, List.length_take, List.length_drop, ld, Array.length_toList]
    omega
  have hg1 : (w.drew.setRow g cur1).heap[g]? = some (.cells cur1 91 (0, 0)) := setRow_heap _ g cur _ _ (0, 0) hg
  obtain ⟨cur2, hcur2⟩ : ∃ c, (cur1.toList.take (i * 4) ++ e.cells ++ cur1.toList.drop (i * 4 + e.cells.length)).toArray = c := ⟨_, rfl⟩
  have hcp2 : ∀ ty q dl dc sc, q = i * 4 → dl = n + 1 - i → (Builtin.copy_ #[83, 83] ty #[.slice (some ⟨g, q, none⟩) dl dc, .slice (some ⟨x, 0, none⟩) 1 sc]).run Try.prog (w.drew.setRow g cur1) = .ok (goInt 1) ((w.drew.setRow g cur1).setRow g cur2) := fun ty q dl dc sc e1 e2 => by
    subst e1; subst e2
    have := run_copy4 (w.drew.setRow g cur1) ty g (i * 4) (n + 1 - i) dc ⟨x, 0, none⟩ 1 sc cur1 e.cells hg1 (by rw [show Nat.min 1 (n + 1 - i) = 1 by simp only [Nat.min_def]; split <;> omega]; rfl)
      (fun j v hj => by
        rw [show ((⟨x, 0, none⟩ : Addr).add j) = ⟨x, j, none⟩ by simp [Addr.add_lit]]
        have hx2 : (w.drew.setRow g cur1).heap[x]? = some (.cells e.cells.toArray 91 (0, 0)) := by rw [setRow_other _ g x _ hxg]; exact hb
        rw [cell_of_heap hx2, List.getElem?_toArray]
        exact hj) (by rw [hs1, hcs]; show i * 4 + 4 ≤ cap * 4; omega) (fun v hv => ensC_one (es := [e]) v (by simpa [ensC] using hv))
    rw [hcur2, show Nat.min 1 (n + 1 - i) = 1 by simp only [Nat.min_def]; split <;> omega] at this
    exact this
  have hs2 : cur2.size = cur1.size := by
    rw [← hcur2]
    have : e.cells.length = 4 := rfl
    simp only [List.size_toArray, List.length_append, List.length_take, List.length_drop, this, Array.length_toList, hs1, hcs]
    omega
  have hfin := ins_row (e := e) hn (Nat.le_of_lt hi) (by rw [hcl]; omega) hct
  have HF : Hid (Hd W ((w.drew.setRow g cur1).setRow g cur2) (RowR 91 4 (.slice (some ⟨g, 0, none⟩) (n + 1) cap) (n + 1) (ensC (es.take i ++ e :: es.drop i)) :: Blk x (.cells e.cells.toArray 91 (0, 0)) :: Rs)) := hid (by
    have h1 := Hd.row_setRow (w := w.drew) (m := n + 1) (ys := cur1.toList.take ((n + 1) * 4)) (cur' := cur1) hg hs1 hroom rfl (by rw [List.length_take, Array.length_toList, hs1, hcs]; omega) h.dr
    refine Hd.row_setRow (m := n + 1) hg1 hs2 hroom ?_ ?_ h1
    · rw [← hfin, ← hcur2, ← hcur1]
      have l2 : (i + 1) * 4 + (n - i) * 4 = (n + 1) * 4 := by omega
      simp only [ld, l2]
      rw [show i * 4 + e.cells.length = (i + 1) * 4 by show i * 4 + 4 = _; omega]
    · rw [ensC_length, List.length_append, List.length_cons, List.length_take, List.length_drop]; omega)
  clear hfin hs1 hs2 hg1 hcur1 hcur2 h hcs hct hcl hg hb ld hn
  have zi0 : (0 : Int) ≤ (i : Int) := by omega
  have hz2 : ¬ ((i : Int) = (n : Int)) := by omega
  have hz3 : ((i : Int) == (n : Int)) = false := by simp; omega
  have hcm2 : cap ≤ 9223372036854775807 := by unfold maxLen at hcm; exact hcm
  have mixed : Try.prog.follows .mixedOrders = true := by kernel_rfl
  have hw1 : IntKind.i64.wrap ((i : Int) + 1) = (i : Int) + 1 := by rw [IntKind.wrap_i64]; omega
  have hb1 : (0 : Int) ≤ (i : Int) + 1 := by omega
  have htn : ((i : Int) + 1).toNat = i + 1 := by omega
  have hb2 : ¬ (cap = i + 1) := by omega
  have hb3 : (i : Int) ≤ (n : Int) + 1 := by omega
  have hb4 : ¬ (cap = i) := by omega
  have hb5 : (i : Int) + 1 ≤ (n : Int) + 1 := by omega
  go_enter Try.func90, Try.ntmps90
  go_wp2_with (simp only [hov])
  go_region_law_o (refine step_copy_runI rfl _ _ 83 83 rfl _ _ (by simp [Act.eval, Act.put]) (by simp [Act.eval, Act.put]) (hcp1 _ _ _ _ _ _ _ (by omega) (by omega) (by omega) (by omega)) ?_)
  go_wp2_with (refine wpList_copy_runI _ rfl _ _ 83 83 rfl _ _ rfl rfl (hcp2 _ _ _ _ _ (by omega) (by omega)) ?_)
  go_ret
  exact ⟨rfl, HF.out⟩

theorem en_blk (h : w.heap[x]? = some (.cells e.cells.toArray 91 (0, 0))) : EnAt w (some ⟨x, 0, none⟩) [e] := fun i f hi => by
  match i, hi with
  | 0, hi =>
    simp only [List.getElem?_cons_zero, Option.some.injEq] at hi
    subst hi
    refine ⟨x, 0, rfl, fun j v hj => ?_⟩
    rw [cell_of_heap h, List.getElem?_toArray]
    simpa using hj

set_option maxRecDepth 100000 in
set_option maxHeartbeats 8000000 in
theorem ins_end {v : Value} (hn : n = es.length) (hsm : n ≤ 1000) (h : Hd W w (RowR 91 4 v n (ensC es) :: Blk x (.cells e.cells.toArray 91 (0, 0)) :: Rs)) :
    Calls Try.prog 90 #[v, .int .i64 n, .slice (some ⟨x, 0, none⟩) 1 1] w fun e' w' => ∃ g' cap', e' = .returned (.slice (some ⟨g', 0, none⟩) (n + 1) cap') ∧
      Hd W w' (RowR 91 4 (.slice (some ⟨g', 0, none⟩) (n + 1) cap') (n + 1) (ensC (es ++ [e])) :: Blk x (.cells e.cells.toArray 91 (0, 0)) :: Rs) := by
  have HX := hid (en_blk h.swap.blk)
  have H := hid h
  obtain ⟨hl, ⟨rfl, rfl⟩ | ⟨g, cap, cur, rfl, _, hc, h3, h4, h5, h6⟩⟩ := h.owns
  · clear hl h hn
    go_enter Try.func90, Try.ntmps90
    go_wp2_with (at_builtin; refine append_ens (es := es) (fs := [e]) rfl (.tmp 23) (.tmp 24) rfl (by simp) H.out HX.out (by rfl) (by rfl) (by simp) ?_; intro g3 c3 w3 h3; simp only [List.length_cons, List.length_nil, Nat.zero_add] at h3 ⊢; have H3 := hid h3; clear h3)
    go_ret
    exact ⟨_, _, rfl, H3.out⟩
  · have hcm : cap ≤ 9223372036854775807 := by unfold maxLen at h4; exact h4
    have zn : (0 : Int) ≤ (n : Int) := by omega
    clear hl h hn hc h4 h5 h6
    go_enter Try.func90, Try.ntmps90
    go_wp2_with (at_builtin; refine append_ens (es := es) (fs := [e]) rfl (.tmp 23) (.tmp 24) rfl (by simp) H.out HX.out (by rfl) (by rfl) (by simp; omega) ?_; intro g3 c3 w3 h3; simp only [List.length_cons, List.length_nil, Nat.zero_add] at h3 ⊢; have H3 := hid h3; clear h3)
    all_goals
      go_ret
      exact ⟨_, _, rfl, H3.out⟩
end
end Go.Proofs.Ytbaliaodioflfaa
