/-
  Walks through layer 16: Delete of one entry, and Drop. For every cache that rises.
-/
import Derived.Test.YtbaliaodioflfaaSkipI
namespace Go.Proofs.Ytbaliaodioflfaa
open Go.RowKit Go.Lib

theorem step_append_runI {P : Program} {ops : Array Oper} {o : Oper} {a : Act} {w : World} {K : Act → World → Prop} {Q : Exit → Act → World → Prop} {E : Prop}
    (hg : o.guard = none) (d x : Operand) (dT sT : TypeId) (hop : o.op = Op.call { callee := Callee.builtin Builtin.append, args := #[d, x], argTypes := #[dT, sT] })
    (v u : Value) (hd : a.eval d = v) (hx : a.eval x = u) {v' : Value} {w' : World} (hr : (Builtin.append_ #[dT, sT] o.type #[v, u]).run P w = .ok v' w') (hK : K (a.put o.dst v') w') :
    if Region.wanted o (yielded ops a.tmps) = true then Oper.wp P o a w K Q else E := by
  have hw : Region.wanted o (yielded ops a.tmps) = true := by simp [Region.wanted, hg]
  rw [if_pos hw]
  unfold Oper.wp
  simp [execOp, hop, resolve, invoke, builtin, hd, hx, hr, Result.andThen]
  exact hK

theorem del_len {es : List En} {i k : Nat} (hn : k + 1 = es.length) (hi : i ≤ k) : (ensC (es.drop (i + 1))).length = (k - i) * 4 := by rw [ensC_length, List.length_drop, ← hn]; congr 1; omega
/-- What the copy leaves. -/
theorem del_row {cur : List Value} {es : List En} {i k : Nat} (hn : k + 1 = es.length) (hi : i ≤ k) (hx : cur.take ((k + 1) * 4) = ensC es) (r : List Value) :
    (cur.take (i * 4) ++ ensC (es.drop (i + 1)) ++ r).take (k * 4) = ensC (es.eraseIdx i) := by
  have ld := del_len hn hi
  have e1 : cur.take (i * 4) = ensC (es.take i) := by rw [← ensC_take, ← hx, List.take_take, Nat.min_eq_left (by omega)]
  have l1 : (ensC (es.take i)).length = i * 4 := by rw [ensC_length, List.length_take]; omega
  rw [e1, List.take_left' (by rw [List.length_append, ld, l1]; omega), ← ensC_append, List.eraseIdx_eq_take_drop_succ]

set_option maxRecDepth 100000 in
set_option maxHeartbeats 8000000 in
theorem delete_calls {W w : World} {g cap k i : Nat} {es : List En} {Rs : List Res} (hn : k + 1 = es.length) (hi : i ≤ k) (hsm : k ≤ 1000) (h : Hd W w (RowR 91 4 (.slice (some ⟨g, 0, none⟩) (k + 1) cap) (k + 1) (ensC es) :: Rs)) :
    Calls Try.prog 89 #[.slice (some ⟨g, 0, none⟩) (k + 1) cap, .int .i64 i, .int .i64 ((i : Int) + 1)] w fun e' w' => e' = .returned (.slice (some ⟨g, 0, none⟩) k cap) ∧
      Hd W w' (RowR 91 4 (.slice (some ⟨g, 0, none⟩) k cap) k (ensC (es.eraseIdx i)) :: Rs) := by
  obtain ⟨cur, hg, hcs, hnc, hcm, hct⟩ := h.row_heapS
  obtain ⟨inf, hi1, hz, hsz, hby⟩ := info_E
  have hcl : cur.toList.length = cap * 4 := by simpa using hcs
  have ld := del_len hn hi
  obtain ⟨cur1, hcur1⟩ : ∃ c, (cur.toList.take (i * 4) ++ ensC (es.drop (i + 1)) ++ cur.toList.drop (i * 4 + (ensC (es.drop (i + 1))).length)).toArray = c := ⟨_, rfl⟩
  have hap : ∀ ty (a : Addr) m c, m = k - i → (∀ j v, (ensC (es.drop (i + 1)))[j]? = some v → w.drew.cell? (a.add j) = some v) →
      (Builtin.append_ #[83, 83] ty #[.slice (some ⟨g, 0, none⟩) i cap, .slice (some a) m c]).run Try.prog w.drew = .ok (.slice (some ⟨g, 0, none⟩) k cap) (w.drew.setRow g cur1) := fun ty a m c hm hsrc => by
    subst hm
    have := run_append_room (P := Try.prog) w.drew 83 ty 91 inf Try.underlying83 hi1 g i cap cur hg a (k - i) c (ensC (es.drop (i + 1))) (by rw [ld, hsz]) hsrc ensC_one (by omega) (by rw [ld, hsz, hcs]; omega)
    rw [hsz, hcur1, show i + (k - i) = k by omega] at this
    exact this
  have hapA : ∀ ty m c, k = i → m = k - i → ∀ a, (Builtin.append_ #[83, 83] ty #[.slice (some ⟨g, 0, none⟩) i cap, .slice (some a) m c]).run Try.prog w.drew = .ok (.slice (some ⟨g, 0, none⟩) k cap) (w.drew.setRow g cur1) := fun ty m c hki hm a => hap ty a m c hm fun j v hj => by
    have h0 : (ensC (es.drop (i + 1))).length = 0 := by rw [ld]; omega
    rw [List.length_eq_zero_iff.1 h0] at hj
    simp at hj
  have hapB : ∀ ty p m c, p = (i + 1) * 4 → m = k - i → (Builtin.append_ #[83, 83] ty #[.slice (some ⟨g, 0, none⟩) i cap, .slice (some ⟨g, p, none⟩) m c]).run Try.prog w.drew = .ok (.slice (some ⟨g, 0, none⟩) k cap) (w.drew.setRow g cur1) := fun ty p m c hp hm => hap ty _ m c hm fun j v hj => by
    subst hp
    rw [show ((⟨g, (i + 1) * 4, none⟩ : Addr).add j) = ⟨g, (i + 1) * 4 + j, none⟩ by simp [Addr.add_lit]]
    show w.drew.cell? _ = some v
    rw [cell_of_heap (w := w.drew) hg, ← Array.getElem?_toList]
    refine get_of_take hct ?_
    rwa [← ensC_drop, List.getElem?_drop] at hj
  have hs1 : cur1.size = cur.size := by
    rw [← hcur1]
    simp only [List.size_toArray, List.length_append, List.length_take, List.length_drop, ld, Array.length_toList]
    omega
  have hg1 : (w.drew.setRow g cur1).heap[g]? = some (.cells cur1 91 (0, 0)) := setRow_heap _ g cur _ _ (0, 0) hg
  obtain ⟨cur2, hcur2⟩ : ∃ c, (cur1.toList.take (k * 4) ++ En.zero.cells ++ cur1.toList.drop (k * 4 + 4)).toArray = c := ⟨_, rfl⟩
  have hclr : ∀ ty p m c, p = k * 4 → m = 1 → (Builtin.clear_ #[83] ty #[.slice (some ⟨g, p, none⟩) m c]).run Try.prog (w.drew.setRow g cur1) = .ok (.tuple #[]) ((w.drew.setRow g cur1).setRow g cur2) := fun ty p m c hp hm => by
    subst hp; subst hm
    have hst := run_storeCells_at Try.prog g (k * 4) 91 En.zero.cells 0 cur1 (w.drew.setRow g cur1) hg1 (by rw [hs1, hcs]; show k * 4 + 0 + 4 ≤ cap * 4; omega) (fun v hv => ensC_one (es := [En.zero]) v (by simpa [ensC] using hv))
    rw [show k * 4 + 0 = k * 4 from rfl, show k * 4 + En.zero.cells.length = k * 4 + 4 from rfl, hcur2] at hst
    have hzc : (Builtin.zeroCells (enV En.zero).cells 1).toList = En.zero.cells := by
      simp [Builtin.zeroCells, enV, En.zero, En.cells, Value.cells]
      rfl
    simp [Builtin.clear_, run_underlying Try.underlying83, zeroValue, typeInfo, hi1, hz, hzc, hst]
  have hs2 : cur2.size = cur1.size := by
    rw [← hcur2]
    have : En.zero.cells.length = 4 := rfl
    simp only [List.size_toArray, List.length_append, List.length_take, List.length_drop, this, Array.length_toList, hs1, hcs]
    omega
  have HF : Hid (Hd W ((w.drew.setRow g cur1).setRow g cur2) (RowR 91 4 (.slice (some ⟨g, 0, none⟩) k cap) k (ensC (es.eraseIdx i)) :: Rs)) := hid (by
    have h1 := Hd.row_setRow (w := w.drew) (m := k) (ys := ensC (es.eraseIdx i)) (cur' := cur1) hg hs1 (by omega) (by rw [← hcur1]; exact del_row hn hi hct _) (by rw [ensC_length, List.length_eraseIdx_of_lt (by omega)]; omega) h.dr
    refine Hd.row_setRow (m := k) hg1 hs2 (by omega) ?_ ?_ h1
    · rw [← hcur2]
      show (cur1.toList.take (k * 4) ++ En.zero.cells ++ _).take (k * 4) = _
      rw [List.append_assoc, List.take_left' (by rw [List.length_take, Array.length_toList, hs1, hcs]; omega), ← hcur1]
      exact del_row hn hi hct _
    · rw [ensC_length, List.length_eraseIdx_of_lt (by omega)]; omega)
  have hcl1 := fun ty => hclr ty (k * 4) 1 (cap - k) rfl rfl
  clear hclr
  clear hap hs1 hs2 hg1 hcur1 hcur2 h hcs hct hcl hg ld hn hi1 hz hsz hby
  have HA := hid hapA
  have HB := hid hapB
  clear hapA hapB
  have hcm2 : cap ≤ 9223372036854775807 := by unfold maxLen at hcm; exact hcm
  have mixed : Try.prog.follows .mixedOrders = true := by kernel_rfl
  have zi0 : (0 : Int) ≤ (i : Int) := by omega
  have hz2 : ¬ ((i : Int) = (i : Int) + 1) := by omega
  have hz3 : ((i : Int) == (i : Int) + 1) = false := by simp; omega
  have hb1 : (0 : Int) ≤ (i : Int) + 1 := by omega
  have htn : ((i : Int) + 1).toNat = i + 1 := by omega
  have hb5 : (i : Int) + 1 ≤ (k : Int) + 1 := by omega
  have hb6 : (i : Int) ≤ (k : Int) + 1 := by omega
  have hb8 : (i : Int) ≤ (i : Int) + 1 := by omega
  have hc0 : (0 : Int) ≤ (k : Int) := by omega
  have hc1 : (k : Int) ≤ (k : Int) + 1 := by omega
  have hc2 : (k : Int) + 1 ≤ (cap : Int) := by omega
  have hb7 : ¬ (cap = k) := by omega
  have hik : i ≤ cap := by omega
  by_cases hb2 : cap = i + 1
  · obtain rfl : i = k := by omega
    subst hb2
    rw [show i + 1 - i = 1 by omega] at hcl1
    have hx1 : (i : Int) + 1 ≤ (i : Int) + 1 := by omega
    clear hb5 hb6 hc2 hi hnc hcm hcm2 hik hb7 hsm HB hc1 hc0 hb8
    have hb8 : (i : Int) ≤ (i : Int) + 1 := by omega
    have hb9 : i ≤ i + 1 := by omega
    have hb10 : ¬ (i + 1 = i) := by omega
    go_enter Try.func89, Try.ntmps89
    go_wp2_with fail
    go_region_law_o (refine step_append_runI rfl _ _ 83 83 rfl (.slice (some ⟨g, 0, none⟩) i (i + 1)) (.slice (some ⟨g, 0, none⟩) 0 0) (by simp [Act.eval, Act.put]) (by simp [Act.eval, Act.put]) (HA.out _ _ _ trivial (by omega) _) ?_)
    go_wp2_with fail
    go_ret
    exact ⟨rfl, HF.out⟩
  · go_enter Try.func89, Try.ntmps89
    go_wp2_with fail
    go_region_law_o (refine step_append_runI rfl _ _ 83 83 rfl (.slice (some ⟨g, 0, none⟩) i cap) (.slice (some ⟨g, (i + 1) * 4, none⟩) (k - i) (cap - (i + 1))) (by simp [Act.eval, Act.put]) (by simp [Act.eval, Act.put]) (HB.out _ _ _ _ rfl rfl) ?_)
    go_wp2_with fail
    go_ret
    exact ⟨rfl, HF.out⟩
end Go.Proofs.Ytbaliaodioflfaa
