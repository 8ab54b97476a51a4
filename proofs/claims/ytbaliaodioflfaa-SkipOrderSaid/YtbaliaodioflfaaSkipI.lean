/-
  Walks through layer 16: Put. For every cache that rises.
-/
import Derived.Test.YtbaliaodioflfaaSkipH
import Derived.Test.YtbaliaodioflfaaMade
namespace Go.Proofs.Ytbaliaodioflfaa
open Go.RowKit Go.Lib

theorem Hd.boxk {W w : World} {Rs : List Res} {o : Obj} (k : Nat) (hk : w.heap.size = k) (h : Hd W w Rs) : Hd W (w.alloc o) (Blk k o :: Rs) := by subst hk; exact h.box o

theorem EnAt.tail {w : World} {g o : Nat} {es : List En} (h : EnAt w (some ⟨g, o, none⟩) es) : EnAt w (some ⟨g, o + 4, none⟩) (es.drop 1) := fun i e hi => by
  obtain ⟨g2, o2, ha, hc⟩ := h (1 + i) e (by rwa [List.getElem?_drop] at hi)
  cases ha
  refine ⟨g, o + 4, rfl, fun j v hj => ?_⟩
  rw [show o + 4 + i * 4 + j = o + (1 + i) * 4 + j by omega]
  exact hc j v hj

theorem ensC_set (e : En) : ∀ (es : List En) (q : Nat), q < es.length → ((((ensC es).set (q * 4) (.int .i64 e.ep)).set (q * 4 + 1) (.int .i64 e.key)).set (q * 4 + 2) (.int .u64 e.nx)).set (q * 4 + 3) (.int .u64 e.bt) = ensC (es.set q e)
  | [], q, h => by simp at h
  | u :: es, 0, _ => by simp [ensC, En.cells]
  | u :: es, q + 1, h => by
    have ih := ensC_set e es q (by simpa using h)
    simp only [ensC, List.flatMap_cons, List.set_cons_succ, En.cells, List.cons_append, List.nil_append] at ih ⊢
    simp only [show (q + 1) * 4 = q * 4 + 1 + 1 + 1 + 1 by omega, show q * 4 + 1 + 1 + 1 + 1 + 1 = q * 4 + 1 + 1 + 1 + 1 + 1 from rfl, List.set_cons_succ]
    rw [← ih]

/-- A store into a row of the call's own. -/
theorem Hd.row_setS {W w : World} {E g n cap size : Nat} {xs : List Value} {Rs : List Res} (j : Nat) (v : Value) (h : Hd W w (RowR E size (.slice (some ⟨g, 0, none⟩) n cap) n xs :: Rs)) : Hd W (w.setCell ⟨g, j, none⟩ v) (RowR E size (.slice (some ⟨g, 0, none⟩) n cap) n (xs.set j v) :: Rs) := by
  obtain ⟨cur, hb, c1, c2, c4, c3⟩ := h.row_heapS
  rw [setCell_eq_setRow w g j cur E (0, 0) v hb]
  refine Hd.row_setRow hb (by simp) c2 (by rw [Array.toList_setIfInBounds, List.take_set, c3]) (by rw [List.length_set]; exact h.owns.1) h

/-- A slice of blocks that are made since. -/
def NewSl (W w : World) (v : Value) : Prop := ∃ ad n cap, v = .slice ad n cap ∧ ∀ a, ad = some a → ∃ g o cur E, a = ⟨g, o, none⟩ ∧ W.heap.size ≤ g ∧ w.heap[g]? = some (.cells cur E (0, 0))
theorem Hd.row_newSl {W w : World} {E size n : Nat} {v : Value} {xs : List Value} {Rs : List Res} (h : Hd W w (RowR E size v n xs :: Rs)) : NewSl W w v := by
  obtain ⟨f, hR, hf, hlt, _⟩ := h.open
  obtain ⟨hl, ⟨rfl, rfl, rfl⟩ | ⟨g, cap, cur, rfl, h1, h2, h3, h4, rfl⟩⟩ := hR
  · exact ⟨none, 0, 0, rfl, fun a e => by cases e⟩
  · refine ⟨_, _, _, rfl, fun a e => ⟨g, 0, cur, E, ?_, (hlt g (by simp)).1, hf g _ (by simp)⟩⟩
    cases e; rfl
theorem NewSl.shift {W w : World} {g o n cap o' n' cap' : Nat} (h : NewSl W w (.slice (some ⟨g, o, none⟩) n cap)) : NewSl W w (.slice (some ⟨g, o', none⟩) n' cap') := by
  obtain ⟨ad, k, c, e, h1⟩ := h
  cases e
  obtain ⟨g2, o2, cur, E, e, h2, h3⟩ := h1 _ rfl
  cases e
  exact ⟨_, _, _, rfl, fun a e => ⟨g, o', cur, E, by cases e; rfl, h2, h3⟩⟩

set_option maxRecDepth 100000 in
set_option maxHeartbeats 16000000 in
theorem put16_calls {es : List En} {v : Value} {w : World} (a k x y : Int) (hr : Rises es) (h : CaAt w v es) (hm : es.length ≤ 900) :
    Calls Try.prog 52 #[.agg #[v], .agg #[.int .i64 a, .int .i64 k, .int .u64 x, .int .u64 y]] w fun e' w' => ∃ v', e' = .returned (.tuple #[.agg #[v'], enV (kPut es ⟨a, k, x, y⟩).2.1, .bool (kPut es ⟨a, k, x, y⟩).2.2]) ∧ CaAt w' v' (kPut es ⟨a, k, x, y⟩).1 ∧ NewSl w w' v' ∧ Below w.heap.size w w' := by
  obtain ⟨ad, cap, rfl, hat, hnil⟩ := h.ex
  have HE := hid hat
  have HR := hid hr
  have HC := hid h
  clear hat hr h
  go_enter Try.func52, Try.ntmps52
  go_wp2_with fail
  have H0 := hid ((((Hd.boxk (o := .cells #[.slice ad es.length cap] 85 (0, 0)) w.heap.size rfl (Hd.refl w)).boxk (o := .cells #[.int .i64 a, .int .i64 k, .int .u64 x, .int .u64 y] 91 (0, 0)) (w.heap.size + 1) (by simp)).boxk (o := .cells #[.slice none 0 0] 85 (0, 0)) (w.heap.size + 1 + 1) (by simp)).boxk (o := .cells #[.int .i64 0, .int .i64 0, .int .u64 0, .int .u64 0] 91 (0, 0)) (w.heap.size + 1 + 1 + 1) (by simp))
  refine (clone_calls (HC.out.later H0.out.below) (by omega)).mono ?_
  rintro e w1 ⟨l, rfl, hd⟩
  have H := hid (H0.out.join hd)
  clear hd H0
  have hc := H.out.drop.drop.drop.drop.blk
  have he := H.out.drop.drop.drop.blk
  have c0 := (cell_of_heap hc 0).trans (show _ = some (.slice ad es.length cap) from rfl)
  have e0 := (cell_of_heap he 0).trans (show _ = some (.int .i64 a) from rfl)
  clear hc he
  go_wp2_with fail
  refine (place_calls a HR.out (HE.out.later H.out.below) rfl (by omega)).mono ?_
  rintro e w2 ⟨rfl, hb⟩
  replace H := hid (H.out.still hb)
  clear hb c0 e0
  have he := H.out.drop.drop.drop.blk
  have e0 := (cell_of_heap he 0).trans (show _ = some (.int .i64 a) from rfl)
  have e1 := (cell_of_heap he 1).trans (show _ = some (.int .i64 k) from rfl)
  have e2 := (cell_of_heap he 2).trans (show _ = some (.int .u64 x) from rfl)
  have e3 := (cell_of_heap he 3).trans (show _ = some (.int .u64 y) from rfl)
  clear he
  have hq := lowOf_le a es
  by_cases his : isAt es a = true
  · obtain ⟨f, hf, hep⟩ := isAt_some his
    have KP : Hid (kPut es ⟨a, k, x, y⟩ = (es.set (lowOf a es) ⟨a, k, x, y⟩, En.zero, false)) := hid (by unfold kPut; rw [if_pos his])
    rw [his]
    obtain ⟨q, hqe⟩ : ∃ q, lowOf a es = q := ⟨_, rfl⟩
    rw [hqe] at hq hf KP ⊢
    have zl : q < es.length := (List.getElem?_eq_some_iff.1 hf).1
    have zq0 : (0 : Int) ≤ (q : Int) := by omega
    have zq1 : (q : Int) < (es.length : Int) := by omega
    obtain ⟨hl, ⟨rfl, h0⟩ | ⟨g, c3, cur, rfl, _, hg, h3, h4, h5, h6⟩⟩ := H.out.owns
    · omega
    have gg : ∀ j v, f.cells[j]? = some v → w2.cell? ⟨g, q * 4 + j, none⟩ = some v := fun j v hj => by
      rw [cell_of_heap hg, ← Array.getElem?_toList]
      exact get_of_take h6 (ensC_get hf hj)
    have g0 := gg 0 _ rfl
    have g1 := gg 1 _ rfl
    have g2 := gg 2 _ rfl
    have g3 := gg 3 _ rfl
    rw [Nat.add_zero] at g0
    have gf := frozen_of_heap hg
    have gl := (Array.getElem?_eq_some_iff.1 hg).1
    have n5 := H.out.row_apart
    have n4 := H.out.un2.row_apart
    have n5' := n5.symm
    have n4' := n4.symm
    have b4 := H.out.drop.drop.blk
    have o0 := (cell_of_heap b4 0).trans (show _ = some (.slice none 0 0) from rfl)
    have o1 := frozen_of_heap b4
    have o2 := (Array.getElem?_eq_some_iff.1 b4).1
    have b5 := H.out.drop.blk
    have r0 := (cell_of_heap b5 0).trans (show _ = some (.int .i64 0) from rfl)
    have r1 := (cell_of_heap b5 1).trans (show _ = some (.int .i64 0) from rfl)
    have r2 := (cell_of_heap b5 2).trans (show _ = some (.int .u64 0) from rfl)
    have r3 := (cell_of_heap b5 3).trans (show _ = some (.int .u64 0) from rfl)
    have rf := frozen_of_heap b5
    have rl := (Array.getElem?_eq_some_iff.1 b5).1
    have H2 := hid ((((H.out.row_setS (q * 4) (.int .i64 a)).row_setS (q * 4 + 1) (.int .i64 k)).row_setS (q * 4 + 2) (.int .u64 x)).row_setS (q * 4 + 3) (.int .u64 y))
    have ES := hid (ensC_set ⟨a, k, x, y⟩ es q zl)
    clear gg hl hg h5 h6 b4 b5 his hep hqe H
    go_wp2_with fail
    refine bodyPost_ret (v := .tuple #[.agg #[.slice (some ⟨g, 0, none⟩) es.length c3], .agg #[.int .i64 0, .int .i64 0, .int .u64 0, .int .u64 0], .bool false]) (by simp [results, Try.results52, go_sem, o0, r0, r1, r2, r3]) rfl ?_
    rw [KP.out]
    have h2 := H2.out
    rw [ES.out] at h2
    have HH := ((((((h2.third.set 0 (.slice (some ⟨g, 0, none⟩) es.length c3)).third.set 0 (.int .i64 0)).set 1 (.int .i64 0)).set 2 (.int .u64 0)).set 3 (.int .u64 0)))
    exact ⟨_, rfl, Hd.row_ca (by simp) HH.drop.drop, HH.drop.drop.row_newSl, HH.below⟩
  · have hif : isAt es a = false := by simpa using his
    rw [hif]
    clear his
    obtain ⟨q, hqe⟩ : ∃ q, lowOf a es = q := ⟨_, rfl⟩
    rw [hqe] at hq ⊢
    obtain ⟨ES, hES⟩ : ∃ ES, es.take q ++ ⟨a, k, x, y⟩ :: es.drop q = ES := ⟨_, rfl⟩
    have lES : es.length + 1 = ES.length := by rw [← hES]; simp; omega
    have KP : Hid (kPut es ⟨a, k, x, y⟩ = if es.length + 1 ≤ 4 then (ES, En.zero, false) else (ES.drop 1, ES.getD 0 En.zero, true)) := hid (by
      unfold kPut
      rw [if_neg (by simp [hif]), hqe, hES])
    have HES := hid hES
    have HL := hid lES
    clear hqe hES hif lES
    go_wp2_with fail
    refine (insert_calls (e := ⟨a, k, x, y⟩) rfl hq (by omega) H.out.bx).mono ?_
    rw [HES.out]
    rintro e w3 ⟨g, c3, rfl, hd⟩
    clear H e0 e1 e2 e3
    have H := hid hd
    clear hd
    obtain ⟨cur, hg, hcs, hnc, hcm, hct⟩ := H.out.row_heapS
    have h4 := H.out.drop.drop.blk
    have o0 := (cell_of_heap h4 0).trans (show _ = some (.slice none 0 0) from rfl)
    have o1 := frozen_of_heap h4
    have o2 := (Array.getElem?_eq_some_iff.1 h4).1
    have h5 := H.out.drop.blk
    have r0 := (cell_of_heap h5 0).trans (show _ = some (.int .i64 0) from rfl)
    have r1 := (cell_of_heap h5 1).trans (show _ = some (.int .i64 0) from rfl)
    have r2 := (cell_of_heap h5 2).trans (show _ = some (.int .u64 0) from rfl)
    have r3 := (cell_of_heap h5 3).trans (show _ = some (.int .u64 0) from rfl)
    have rf := frozen_of_heap h5
    have rl := (Array.getElem?_eq_some_iff.1 h5).1
    clear h4 h5
    by_cases h4 : es.length + 1 ≤ 4
    · have d4 : decide ((es.length : Int) + 1 ≤ 4) = true := by simp; omega
      go_wp2_with fail
      refine bodyPost_ret (v := .tuple #[.agg #[.slice (some ⟨g, 0, none⟩) (es.length + 1) c3], .agg #[.int .i64 0, .int .i64 0, .int .u64 0, .int .u64 0], .bool false]) (by simp [results, Try.results52, go_sem, o0, r0, r1, r2, r3]) rfl ?_
      rw [KP.out, if_pos h4]
      have HH := ((((((H.out.third.set 0 (.slice (some ⟨g, 0, none⟩) (es.length + 1) c3)).third.set 0 (.int .i64 0)).set 1 (.int .i64 0)).set 2 (.int .u64 0)).set 3 (.int .u64 0)))
      exact ⟨_, rfl, Hd.row_ca HL.out HH.drop.drop, HH.drop.drop.row_newSl, HH.below⟩
    · have d4 : decide ((es.length : Int) + 1 ≤ 4) = false := by simp; omega
      obtain ⟨⟨fa, fk, fx, fy⟩, hf⟩ : ∃ f, ES[0]? = some f := ⟨ES[0]'(by have := HL.out; omega), List.getElem?_eq_getElem _⟩
      have HF := hid hf
      have gg : ∀ j v, ([.int .i64 fa, .int .i64 fk, .int .u64 fx, .int .u64 fy] : List Value)[j]? = some v → w3.cell? ⟨g, j, none⟩ = some v := fun j v hj => by
        rw [cell_of_heap hg, ← Array.getElem?_toList]
        have := ensC_get (i := 0) hf (j := j) hj
        rw [Nat.zero_mul, Nat.zero_add] at this
        exact get_of_take hct this
      have g0 := gg 0 _ rfl
      have g1 := gg 1 _ rfl
      have g2 := gg 2 _ rfl
      have g3 := gg 3 _ rfl
      have gl := (Array.getElem?_eq_some_iff.1 hg).1
      have hb2 : ¬ (c3 = 1) := by omega
      have hb3 : c3 ≤ 9223372036854775807 := by unfold maxLen at hcm; exact hcm
      have hb4 : (1 : Int) ≤ (es.length : Int) + 1 := by omega
      have n5 := H.out.row_apart
      have n4 := H.out.un2.row_apart
      have n5' := n5.symm
      have n4' := n4.symm
      clear gg hf hct hcs hg hcm
      go_wp2_with fail
      go_region
      go_wp2_with fail
      refine bodyPost_ret (v := .tuple #[.agg #[.slice (some ⟨g, 4, none⟩) es.length (c3 - 1)], .agg #[.int .i64 fa, .int .i64 fk, .int .u64 fx, .int .u64 fy], .bool true]) (by simp [results, Try.results52, go_sem, o0, r0, r1, r2, r3]) rfl ?_
      rw [KP.out, if_neg h4]
      have HH := ((((((H.out.third.set 0 (.slice (some ⟨g, 4, none⟩) es.length (c3 - 1))).third.set 0 (.int .i64 fa)).set 1 (.int .i64 fk)).set 2 (.int .u64 fx)).set 3 (.int .u64 fy))).dr
      obtain ⟨ad2, cap2, hv, hE, _⟩ := (Hd.row_ca HL.out HH.drop.drop).ex
      simp only [Value.slice.injEq] at hv
      obtain ⟨rfl, _, rfl⟩ := hv
      have hl2 : (ES.drop 1).length = es.length := by rw [List.length_drop]; have := HL.out; omega
      exact ⟨_, by rw [List.getD_eq_getElem?_getD, HF.out]; rfl, ⟨_, _, by rw [hl2], hE.tail, fun e => (by cases e)⟩, HH.drop.drop.row_newSl.shift, HH.below⟩
end Go.Proofs.Ytbaliaodioflfaa
