/-
  Walks through what the statements share: Same of layer 2, for a store and a document's store that hold the same terms. For every such two.
-/
import Derived.Test.YtpcfmafokkffgaaRoom
namespace Go.Proofs.Ytpcfmafokkffgaa
open Go.RowKit

theorem ref_agg (k : Int) (s : ByteArray) (n a b c : Int) (w : World) :
    Calls Try.prog 53 #[.agg #[.int .i64 k, .string s, .int .u64 n, .int .i64 a, .int .i64 b, .int .i64 c]] w fun e w' =>
      e = .returned (.agg #[.int .i64 k, .string s, .int .u64 n, .int .i64 a, .int .i64 b, .int .i64 c]) ∧ Below w.heap.size w w' := ref_calls k s n a b c w

set_option maxRecDepth 100000 in
set_option maxHeartbeats 4000000 in
theorem same2_calls {W w : World} {Rs : List Res} {b b' : Nat} {L : List T} {m m' : Int} (h : Hd W w (Sto b L m :: RSto b' L m' :: Rs)) :
    Calls Try.prog 32 #[.pointer (some ⟨b, 0, none⟩), .pointer (some ⟨b', 0, none⟩)] w fun e w' => e = .returned (.int .i64 1) ∧ Below w.heap.size w w' := by
  obtain ⟨a, cap, hr⟩ := h.swap.rsto
  obtain ⟨lb, db, mb, lc, dc, hs⟩ := h.sto
  have hL : L.length ≤ 1048576 := by have := hs.m1; have := hs.len; omega
  have Hs := hid hs
  have Hr := hid hr
  have r0 : ∀ x : Later w, x.w.cell? ⟨b', 0, none⟩ = some (.slice a L.length cap) := fun x => x.cell hr.c0
  clear h hs hr
  go_enter Try.func32, Try.ntmps32
  go_wp2_with fail
  refine wp_region_calm (by kernel_rfl) (by kernel_rfl) ?_
  repeat (go_big_quiet_step ((go_at_call 18; exact Calls.calm_same (len_calls' (Hs.out.later (Later.below _))))))
  refine wpQuiet_nil ?_
  intro w2 hw2
  obtain ⟨⟨w2, hb2⟩, rfl⟩ := hw2
  have Hb2 := hid hb2
  clear r0 hb2
  go_wp2_with fail
  go_loopw [5] (fun i wr => ∃ j : Nat, j ≤ L.length ∧ i = .int .i64 ((j : Int) + 1) ∧ Hid (Below w.heap.size w wr)) (fun i _ => (L.length + 1) - (intOf i).toNat)
  case atStart => exact ⟨0, Nat.zero_le _, rfl, Hb2⟩
  case round =>
    obtain ⟨j, hj, rfl, Hb⟩ := hrel
    have c0 := (Hr.out.later Hb.out).c0
    by_cases hlt : j < L.length
    · have d1 : decide ((j : Int) + 1 ≤ (L.length : Int)) = true := by simp; omega
      have d2 : decide (j + 1 ≤ L.length) = true := by simp; omega
      have d3 : decide (j < L.length) = true := by simp; omega
      obtain ⟨t, ht⟩ : ∃ t, L[j]? = some t := ⟨L[j]'(by omega), List.getElem?_eq_getElem _⟩
      have hg := getT_in ht
      obtain ⟨k, s, n, a1, b1, c1⟩ := t
      obtain ⟨g, rfl, hgl, hc⟩ := (Hr.out.later Hb.out).cl j _ ht
      have Hg := hid hg
      have Hc := hid hc
      have Hgl := hid hgl
      have C0 := hid c0
      clear ht hg hc hgl
      go_wp2_with fail
      refine (get_calls _ (Hs.out.later Hb.out)).mono ?_
      rw [Hg.out.1, Hg.out.2]
      simp only [T.val]
      rintro e w3 ⟨rfl, hb3⟩
      clear c0
      go_wp2_with fail
      obtain ⟨w4, hw4⟩ : ∃ w4, w4 = w3.alloc (.cells #[.int .i64 k, .string s, .int .u64 n, .int .i64 a1, .int .i64 b1, .int .i64 c1] 47) := ⟨_, rfl⟩
      have hbox : w4.heap[w3.heap.size]? = some (.cells #[.int .i64 k, .string s, .int .u64 n, .int .i64 a1, .int .i64 b1, .int .i64 c1] 47) := by rw [hw4]; exact heap_at rfl
      have hb34 : Below w3.heap.size w3 w4 := by rw [hw4]; exact (Below.refl _ _).alloc (Nat.le_refl _) _
      rw [← hw4]
      clear hw4
      have hb4 : Below wr.heap.size wr w4 := hb3.trans (hb34.mono hb3.size)
      generalize w3.heap.size = B at *
      have e0 : ∀ x : Later w4, x.w.cell? ⟨B, 0, none⟩ = some (.int .i64 k) := fun x => x.cell (by rw [cell_of_heap hbox]; rfl)
      have e1 : ∀ x : Later w4, x.w.cell? ⟨B, 1, none⟩ = some (.string s) := fun x => x.cell (by rw [cell_of_heap hbox]; rfl)
      have e2 : ∀ x : Later w4, x.w.cell? ⟨B, 2, none⟩ = some (.int .u64 n) := fun x => x.cell (by rw [cell_of_heap hbox]; rfl)
      have e3 : ∀ x : Later w4, x.w.cell? ⟨B, 3, none⟩ = some (.int .i64 a1) := fun x => x.cell (by rw [cell_of_heap hbox]; rfl)
      have e4 : ∀ x : Later w4, x.w.cell? ⟨B, 4, none⟩ = some (.int .i64 b1) := fun x => x.cell (by rw [cell_of_heap hbox]; rfl)
      have e5 : ∀ x : Later w4, x.w.cell? ⟨B, 5, none⟩ = some (.int .i64 c1) := fun x => x.cell (by rw [cell_of_heap hbox]; rfl)
      have f0 : ∀ x : Later w4, x.w.cell? ⟨b', 0, none⟩ = some (.slice (some ⟨g, 0, none⟩) L.length cap) := fun x => x.cell ((hb4.cell (p := ⟨b', 0, none⟩) (Hr.out.later Hb.out).lt).trans C0.out)
      have g0 : ∀ x : Later w4, x.w.cell? ⟨g, j * 6, none⟩ = some (.int .i64 k) := fun x => x.cell ((hb4.cell (p := ⟨g, j * 6 + 0, none⟩) Hgl.out).trans (Hc.out 0 _ rfl))
      have g1 : ∀ x : Later w4, x.w.cell? ⟨g, j * 6 + 1, none⟩ = some (.string s) := fun x => x.cell ((hb4.cell (p := ⟨g, j * 6 + 1, none⟩) Hgl.out).trans (Hc.out 1 _ rfl))
      have g2 : ∀ x : Later w4, x.w.cell? ⟨g, j * 6 + 2, none⟩ = some (.int .u64 n) := fun x => x.cell ((hb4.cell (p := ⟨g, j * 6 + 2, none⟩) Hgl.out).trans (Hc.out 2 _ rfl))
      have g3 : ∀ x : Later w4, x.w.cell? ⟨g, j * 6 + 3, none⟩ = some (.int .i64 a1) := fun x => x.cell ((hb4.cell (p := ⟨g, j * 6 + 3, none⟩) Hgl.out).trans (Hc.out 3 _ rfl))
      have g4 : ∀ x : Later w4, x.w.cell? ⟨g, j * 6 + 4, none⟩ = some (.int .i64 b1) := fun x => x.cell ((hb4.cell (p := ⟨g, j * 6 + 4, none⟩) Hgl.out).trans (Hc.out 4 _ rfl))
      have g5 : ∀ x : Later w4, x.w.cell? ⟨g, j * 6 + 5, none⟩ = some (.int .i64 c1) := fun x => x.cell ((hb4.cell (p := ⟨g, j * 6 + 5, none⟩) Hgl.out).trans (Hc.out 5 _ rfl))
      have Hb4 := hid hb4
      have hj0 : (0 : Int) ≤ (j : Int) := by omega
      have hj1 : (j : Int) < (L.length : Int) := by omega
      have hw1 : IntKind.i64.wrap ((j : Int) + 1 - 1) = (j : Int) := by rw [show (j : Int) + 1 - 1 = j from by omega]; exact IntWalk.i64_in _ (by omega)
      clear hb3 hb34 hb4 hbox
      refine wp_region_calm (by kernel_rfl) (by kernel_rfl) ?_
      repeat (go_big_quiet_step ((go_at_call 53; exact Calls.calm (ref_agg k s n a1 b1 c1 _))))
      refine wpQuiet_nil ?_
      intro w5 hw5
      obtain ⟨⟨w5, hb5⟩, rfl⟩ := hw5
      have Hb5 := hid (Hb4.out.trans (hb5.mono Hb4.out.size))
      clear e0 e1 e2 e3 e4 e5 f0 g0 g1 g2 g3 g4 g5 hw1 hb5
      go_wp2_with fail
      go_roundw
      case rel => exact ⟨j + 1, by omega, by go_num, hid (Hb.out.trans (Hb5.out.mono Hb.out.size))⟩
      case measure => simp [intOf]; omega
    · have d1 : decide ((j : Int) + 1 ≤ (L.length : Int)) = false := by simp; omega
      have d2 : decide (j + 1 ≤ L.length) = false := by simp; omega
      have d3 : decide (j < L.length) = false := by simp; omega
      go_wp2_with fail
      go_ret
      exact ⟨rfl, Hb.out⟩
end Go.Proofs.Ytpcfmafokkffgaa
