/-
  Walks through what the statements share: fixed of layer 15. It takes nothing.
-/
import Derived.Test.YtpcfmafokkffgaaChainE
import Derived.Test.YtpcfmafokkffgaaLawA
namespace Go.Proofs.Ytpcfmafokkffgaa
open Go.RowKit

theorem row_ints {W w : World} {v : Value} {ks : List Int} {Rs : List Res} (h : Hd W w (RowR 3 1 v ks.length (nums .i64 ks) :: Rs)) : ∃ ad cap, v = .slice ad ks.length cap ∧ IntsAt w ad ks := by
  obtain ⟨ad, cap, rfl⟩ := h.row_form
  refine ⟨ad, cap, rfl, ?_⟩
  by_cases h0 : ks = []
  · exact .inl h0
  · have hp : 0 < ks.length := List.length_pos_iff.2 h0
    obtain ⟨g, c, e, _⟩ := h.row_cell (j := 0) (u := .int .i64 (ks.getD 0 0)) (by simp [nums, List.getD, hp])
    simp only [Value.slice.injEq] at e
    refine .inr ⟨g, 0, e.1, fun j hj => ?_⟩
    obtain ⟨g', c', e', hc⟩ := h.row_cell (j := j) (u := .int .i64 (ks.getD j 0)) (by simp [nums, List.getD, hj])
    simp only [Value.slice.injEq] at e'
    have := e.1.symm.trans e'.1
    simp only [Option.some.injEq, Addr.mk.injEq, and_true] at this
    rw [Nat.zero_add, this]
    exact hc

theorem eqt_Ch (k e : Int) (w : World) : (binOp .eql 32 (.agg #[.int .i64 k, .int .i64 e]) (.agg #[.int .i64 k, .int .i64 e])).run Try.prog w = .ok (.bool true) w := by
  have q : (Op.equalIn 10000 32 (.agg #[.int .i64 k, .int .i64 e]) (.agg #[.int .i64 k, .int .i64 e])).run Try.prog w = .ok true w := by
    go_simp
  rw [run_eql_struct, q]
  rfl

def fl1 : List T := (put 20 [] ⟨2, ⟨#[]⟩, 1, 0, 0, 0⟩).2.2
def fl2 : List T := (put 20 fl1 (keyT 1 1)).2.2
def fl3 : List T := (next15 20 fl2 1 0).2.2
def fl4 : List T := (to15 20 fl3 1 0 2).2.2.2

set_option maxRecDepth 100000 in
set_option maxHeartbeats 8000000 in
theorem fixed15_calls {W w : World} {Rs : List Res} (h : Hd W w Rs) :
    Calls Try.prog 19 #[] w fun e w' => e = .returned (.bool true) ∧ Hd W w' Rs := by
  have H := hid h
  clear h
  go_enter Try.func19, Try.ntmps19
  go_wp2_with fail
  refine (new_calls H.out (by decide) (by decide)).mono ?_
  rintro e w1 ⟨b, rfl, h1⟩
  clear H
  have H := hid h1
  clear h1
  go_wp2_with fail
  refine (put_calls _ _ _ _ _ _ H.out).mono ?_
  rintro e w2 ⟨rfl, h1⟩
  clear H
  have H := hid (show Hd W w2 (Sto b fl1 20 :: Rs) from h1)
  clear h1
  generalize (put 20 [] ⟨2, ⟨#[]⟩, 1, 0, 0, 0⟩) = rr
  go_wp2_with fail
  refine (seal15_calls 1 0 (show put 20 fl1 (keyT 1 1) = (2, 0, fl2) from by decide +kernel) H.out.bx).mono ?_
  rintro e w3 ⟨rfl, h1⟩
  clear H
  have H := hid h1
  clear h1
  have hk := Hd.nthk 1 H.out rfl
  have ba0 := (cell_of_heap hk 0).trans (show _ = some (.int .i64 1) from rfl)
  have ba1 := (cell_of_heap hk 1).trans (show _ = some (.int .i64 0) from rfl)
  have bas := (Array.getElem?_eq_some_iff.1 hk).1
  clear hk
  go_wp2_with fail
  refine (next15_calls 1 0 (show next15 20 fl2 1 0 = ((3, 1), 0, fl3) from by decide +kernel) H.out).mono ?_
  rintro e w4 ⟨rfl, h1⟩
  clear ba0 ba1 bas
  clear H
  have H := hid h1
  clear h1
  have hk := Hd.nthk 1 H.out rfl
  have ba0 := (cell_of_heap hk 0).trans (show _ = some (.int .i64 1) from rfl)
  have ba1 := (cell_of_heap hk 1).trans (show _ = some (.int .i64 0) from rfl)
  have bas := (Array.getElem?_eq_some_iff.1 hk).1
  clear hk
  go_wp2_with fail
  refine (to_calls 1 0 2 (by decide) (by decide) (by decide) (by decide) H.out.bx (show to15 20 fl3 1 0 2 = ((5, 2), [2, 4], 0, fl4) from by decide +kernel)).mono ?_
  rintro e w5 ⟨v9, rfl, h1⟩
  clear ba0 ba1 bas
  clear H
  obtain ⟨a9, c9, rfl, _⟩ := row_ints (ks := [2, 4]) h1
  have H := hid h1.swap
  clear h1
  have hk := Hd.nthk 3 H.out rfl
  have ba0 := (cell_of_heap hk 0).trans (show _ = some (.int .i64 1) from rfl)
  have ba1 := (cell_of_heap hk 1).trans (show _ = some (.int .i64 0) from rfl)
  have bas := (Array.getElem?_eq_some_iff.1 hk).1
  clear hk
  have hk := Hd.nthk 2 H.out rfl
  have bb0 := (cell_of_heap hk 0).trans (show _ = some (.int .i64 3) from rfl)
  have bb1 := (cell_of_heap hk 1).trans (show _ = some (.int .i64 1) from rfl)
  have bbs := (Array.getElem?_eq_some_iff.1 hk).1
  clear hk
  go_wp2_with fail
  refine (to_calls 3 1 0 (by decide) (by decide) (by decide) (by decide) H.out.bx (show to15 20 fl4 3 1 0 = ((0, 0), [], 12, fl4) from by decide +kernel)).mono ?_
  rintro e w6 ⟨v12, rfl, h1⟩
  clear ba0 ba1 bas bb0 bb1 bbs
  clear H
  have H := hid h1.drop
  clear h1
  have hk := Hd.nthk 4 H.out rfl
  have ba0 := (cell_of_heap hk 0).trans (show _ = some (.int .i64 1) from rfl)
  have ba1 := (cell_of_heap hk 1).trans (show _ = some (.int .i64 0) from rfl)
  have bas := (Array.getElem?_eq_some_iff.1 hk).1
  clear hk
  have hk := Hd.nthk 3 H.out rfl
  have bb0 := (cell_of_heap hk 0).trans (show _ = some (.int .i64 3) from rfl)
  have bb1 := (cell_of_heap hk 1).trans (show _ = some (.int .i64 1) from rfl)
  have bbs := (Array.getElem?_eq_some_iff.1 hk).1
  clear hk
  go_wp2_with fail
  refine (to_calls 1 0 5 (by decide) (by decide) (by decide) (by decide) H.out.bx (show to15 20 fl4 1 0 5 = ((0, 0), [], 13, fl4) from by decide +kernel)).mono ?_
  rintro e w7 ⟨v15, rfl, h1⟩
  clear ba0 ba1 bas bb0 bb1 bbs
  clear H
  have H := hid h1.drop
  clear h1
  have hk := Hd.nthk 5 H.out rfl
  have ba0 := (cell_of_heap hk 0).trans (show _ = some (.int .i64 1) from rfl)
  have ba1 := (cell_of_heap hk 1).trans (show _ = some (.int .i64 0) from rfl)
  have bas := (Array.getElem?_eq_some_iff.1 hk).1
  clear hk
  go_wp2_with fail
  refine (to_calls 1 0 0 (by decide) (by decide) (by decide) (by decide) H.out.bx (show to15 20 fl4 1 0 0 = ((1, 0), [], 0, fl4) from by decide +kernel)).mono ?_
  rintro e w8 ⟨v18, rfl, h1⟩
  clear ba0 ba1 bas
  clear H
  obtain ⟨a18, c18, rfl, _⟩ := row_ints (ks := []) h1
  have H := hid h1.drop
  clear h1
  have hk := Hd.nthk 6 H.out rfl
  have ba0 := (cell_of_heap hk 0).trans (show _ = some (.int .i64 1) from rfl)
  have ba1 := (cell_of_heap hk 1).trans (show _ = some (.int .i64 0) from rfl)
  have bas := (Array.getElem?_eq_some_iff.1 hk).1
  clear hk
  go_wp2_with fail
  refine (next15_calls 1 1000 (show next15 20 fl4 1 1000 = ((0, 0), 13, fl4) from by decide +kernel) H.out.bx).mono ?_
  rintro e w9 ⟨rfl, h1⟩
  clear ba0 ba1 bas
  clear H
  have H := hid h1
  clear h1
  have hk := Hd.nthk 7 H.out rfl
  have ba0 := (cell_of_heap hk 0).trans (show _ = some (.int .i64 1) from rfl)
  have ba1 := (cell_of_heap hk 1).trans (show _ = some (.int .i64 0) from rfl)
  have bas := (Array.getElem?_eq_some_iff.1 hk).1
  clear hk
  go_wp2_with fail
  refine (seal15_calls 99 0 (show put 20 fl4 (keyT 99 1) = (0, 1, fl4) from by decide +kernel) H.out.bx).mono ?_
  rintro e w10 ⟨rfl, h1⟩
  clear ba0 ba1 bas
  clear H
  have H := hid h1
  clear h1
  have q1 := eqt_Ch 3 1
  have q2 := eqt_Ch 5 2
  have q3 := eqt_Ch 1 0
  have hk := Hd.nthk 8 H.out rfl
  have ba0 := (cell_of_heap hk 0).trans (show _ = some (.int .i64 1) from rfl)
  have ba1 := (cell_of_heap hk 1).trans (show _ = some (.int .i64 0) from rfl)
  have bas := (Array.getElem?_eq_some_iff.1 hk).1
  clear hk
  have hk := Hd.nthk 7 H.out rfl
  have bb0 := (cell_of_heap hk 0).trans (show _ = some (.int .i64 3) from rfl)
  have bb1 := (cell_of_heap hk 1).trans (show _ = some (.int .i64 1) from rfl)
  have bbs := (Array.getElem?_eq_some_iff.1 hk).1
  clear hk
  have hk := Hd.nthk 5 H.out rfl
  have bc0 := (cell_of_heap hk 0).trans (show _ = some (.int .i64 5) from rfl)
  have bc1 := (cell_of_heap hk 1).trans (show _ = some (.int .i64 2) from rfl)
  have bcs := (Array.getElem?_eq_some_iff.1 hk).1
  clear hk
  have hk := Hd.nthk 2 H.out rfl
  have bf0 := (cell_of_heap hk 0).trans (show _ = some (.int .i64 1) from rfl)
  have bf1 := (cell_of_heap hk 1).trans (show _ = some (.int .i64 0) from rfl)
  have bfs := (Array.getElem?_eq_some_iff.1 hk).1
  clear hk
  go_wp2_with fail
  obtain ⟨a9', c9', ea, hi⟩ := row_ints (ks := [2, 4]) (H.out.front 6 rfl)
  simp only [Value.slice.injEq] at ea
  obtain ⟨rfl, _, rfl⟩ := ea
  refine (same_calls (xs := [2, 4]) (ys := [2, 4]) (hi.later ((Below.refl _ _).alloc (Nat.le_refl _) _)) (.inr ⟨w10.heap.size, 0, rfl, fun j hj => ?_⟩) rfl rfl (by decide) (by decide)).mono ?_
  · have hj2 : j = 0 ∨ j = 1 := by simp at hj; omega
    have hk := heap_alloc_new w10 (.cells #[.int .i64 2, .int .i64 4] 3 (0, 0))
    rcases hj2 with rfl | rfl
    · exact cell_of_heap hk 0
    · exact cell_of_heap hk 1
  rintro e w11 ⟨he, hb⟩
  obtain rfl : e = .returned (.bool true) := he
  have H2 := hid (H.out.al.still hb)
  clear ba0 ba1 bas bb0 bb1 bbs bc0 bc1 bcs bf0 bf1 bfs
  clear H hb hi
  have H := H2
  clear H2
  have hk := Hd.nthk 8 H.out rfl
  have ba0 := (cell_of_heap hk 0).trans (show _ = some (.int .i64 1) from rfl)
  have ba1 := (cell_of_heap hk 1).trans (show _ = some (.int .i64 0) from rfl)
  have bas := (Array.getElem?_eq_some_iff.1 hk).1
  clear hk
  have hk := Hd.nthk 2 H.out rfl
  have bf0 := (cell_of_heap hk 0).trans (show _ = some (.int .i64 1) from rfl)
  have bf1 := (cell_of_heap hk 1).trans (show _ = some (.int .i64 0) from rfl)
  have bfs := (Array.getElem?_eq_some_iff.1 hk).1
  clear hk
  go_wp2_with fail
  go_ret
  exact ⟨rfl, (Hd.rear (Ss := [_, _, _, _, _, _, _, _, _]) H.out)⟩
end Go.Proofs.Ytpcfmafokkffgaa
