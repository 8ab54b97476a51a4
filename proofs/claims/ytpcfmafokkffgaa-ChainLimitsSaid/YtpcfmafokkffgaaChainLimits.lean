/-
  ChainLimits returns true, and writes nothing that was there. For every input.
-/
import Derived.Test.YtpcfmafokkffgaaFixCh
import Derived.Test.YtpcfmafokkffgaaArgsC
namespace Go.Proofs.Ytpcfmafokkffgaa
open Go.RowKit

theorem next15_bad {m : Int} {L : List T} {k e : Int} (h : e < 0 ∨ 1000 ≤ e) : next15 m L k e = ((0, 0), 13, L) := by
  unfold next15
  rw [if_pos h]
theorem to15_self {m : Int} {L : List T} {k e : Int} : to15 m L k e e = ((k, e), [], 0, L) := by
  unfold to15
  rw [if_neg (by omega), if_neg (by omega), show (e - e).toNat = 0 by omega]
  rfl
theorem to15_far {m : Int} {L : List T} {k e x : Int} (h : 4 < x - e) : to15 m L k e x = ((0, 0), [], 13, L) := by
  unfold to15
  rw [if_neg (by omega), if_pos h]
theorem to15_was {m : Int} {L : List T} {k e x : Int} (h : x < e) : to15 m L k e x = ((0, 0), [], 12, L) := by
  unfold to15
  rw [if_pos h]
def cl1 : List T := (put 100 [] ⟨2, ⟨#[]⟩, 1, 0, 0, 0⟩).2.2
def cl2 : List T := (next15 100 cl1 1 0).2.2
theorem next15_limits {e : Int} (h0 : 0 ≤ e) (h1 : e < 1000) : next15 100 cl1 1 e = ((2, e + 1), 0, cl2) := by
  have h : next15 100 cl1 1 0 = ((2, 1), 0, cl2) := by decide +kernel
  unfold next15 at h ⊢
  rw [if_neg (by omega)] at h ⊢
  split at h
  · rename_i hp
    rw [if_pos hp]
    simp only [Prod.mk.injEq] at h ⊢
    exact ⟨⟨h.1.1, trivial⟩, trivial, h.2.2⟩
  · simp at h

set_option maxRecDepth 100000 in
set_option maxHeartbeats 8000000 in
theorem chainLimits_walk (x0 : Int) (b0 : -9223372036854775808 ≤ x0) (b0' : x0 ≤ 9223372036854775807) (x1 : Int) (b1 : 0 ≤ x1) (b1' : x1 ≤ 255) (W : World) :
    Calls Try.prog 4 #[.int .i64 x0, .int .u8 x1] W fun e w' => e = .returned (.bool true) ∧ Below W.heap.size W w' := by
  have H := hid (Hd.refl W)
  have q0 := eqt_Ch 0 0
  have hl1 : cl1.length = 1 := by decide +kernel
  have hl2 : cl2.length = 2 := by decide +kernel
  have HL1 := hid hl1
  have HL2 := hid hl2
  clear hl1 hl2
  have X0 := hid b0
  have X0' := hid b0'
  have X1 := hid b1
  have X1' := hid b1'
  clear b0 b0' b1 b1' 
  rcases (show x0 < 0 ∨ 1000 ≤ x0 ∨ (0 ≤ x0 ∧ x0 < 1000) by omega) with hx | hx | hx
  · have HB : Hid (x0 < 0 ∨ 1000 ≤ x0) := hid (.inl hx)
    have d1 : decide (x0 < 0) = true := by simpa using hx
    clear hx
    go_enter Try.func4, Try.ntmps4
    go_wp2_with fail
    refine (new_calls H.out (by decide) (by decide)).mono ?_
    rintro e w1 ⟨b, rfl, h1⟩
    clear H
    have H := hid h1
    clear h1
    go_wp2_with fail
    refine (put_calls _ _ _ _ _ _ H.out).mono ?_
    rintro e w2 ⟨rfl, h1⟩
    clear H
    have H := hid (show Hd W w2 (Sto b cl1 100 :: []) from h1)
    clear h1
    generalize (put 100 [] ⟨2, ⟨#[]⟩, 1, 0, 0, 0⟩) = rr
    go_wp2_with fail
    refine (next15_calls 1 x0 (next15_bad HB.out) H.out.bx).mono ?_
    rintro e w3 ⟨rfl, h1⟩
    clear H
    have H := hid h1
    clear h1
    go_wp2_with fail
    obtain ⟨lb, db, mb, lc, dc, hat⟩ := H.out.bx.sto
    refine (len_calls' hat).mono ?_
    rintro e w4 ⟨rfl, rfl⟩
    rw [HL1.out]
    clear hat
    go_wp2_with fail
    refine (fixed15_calls H.out.bx).mono ?_
    rintro e w5 ⟨rfl, h1⟩
    clear H
    have H := hid h1
    clear h1
    go_wp2_with fail
    go_ret
    exact ⟨rfl, H.out.below⟩
  · have HB : Hid (x0 < 0 ∨ 1000 ≤ x0) := hid (.inr hx)
    have d1 : decide (x0 < 0) = false := by simp; omega
    have d2 : decide (1000 ≤ x0) = true := by simpa using hx
    clear hx
    go_enter Try.func4, Try.ntmps4
    go_wp2_with fail
    refine (new_calls H.out (by decide) (by decide)).mono ?_
    rintro e w1 ⟨b, rfl, h1⟩
    clear H
    have H := hid h1
    clear h1
    go_wp2_with fail
    refine (put_calls _ _ _ _ _ _ H.out).mono ?_
    rintro e w2 ⟨rfl, h1⟩
    clear H
    have H := hid (show Hd W w2 (Sto b cl1 100 :: []) from h1)
    clear h1
    generalize (put 100 [] ⟨2, ⟨#[]⟩, 1, 0, 0, 0⟩) = rr
    go_wp2_with fail
    refine (next15_calls 1 x0 (next15_bad HB.out) H.out.bx).mono ?_
    rintro e w3 ⟨rfl, h1⟩
    clear H
    have H := hid h1
    clear h1
    go_wp2_with fail
    obtain ⟨lb, db, mb, lc, dc, hat⟩ := H.out.bx.sto
    refine (len_calls' hat).mono ?_
    rintro e w4 ⟨rfl, rfl⟩
    rw [HL1.out]
    clear hat
    go_wp2_with fail
    refine (fixed15_calls H.out.bx).mono ?_
    rintro e w5 ⟨rfl, h1⟩
    clear H
    have H := hid h1
    clear h1
    go_wp2_with fail
    go_ret
    exact ⟨rfl, H.out.below⟩
  · have d1 : decide (x0 < 0) = false := by simp; omega
    have d2 : decide (1000 ≤ x0) = false := by simp; omega
    have z1 : IntKind.i64.wrap (x0 + 5) = x0 + 5 := IntWalk.i64_in _ (by omega)
    have z2 : IntKind.i64.wrap (x0 + 5 + x1) = x0 + 5 + x1 := IntWalk.i64_in _ (by have := X1.out; have := X1'.out; omega)
    have z3 : IntKind.i64.wrap (x0 - 1) = x0 - 1 := IntWalk.i64_in _ (by omega)
    have z4 : IntKind.i64.wrap (x0 - 1 - x1) = x0 - 1 - x1 := IntWalk.i64_in _ (by have := X1.out; have := X1'.out; omega)
    have z5 : IntKind.i64.wrap (x0 + 1) = x0 + 1 := IntWalk.i64_in _ (by omega)
    have z6 : IntKind.i64.wrap x1 = x1 := IntWalk.i64_in _ (by have := X1.out; have := X1'.out; omega)
    have q3 := eqt_Ch 1 x0
    have HX := hid hx
    clear hx
    go_enter Try.func4, Try.ntmps4
    go_wp2_with fail
    refine (new_calls H.out (by decide) (by decide)).mono ?_
    rintro e w1 ⟨b, rfl, h1⟩
    clear H
    have H := hid h1
    clear h1
    go_wp2_with fail
    refine (put_calls _ _ _ _ _ _ H.out).mono ?_
    rintro e w2 ⟨rfl, h1⟩
    clear H
    have H := hid (show Hd W w2 (Sto b cl1 100 :: []) from h1)
    clear h1
    generalize (put 100 [] ⟨2, ⟨#[]⟩, 1, 0, 0, 0⟩) = rr
    go_wp2_with fail
    refine (next15_calls 1 x0 (next15_limits HX.out.1 HX.out.2) H.out.bx).mono ?_
    rintro e w3 ⟨rfl, h1⟩
    clear H
    have H := hid h1
    clear h1
    have hk := Hd.nthk 1 H.out rfl
    have ba0 := (cell_of_heap hk 0).trans (show _ = some (.int .i64 (1)) from rfl)
    have ba1 := (cell_of_heap hk 1).trans (show _ = some (.int .i64 (x0)) from rfl)
    have bas := (Array.getElem?_eq_some_iff.1 hk).1
    clear hk
    go_wp2_with fail
    obtain ⟨lb, db, mb, lc, dc, hat⟩ := H.out.bx.sto
    refine (len_calls' hat).mono ?_
    rintro e w4 ⟨rfl, rfl⟩
    rw [HL2.out]
    clear hat
    go_wp2_with fail
    refine (to_calls 1 x0 (x0 + 5 + x1) (by have := HX.out; have := X1.out; have := X1'.out; omega) (by have := HX.out; have := X1.out; have := X1'.out; omega) (by have := HX.out; have := X1.out; have := X1'.out; omega) (by have := HX.out; have := X1.out; have := X1'.out; omega) H.out.bx (to15_far (by have := HX.out; have := X1.out; have := X1'.out; omega))).mono ?_
    rintro e w5 ⟨v12, rfl, h1⟩
    clear H
    clear ba0 ba1 bas
    obtain ⟨a12, c12, rfl, _⟩ := row_ints (ks := []) h1
    have H := hid h1.drop
    clear h1
    have hk := Hd.nthk 2 H.out rfl
    have ba0 := (cell_of_heap hk 0).trans (show _ = some (.int .i64 (1)) from rfl)
    have ba1 := (cell_of_heap hk 1).trans (show _ = some (.int .i64 (x0)) from rfl)
    have bas := (Array.getElem?_eq_some_iff.1 hk).1
    clear hk
    go_wp2_with fail
    refine (to_calls 1 x0 (x0 - 1 - x1) (by have := HX.out; have := X1.out; have := X1'.out; omega) (by have := HX.out; have := X1.out; have := X1'.out; omega) (by have := HX.out; have := X1.out; have := X1'.out; omega) (by have := HX.out; have := X1.out; have := X1'.out; omega) H.out.bx (to15_was (by have := HX.out; have := X1.out; have := X1'.out; omega))).mono ?_
    rintro e w6 ⟨v15, rfl, h1⟩
    clear H
    clear ba0 ba1 bas
    obtain ⟨a15, c15, rfl, _⟩ := row_ints (ks := []) h1
    have H := hid h1.drop
    clear h1
    have hk := Hd.nthk 3 H.out rfl
    have ba0 := (cell_of_heap hk 0).trans (show _ = some (.int .i64 (1)) from rfl)
    have ba1 := (cell_of_heap hk 1).trans (show _ = some (.int .i64 (x0)) from rfl)
    have bas := (Array.getElem?_eq_some_iff.1 hk).1
    clear hk
    go_wp2_with fail
    refine (to_calls 1 x0 x0 (by have := HX.out; have := X1.out; have := X1'.out; omega) (by have := HX.out; have := X1.out; have := X1'.out; omega) (by have := HX.out; have := X1.out; have := X1'.out; omega) (by have := HX.out; have := X1.out; have := X1'.out; omega) H.out.bx to15_self).mono ?_
    rintro e w7 ⟨v18, rfl, h1⟩
    clear H
    clear ba0 ba1 bas
    obtain ⟨a18, c18, rfl, _⟩ := row_ints (ks := []) h1
    have H := hid h1.drop
    clear h1
    have hk := Hd.nthk 4 H.out rfl
    have ba0 := (cell_of_heap hk 0).trans (show _ = some (.int .i64 (1)) from rfl)
    have ba1 := (cell_of_heap hk 1).trans (show _ = some (.int .i64 (x0)) from rfl)
    have bas := (Array.getElem?_eq_some_iff.1 hk).1
    clear hk
    have hk := Hd.nthk 3 H.out rfl
    have bb0 := (cell_of_heap hk 0).trans (show _ = some (.int .i64 (2)) from rfl)
    have bb1 := (cell_of_heap hk 1).trans (show _ = some (.int .i64 (x0 + 1)) from rfl)
    have bbs := (Array.getElem?_eq_some_iff.1 hk).1
    clear hk
    have hk := Hd.nthk 2 H.out rfl
    have bd0 := (cell_of_heap hk 0).trans (show _ = some (.int .i64 (0)) from rfl)
    have bd1 := (cell_of_heap hk 1).trans (show _ = some (.int .i64 (0)) from rfl)
    have bds := (Array.getElem?_eq_some_iff.1 hk).1
    clear hk
    have hk := Hd.nthk 1 H.out rfl
    have be0 := (cell_of_heap hk 0).trans (show _ = some (.int .i64 (0)) from rfl)
    have be1 := (cell_of_heap hk 1).trans (show _ = some (.int .i64 (0)) from rfl)
    have bes := (Array.getElem?_eq_some_iff.1 hk).1
    clear hk
    go_wp2_with fail
    obtain ⟨lb, db, mb, lc, dc, hat⟩ := H.out.bx.sto
    refine (len_calls' hat).mono ?_
    rintro e w8 ⟨rfl, rfl⟩
    rw [HL2.out]
    clear hat
    go_wp2_with fail
    refine (fixed15_calls H.out.bx).mono ?_
    rintro e w9 ⟨rfl, h1⟩
    clear H
    have H := hid h1
    clear ba0 ba1 bas bb0 bb1 bbs bd0 bd1 bds be0 be1 bes
    clear h1
    go_wp2_with fail
    go_ret
    exact ⟨rfl, H.out.below⟩
end Go.Proofs.Ytpcfmafokkffgaa
