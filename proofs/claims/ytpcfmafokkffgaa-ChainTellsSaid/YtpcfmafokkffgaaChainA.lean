/-
  Walks through layer 15, both sides: Seal and Next. For every store and every chain.
-/
import Derived.Test.YtpcfmafokkffgaaKdf
import Derived.Test.YtpcfmafokkffgaaRKdf
import Derived.Test.YtpcfmafokkffgaaHd3
namespace Go.Proofs.Ytpcfmafokkffgaa
open Go.RowKit

def next15 (m : Int) (L : List T) (k e : Int) : (Int × Int) × Int × List T :=
  if e < 0 ∨ 1000 ≤ e then ((0, 0), 13, L)
  else if (put m L (keyT k 2)).2.1 = 0 then (((put m L (keyT k 2)).1, e + 1), 0, (put m L (keyT k 2)).2.2) else ((0, 0), (put m L (keyT k 2)).2.1, (put m L (keyT k 2)).2.2)

section
variable {W w : World} {Rs : List Res} {b : Nat} {L L2 : List T} {m r1 r2 : Int}

set_option maxRecDepth 100000 in
set_option maxHeartbeats 1000000 in
theorem seal15_calls (k e : Int) (hq : put m L (keyT k 1) = (r1, r2, L2)) (h : Hd W w (Sto b L m :: Rs)) :
    Calls Try.prog 21 #[.agg #[.int .i64 k, .int .i64 e], .pointer (some ⟨b, 0, none⟩)] w fun e w' => e = .returned (.tuple #[.int .i64 r1, .int .i64 r2]) ∧ Hd W w' (Sto b L2 m :: Rs) := by
  have Hq := hid hq
  have H := hid h
  clear hq h
  go_enter Try.func21, Try.ntmps21
  go_wp2_with fail
  refine (derive_c k 1 Hq (by first | exact H.out | exact H.out.al | exact H.out.al.al)).mono ?_
  rintro e w1 ⟨rfl, h1⟩
  replace H := hid h1
  clear h1
  go_wp2_with fail
  go_ret2
  exact ⟨rfl, H.out⟩

set_option maxRecDepth 100000 in
set_option maxHeartbeats 1000000 in
theorem rseal15_calls (k e : Int) (hq : put m L (keyT k 1) = (r1, r2, L2)) (h : Hd W w (RSto b L m :: Rs)) :
    Calls Try.prog 27 #[.pointer (some ⟨b, 0, none⟩), .agg #[.int .i64 k, .int .i64 e]] w fun e w' => e = .returned (.tuple #[.int .i64 r1, .int .i64 r2]) ∧ Hd W w' (RSto b L2 m :: Rs) := by
  have Hq := hid hq
  have H := hid h
  clear hq h
  go_enter Try.func27, Try.ntmps27
  go_wp2_with fail
  refine (rderive_c k 1 Hq (by first | exact H.out | exact H.out.al | exact H.out.al.al)).mono ?_
  rintro e w1 ⟨rfl, h1⟩
  replace H := hid h1
  clear h1
  go_wp2_with fail
  go_ret2
  exact ⟨rfl, H.out⟩


set_option maxRecDepth 100000 in
set_option maxHeartbeats 4000000 in
theorem next15_calls (k e : Int) {dk de : Int} (hq : next15 m L k e = ((dk, de), r2, L2)) (h : Hd W w (Sto b L m :: Rs)) :
    Calls Try.prog 22 #[.agg #[.int .i64 k, .int .i64 e], .pointer (some ⟨b, 0, none⟩)] w fun e' w' => e' = .returned (.tuple #[.agg #[.int .i64 dk, .int .i64 de], .int .i64 r2]) ∧ Hd W w' (Sto b L2 m :: Rs) := by
  have H := hid (((h.boxk (o := .cells #[.int .i64 k, .int .i64 e] 32 (0, 0)) w.heap.size rfl).boxk (o := .cells #[.int .i64 0, .int .i64 0] 32 (0, 0)) (w.heap.size + 1) (by simp)).front 2 rfl)
  clear h
  unfold next15 at hq
  by_cases he : e < 0 ∨ 1000 ≤ e
  · rw [if_pos he] at hq
    simp only [Prod.mk.injEq] at hq
    obtain ⟨⟨rfl, rfl⟩, rfl, rfl⟩ := hq
    rcases (show e < 0 ∨ (¬ e < 0 ∧ 1000 ≤ e) by omega) with he | ⟨he1, he⟩
    · have d1 : decide (e < 0) = true := by simpa using he
      clear he
      obtain ⟨wo, hwo⟩ : ∃ wo, (w.alloc (.cells #[.int .i64 k, .int .i64 e] 32 (0, 0))).alloc (.cells #[.int .i64 0, .int .i64 0] 32 (0, 0)) = wo := ⟨_, rfl⟩
      rw [hwo] at H
      have hk := Hd.nthk 2 H.out rfl
      have c0 := (cell_of_heap hk 0).trans (show _ = some (.int .i64 k) from rfl)
      have c1 := (cell_of_heap hk 1).trans (show _ = some (.int .i64 e) from rfl)
      have cs := (Array.getElem?_eq_some_iff.1 hk).1
      clear hk
      have hk := Hd.nthk 1 H.out rfl
      have q0 := (cell_of_heap hk 0).trans (show _ = some (.int .i64 0) from rfl)
      have q1 := (cell_of_heap hk 1).trans (show _ = some (.int .i64 0) from rfl)
      have qs := (Array.getElem?_eq_some_iff.1 hk).1
      have qf := frozen_of_heap hk
      clear hk
      go_enter Try.func22, Try.ntmps22
      go_wp2_with fail
      refine bodyPost_ret (v := .tuple #[.agg #[.int .i64 0, .int .i64 0], .int .i64 13]) (by simp [results, Try.results22, go_sem, q0, q1]) rfl ⟨rfl, ?_⟩
      exact ((((H.out.front 1 rfl).set 0 (.int .i64 0)).set 1 (.int .i64 0)).drop).un2
    · have d1 : decide (e < 0) = false := by simpa using he1
      have d2 : decide (1000 ≤ e) = true := by simp; omega
      clear he he1
      obtain ⟨wo, hwo⟩ : ∃ wo, (w.alloc (.cells #[.int .i64 k, .int .i64 e] 32 (0, 0))).alloc (.cells #[.int .i64 0, .int .i64 0] 32 (0, 0)) = wo := ⟨_, rfl⟩
      rw [hwo] at H
      have hk := Hd.nthk 2 H.out rfl
      have c0 := (cell_of_heap hk 0).trans (show _ = some (.int .i64 k) from rfl)
      have c1 := (cell_of_heap hk 1).trans (show _ = some (.int .i64 e) from rfl)
      have cs := (Array.getElem?_eq_some_iff.1 hk).1
      clear hk
      have hk := Hd.nthk 1 H.out rfl
      have q0 := (cell_of_heap hk 0).trans (show _ = some (.int .i64 0) from rfl)
      have q1 := (cell_of_heap hk 1).trans (show _ = some (.int .i64 0) from rfl)
      have qs := (Array.getElem?_eq_some_iff.1 hk).1
      have qf := frozen_of_heap hk
      clear hk
      go_enter Try.func22, Try.ntmps22
      go_wp2_with fail
      refine bodyPost_ret (v := .tuple #[.agg #[.int .i64 0, .int .i64 0], .int .i64 13]) (by simp [results, Try.results22, go_sem, q0, q1]) rfl ⟨rfl, ?_⟩
      exact ((((H.out.front 1 rfl).set 0 (.int .i64 0)).set 1 (.int .i64 0)).drop).un2
  · rw [if_neg he] at hq
    have d1 : decide (e < 0) = false := by simp; omega
    have d2 : decide (1000 ≤ e) = false := by simp; omega
    have z1 : 0 ≤ e := by omega
    have z2 : e ≤ 1000 := by omega
    obtain ⟨p1, p2, L3, hp⟩ : ∃ p1 p2 L3, put m L (keyT k 2) = (p1, p2, L3) := ⟨_, _, _, rfl⟩
    rw [hp] at hq
    have HP := hid hp
    clear hp he
    go_enter Try.func22, Try.ntmps22
    go_wp2_with fail
    refine (derive_c k 2 HP H.out).mono ?_
    rintro e2 w1 ⟨rfl, h1⟩
    replace H := hid h1
    clear h1
    by_cases hz : p2 = 0
    · subst hz
      rw [if_pos rfl] at hq
      simp only [Prod.mk.injEq] at hq
      obtain ⟨⟨rfl, rfl⟩, rfl, rfl⟩ := hq
      have hk := Hd.nthk 2 H.out rfl
      have c0 := (cell_of_heap hk 0).trans (show _ = some (.int .i64 k) from rfl)
      have c1 := (cell_of_heap hk 1).trans (show _ = some (.int .i64 e) from rfl)
      have cs := (Array.getElem?_eq_some_iff.1 hk).1
      clear hk
      have hk := Hd.nthk 1 H.out rfl
      have q0 := (cell_of_heap hk 0).trans (show _ = some (.int .i64 0) from rfl)
      have q1 := (cell_of_heap hk 1).trans (show _ = some (.int .i64 0) from rfl)
      have qs := (Array.getElem?_eq_some_iff.1 hk).1
      have qf := frozen_of_heap hk
      clear hk
      go_wp2_with fail
      refine bodyPost_ret (v := .tuple #[.agg #[.int .i64 p1, .int .i64 (e + 1)], .int .i64 0]) (by simp [results, Try.results22, go_sem, q0, q1]) rfl ⟨rfl, ?_⟩
      exact ((((H.out.front 1 rfl).set 0 (.int .i64 p1)).set 1 (.int .i64 (e + 1))).drop).un2
    · have dz : (p2 != 0) = true := by rw [bne_iff_ne]; exact hz
      rw [if_neg hz] at hq
      simp only [Prod.mk.injEq] at hq
      obtain ⟨⟨rfl, rfl⟩, rfl, rfl⟩ := hq
      have dz2 : decide (p2 = 0) = false := by simpa using hz
      clear hz
      have hk := Hd.nthk 2 H.out rfl
      have c0 := (cell_of_heap hk 0).trans (show _ = some (.int .i64 k) from rfl)
      have c1 := (cell_of_heap hk 1).trans (show _ = some (.int .i64 e) from rfl)
      have cs := (Array.getElem?_eq_some_iff.1 hk).1
      clear hk
      have hk := Hd.nthk 1 H.out rfl
      have q0 := (cell_of_heap hk 0).trans (show _ = some (.int .i64 0) from rfl)
      have q1 := (cell_of_heap hk 1).trans (show _ = some (.int .i64 0) from rfl)
      have qs := (Array.getElem?_eq_some_iff.1 hk).1
      have qf := frozen_of_heap hk
      clear hk
      go_wp2_with fail
      refine bodyPost_ret (v := .tuple #[.agg #[.int .i64 0, .int .i64 0], .int .i64 p2]) (by simp [results, Try.results22, go_sem, q0, q1]) rfl ⟨rfl, ?_⟩
      exact ((((H.out.front 1 rfl).set 0 (.int .i64 0)).set 1 (.int .i64 0)).drop).un2

set_option maxRecDepth 100000 in
set_option maxHeartbeats 4000000 in
theorem rnext15_calls (k e : Int) {dk de : Int} (hq : next15 m L k e = ((dk, de), r2, L2)) (h : Hd W w (RSto b L m :: Rs)) :
    Calls Try.prog 29 #[.pointer (some ⟨b, 0, none⟩), .agg #[.int .i64 k, .int .i64 e]] w fun e' w' => e' = .returned (.tuple #[.agg #[.int .i64 dk, .int .i64 de], .int .i64 r2]) ∧ Hd W w' (RSto b L2 m :: Rs) := by
  have H := hid (((h.boxk (o := .cells #[.int .i64 k, .int .i64 e] 57 (0, 0)) w.heap.size rfl).boxk (o := .cells #[.int .i64 0, .int .i64 0] 57 (0, 0)) (w.heap.size + 1) (by simp)).front 2 rfl)
  clear h
  unfold next15 at hq
  by_cases he : e < 0 ∨ 1000 ≤ e
  · rw [if_pos he] at hq
    simp only [Prod.mk.injEq] at hq
    obtain ⟨⟨rfl, rfl⟩, rfl, rfl⟩ := hq
    rcases (show e < 0 ∨ (¬ e < 0 ∧ 1000 ≤ e) by omega) with he | ⟨he1, he⟩
    · have d1 : decide (e < 0) = true := by simpa using he
      clear he
      obtain ⟨wo, hwo⟩ : ∃ wo, (w.alloc (.cells #[.int .i64 k, .int .i64 e] 57 (0, 0))).alloc (.cells #[.int .i64 0, .int .i64 0] 57 (0, 0)) = wo := ⟨_, rfl⟩
      rw [hwo] at H
      have hk := Hd.nthk 2 H.out rfl
      have c0 := (cell_of_heap hk 0).trans (show _ = some (.int .i64 k) from rfl)
      have c1 := (cell_of_heap hk 1).trans (show _ = some (.int .i64 e) from rfl)
      have cs := (Array.getElem?_eq_some_iff.1 hk).1
      clear hk
      have hk := Hd.nthk 1 H.out rfl
      have q0 := (cell_of_heap hk 0).trans (show _ = some (.int .i64 0) from rfl)
      have q1 := (cell_of_heap hk 1).trans (show _ = some (.int .i64 0) from rfl)
      have qs := (Array.getElem?_eq_some_iff.1 hk).1
      have qf := frozen_of_heap hk
      clear hk
      go_enter Try.func29, Try.ntmps29
      go_wp2_with fail
      refine bodyPost_ret (v := .tuple #[.agg #[.int .i64 0, .int .i64 0], .int .i64 13]) (by simp [results, Try.results29, go_sem, q0, q1]) rfl ⟨rfl, ?_⟩
      exact ((((H.out.front 1 rfl).set 0 (.int .i64 0)).set 1 (.int .i64 0)).drop).un2
    · have d1 : decide (e < 0) = false := by simpa using he1
      have d2 : decide (999 < e) = true := by simp; omega
      clear he he1
      obtain ⟨wo, hwo⟩ : ∃ wo, (w.alloc (.cells #[.int .i64 k, .int .i64 e] 57 (0, 0))).alloc (.cells #[.int .i64 0, .int .i64 0] 57 (0, 0)) = wo := ⟨_, rfl⟩
      rw [hwo] at H
      have hk := Hd.nthk 2 H.out rfl
      have c0 := (cell_of_heap hk 0).trans (show _ = some (.int .i64 k) from rfl)
      have c1 := (cell_of_heap hk 1).trans (show _ = some (.int .i64 e) from rfl)
      have cs := (Array.getElem?_eq_some_iff.1 hk).1
      clear hk
      have hk := Hd.nthk 1 H.out rfl
      have q0 := (cell_of_heap hk 0).trans (show _ = some (.int .i64 0) from rfl)
      have q1 := (cell_of_heap hk 1).trans (show _ = some (.int .i64 0) from rfl)
      have qs := (Array.getElem?_eq_some_iff.1 hk).1
      have qf := frozen_of_heap hk
      clear hk
      go_enter Try.func29, Try.ntmps29
      go_wp2_with fail
      refine bodyPost_ret (v := .tuple #[.agg #[.int .i64 0, .int .i64 0], .int .i64 13]) (by simp [results, Try.results29, go_sem, q0, q1]) rfl ⟨rfl, ?_⟩
      exact ((((H.out.front 1 rfl).set 0 (.int .i64 0)).set 1 (.int .i64 0)).drop).un2
  · rw [if_neg he] at hq
    have d1 : decide (e < 0) = false := by simp; omega
    have d2 : decide (999 < e) = false := by simp; omega
    have z1 : 0 ≤ e := by omega
    have z2 : e ≤ 1000 := by omega
    obtain ⟨p1, p2, L3, hp⟩ : ∃ p1 p2 L3, put m L (keyT k 2) = (p1, p2, L3) := ⟨_, _, _, rfl⟩
    rw [hp] at hq
    have HP := hid hp
    clear hp he
    go_enter Try.func29, Try.ntmps29
    go_wp2_with fail
    refine (rderive_c k 2 HP H.out).mono ?_
    rintro e2 w1 ⟨rfl, h1⟩
    replace H := hid h1
    clear h1
    by_cases hz : p2 = 0
    · subst hz
      rw [if_pos rfl] at hq
      simp only [Prod.mk.injEq] at hq
      obtain ⟨⟨rfl, rfl⟩, rfl, rfl⟩ := hq
      have hk := Hd.nthk 2 H.out rfl
      have c0 := (cell_of_heap hk 0).trans (show _ = some (.int .i64 k) from rfl)
      have c1 := (cell_of_heap hk 1).trans (show _ = some (.int .i64 e) from rfl)
      have cs := (Array.getElem?_eq_some_iff.1 hk).1
      clear hk
      have hk := Hd.nthk 1 H.out rfl
      have q0 := (cell_of_heap hk 0).trans (show _ = some (.int .i64 0) from rfl)
      have q1 := (cell_of_heap hk 1).trans (show _ = some (.int .i64 0) from rfl)
      have qs := (Array.getElem?_eq_some_iff.1 hk).1
      have qf := frozen_of_heap hk
      clear hk
      go_wp2_with fail
      refine bodyPost_ret (v := .tuple #[.agg #[.int .i64 p1, .int .i64 (e + 1)], .int .i64 0]) (by simp [results, Try.results29, go_sem, q0, q1]) rfl ⟨rfl, ?_⟩
      exact ((((H.out.front 1 rfl).set 0 (.int .i64 p1)).set 1 (.int .i64 (e + 1))).drop).un2
    · have dz : (p2 != 0) = true := by rw [bne_iff_ne]; exact hz
      rw [if_neg hz] at hq
      simp only [Prod.mk.injEq] at hq
      obtain ⟨⟨rfl, rfl⟩, rfl, rfl⟩ := hq
      have dz2 : decide (p2 = 0) = false := by simpa using hz
      clear hz
      have hk := Hd.nthk 2 H.out rfl
      have c0 := (cell_of_heap hk 0).trans (show _ = some (.int .i64 k) from rfl)
      have c1 := (cell_of_heap hk 1).trans (show _ = some (.int .i64 e) from rfl)
      have cs := (Array.getElem?_eq_some_iff.1 hk).1
      clear hk
      have hk := Hd.nthk 1 H.out rfl
      have q0 := (cell_of_heap hk 0).trans (show _ = some (.int .i64 0) from rfl)
      have q1 := (cell_of_heap hk 1).trans (show _ = some (.int .i64 0) from rfl)
      have qs := (Array.getElem?_eq_some_iff.1 hk).1
      have qf := frozen_of_heap hk
      clear hk
      go_wp2_with fail
      refine bodyPost_ret (v := .tuple #[.agg #[.int .i64 0, .int .i64 0], .int .i64 p2]) (by simp [results, Try.results29, go_sem, q0, q1]) rfl ⟨rfl, ?_⟩
      exact ((((H.out.front 1 rfl).set 0 (.int .i64 0)).set 1 (.int .i64 0)).drop).un2

set_option maxRecDepth 100000 in
set_option maxHeartbeats 4000000 in
theorem ref15_calls (k e : Int) (w : World) :
    Calls Try.prog 28 #[.agg #[.int .i64 k, .int .i64 e]] w fun e' w' => e' = .returned (.agg #[.int .i64 k, .int .i64 e]) ∧ Below w.heap.size w w' := by
  have H := hid (((Hd.refl w).boxk (o := .cells #[.int .i64 k, .int .i64 e] 32 (0, 0)) w.heap.size rfl).boxk (o := .cells #[.int .i64 0, .int .i64 0] 57 (0, 0)) (w.heap.size + 1) (by simp))
  obtain ⟨wo, hwo⟩ : ∃ wo, (w.alloc (.cells #[.int .i64 k, .int .i64 e] 32 (0, 0))).alloc (.cells #[.int .i64 0, .int .i64 0] 57 (0, 0)) = wo := ⟨_, rfl⟩
  rw [hwo] at H
  have hk := Hd.nthk 1 H.out rfl
  have c0 := (cell_of_heap hk 0).trans (show _ = some (.int .i64 k) from rfl)
  have c1 := (cell_of_heap hk 1).trans (show _ = some (.int .i64 e) from rfl)
  have cs := (Array.getElem?_eq_some_iff.1 hk).1
  clear hk
  have hk := Hd.nthk 0 H.out rfl
  have q0 := (cell_of_heap hk 0).trans (show _ = some (.int .i64 0) from rfl)
  have q1 := (cell_of_heap hk 1).trans (show _ = some (.int .i64 0) from rfl)
  have qs := (Array.getElem?_eq_some_iff.1 hk).1
  have qf := frozen_of_heap hk
  clear hk
  go_enter Try.func28, Try.ntmps28
  go_wp2_with fail
  refine bodyPost_ret (v := .agg #[.int .i64 k, .int .i64 e]) (by simp [results, Try.results28, go_sem, q0, q1]) rfl ⟨rfl, ?_⟩
  exact ((H.out.set 0 (.int .i64 k)).set 1 (.int .i64 e)).below

end
end Go.Proofs.Ytpcfmafokkffgaa
