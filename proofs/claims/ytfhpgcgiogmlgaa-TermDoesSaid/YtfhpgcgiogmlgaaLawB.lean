/-
  Walks through what the statements share: fixed of layer 2. It takes nothing.
-/
import Derived.Test.YtfhpgcgiogmlgaaLawA
namespace Go.Proofs.Ytfhpgcgiogmlgaa
open Go.RowKit

set_option maxRecDepth 100000 in
set_option maxHeartbeats 4000000 in
theorem fixed2_calls {W w : World} {Rs : List Res} (h : Hd W w Rs) :
    Calls Try.prog 27 #[] w fun e w' => e = .returned (.bool true) ∧ Hd W w' Rs := by
  have H := hid h
  clear h
  go_enter Try.func27, Try.ntmps27
  go_wp2_with fail
  refine (new_calls H.out (by decide) (by decide)).mono ?_
  rintro e w1 ⟨b, rfl, h1⟩
  clear H
  have H := hid h1
  clear h1
  go_wp2_with fail
  refine (new_bad (by decide)).mono ?_
  rintro e w' ⟨rfl, rfl⟩
  go_wp2_with fail
  refine (put_calls _ _ _ _ _ _ H.out).mono ?_
  rw [show put 3 [] ⟨2, ⟨#[]⟩, 5, 0, 0, 0⟩ = (1, 0, [⟨2, ⟨#[]⟩, 5, 0, 0, 0⟩]) from by decide +kernel]
  rintro e w2 ⟨rfl, h1⟩
  clear H
  have H := hid h1
  clear h1
  go_wp2_with fail
  refine (put_calls _ _ _ _ _ _ H.out).mono ?_
  rw [show put 3 [⟨2, ⟨#[]⟩, 5, 0, 0, 0⟩] ⟨3, ⟨#[]⟩, 0, 1, 0, 0⟩ = (2, 0, [⟨2, ⟨#[]⟩, 5, 0, 0, 0⟩, ⟨3, ⟨#[]⟩, 0, 1, 0, 0⟩]) from by decide +kernel]
  rintro e w3 ⟨rfl, h1⟩
  clear H
  have H := hid h1
  clear h1
  go_wp2_with fail
  refine (put_calls _ _ _ _ _ _ H.out).mono ?_
  rw [show put 3 [⟨2, ⟨#[]⟩, 5, 0, 0, 0⟩, ⟨3, ⟨#[]⟩, 0, 1, 0, 0⟩] ⟨2, ⟨#[]⟩, 5, 0, 0, 0⟩ = (1, 0, [⟨2, ⟨#[]⟩, 5, 0, 0, 0⟩, ⟨3, ⟨#[]⟩, 0, 1, 0, 0⟩]) from by decide +kernel]
  rintro e w4 ⟨rfl, h1⟩
  clear H
  have H := hid h1
  clear h1
  go_wp2_with fail
  refine (put_calls _ _ _ _ _ _ H.out).mono ?_
  rw [show put 3 [⟨2, ⟨#[]⟩, 5, 0, 0, 0⟩, ⟨3, ⟨#[]⟩, 0, 1, 0, 0⟩] ⟨4, ⟨#[]⟩, 0, 1, 1, 0⟩ = (3, 0, [⟨2, ⟨#[]⟩, 5, 0, 0, 0⟩, ⟨3, ⟨#[]⟩, 0, 1, 0, 0⟩, ⟨4, ⟨#[]⟩, 0, 1, 1, 0⟩]) from by decide +kernel]
  rintro e w5 ⟨rfl, h1⟩
  clear H
  have H := hid h1
  clear h1
  go_wp2_with fail
  refine (put_calls _ _ _ _ _ _ H.out).mono ?_
  rw [show put 3 [⟨2, ⟨#[]⟩, 5, 0, 0, 0⟩, ⟨3, ⟨#[]⟩, 0, 1, 0, 0⟩, ⟨4, ⟨#[]⟩, 0, 1, 1, 0⟩] ⟨2, ⟨#[]⟩, 6, 0, 0, 0⟩ = (0, 4, [⟨2, ⟨#[]⟩, 5, 0, 0, 0⟩, ⟨3, ⟨#[]⟩, 0, 1, 0, 0⟩, ⟨4, ⟨#[]⟩, 0, 1, 1, 0⟩]) from by decide +kernel]
  rintro e w6 ⟨rfl, h1⟩
  clear H
  have H := hid h1
  clear h1
  go_wp2_with fail
  refine (put_calls _ _ _ _ _ _ H.out).mono ?_
  rw [show put 3 [⟨2, ⟨#[]⟩, 5, 0, 0, 0⟩, ⟨3, ⟨#[]⟩, 0, 1, 0, 0⟩, ⟨4, ⟨#[]⟩, 0, 1, 1, 0⟩] ⟨3, ⟨#[]⟩, 0, 4, 0, 0⟩ = (0, 1, [⟨2, ⟨#[]⟩, 5, 0, 0, 0⟩, ⟨3, ⟨#[]⟩, 0, 1, 0, 0⟩, ⟨4, ⟨#[]⟩, 0, 1, 1, 0⟩]) from by decide +kernel]
  rintro e w7 ⟨rfl, h1⟩
  clear H
  have H := hid h1
  clear h1
  go_wp2_with fail
  refine (put_calls _ _ _ _ _ _ H.out).mono ?_
  rw [show put 3 [⟨2, ⟨#[]⟩, 5, 0, 0, 0⟩, ⟨3, ⟨#[]⟩, 0, 1, 0, 0⟩, ⟨4, ⟨#[]⟩, 0, 1, 1, 0⟩] ⟨1, ⟨#[120]⟩, 1, 0, 0, 0⟩ = (0, 1, [⟨2, ⟨#[]⟩, 5, 0, 0, 0⟩, ⟨3, ⟨#[]⟩, 0, 1, 0, 0⟩, ⟨4, ⟨#[]⟩, 0, 1, 1, 0⟩]) from by decide +kernel]
  rintro e w8 ⟨rfl, h1⟩
  clear H
  have H := hid h1
  clear h1
  go_wp2_with fail
  refine (put_calls _ _ _ _ _ _ H.out).mono ?_
  rw [show put 3 [⟨2, ⟨#[]⟩, 5, 0, 0, 0⟩, ⟨3, ⟨#[]⟩, 0, 1, 0, 0⟩, ⟨4, ⟨#[]⟩, 0, 1, 1, 0⟩] ⟨4, ⟨#[]⟩, 0, 2, 1, 0⟩ = (0, 1, [⟨2, ⟨#[]⟩, 5, 0, 0, 0⟩, ⟨3, ⟨#[]⟩, 0, 1, 0, 0⟩, ⟨4, ⟨#[]⟩, 0, 1, 1, 0⟩]) from by decide +kernel]
  rintro e w9 ⟨rfl, h1⟩
  clear H
  have H := hid h1
  clear h1
  go_wp2_with fail
  refine (put_calls _ _ _ _ _ _ H.out).mono ?_
  rw [show put 3 [⟨2, ⟨#[]⟩, 5, 0, 0, 0⟩, ⟨3, ⟨#[]⟩, 0, 1, 0, 0⟩, ⟨4, ⟨#[]⟩, 0, 1, 1, 0⟩] ⟨0, ⟨#[]⟩, 0, 0, 0, 0⟩ = (0, 1, [⟨2, ⟨#[]⟩, 5, 0, 0, 0⟩, ⟨3, ⟨#[]⟩, 0, 1, 0, 0⟩, ⟨4, ⟨#[]⟩, 0, 1, 1, 0⟩]) from by decide +kernel]
  rintro e w10 ⟨rfl, h1⟩
  clear H
  have H := hid h1
  clear h1
  obtain ⟨lb, db, mb, lc, dc, hs⟩ := H.out.sto
  have Hs := hid hs
  clear hs
  go_wp2_with fail
  refine (get_calls 2 Hs.out).mono ?_
  rw [show getT [⟨2, ⟨#[]⟩, 5, 0, 0, 0⟩, ⟨3, ⟨#[]⟩, 0, 1, 0, 0⟩, ⟨4, ⟨#[]⟩, 0, 1, 1, 0⟩] 2 = ⟨3, ⟨#[]⟩, 0, 1, 0, 0⟩ from by decide +kernel, show getB [⟨2, ⟨#[]⟩, 5, 0, 0, 0⟩, ⟨3, ⟨#[]⟩, 0, 1, 0, 0⟩, ⟨4, ⟨#[]⟩, 0, 1, 1, 0⟩] 2 = true from by decide +kernel]
  simp only [T.val]
  rintro e x1 ⟨rfl, hb1⟩
  have Hs1 := hid (Hs.out.later hb1)
  have H1 := hid (H.out.still hb1)
  clear hb1
  go_wp2_with fail
  refine (get_calls 0 (Hs1.out.later ((Below.refl _ _).alloc (Nat.le_refl _) _))).mono ?_
  rw [show getT [⟨2, ⟨#[]⟩, 5, 0, 0, 0⟩, ⟨3, ⟨#[]⟩, 0, 1, 0, 0⟩, ⟨4, ⟨#[]⟩, 0, 1, 1, 0⟩] 0 = zeroT from by decide +kernel, show getB [⟨2, ⟨#[]⟩, 5, 0, 0, 0⟩, ⟨3, ⟨#[]⟩, 0, 1, 0, 0⟩, ⟨4, ⟨#[]⟩, 0, 1, 1, 0⟩] 0 = false from by decide +kernel]
  simp only [T.val, zeroT]
  rintro e x2 ⟨rfl, hb2⟩
  have hb2' : Below x1.heap.size x1 x2 := ((Below.refl _ _).alloc (Nat.le_refl _) _).trans (hb2.mono (by simp <;> omega))
  have Hs2 := hid (Hs1.out.later hb2')
  have H2 := hid (H1.out.still hb2')
  have hbox : x2.heap[x1.heap.size]? = some (.cells (T.cells ⟨3, ⟨#[]⟩, 0, 1, 0, 0⟩).toArray 32) := by rw [hb2.block _ (by simp)]; exact heap_at rfl
  have c0 : x2.cell? ⟨x1.heap.size, 0, none⟩ = some (.int .i64 3) := by rw [cell_of_heap hbox]; rfl
  have c1 : x2.cell? ⟨x1.heap.size, 1, none⟩ = some (.string ⟨#[]⟩) := by rw [cell_of_heap hbox]; rfl
  have c2 : x2.cell? ⟨x1.heap.size, 2, none⟩ = some (.int .u64 0) := by rw [cell_of_heap hbox]; rfl
  have c3 : x2.cell? ⟨x1.heap.size, 3, none⟩ = some (.int .i64 1) := by rw [cell_of_heap hbox]; rfl
  have c4 : x2.cell? ⟨x1.heap.size, 4, none⟩ = some (.int .i64 0) := by rw [cell_of_heap hbox]; rfl
  have c5 : x2.cell? ⟨x1.heap.size, 5, none⟩ = some (.int .i64 0) := by rw [cell_of_heap hbox]; rfl
  have hlt : x1.heap.size < x2.heap.size := (Array.getElem?_eq_some_iff.1 hbox).1
  clear hb2 hb2' hbox
  have hal : ∀ o, Below x2.heap.size x2 (x2.alloc o) := fun o => (Below.refl _ _).alloc (Nat.le_refl _) _
  have Hal := hid hal
  clear hal
  go_wp2_with fail
  refine (depth_calls 1 (Hs2.out.later (Hal.out _))).mono ?_
  rw [show depth [⟨2, ⟨#[]⟩, 5, 0, 0, 0⟩, ⟨3, ⟨#[]⟩, 0, 1, 0, 0⟩, ⟨4, ⟨#[]⟩, 0, 1, 1, 0⟩] 1 = 1 from by decide +kernel]
  rintro e w' ⟨rfl, rfl⟩
  go_wp2_with fail
  refine (depth_calls 3 (Hs2.out.later (Hal.out _))).mono ?_
  rw [show depth [⟨2, ⟨#[]⟩, 5, 0, 0, 0⟩, ⟨3, ⟨#[]⟩, 0, 1, 0, 0⟩, ⟨4, ⟨#[]⟩, 0, 1, 1, 0⟩] 3 = 2 from by decide +kernel]
  rintro e w' ⟨rfl, rfl⟩
  go_wp2_with fail
  refine (depth_calls 9 (Hs2.out.later (Hal.out _))).mono ?_
  rw [show depth [⟨2, ⟨#[]⟩, 5, 0, 0, 0⟩, ⟨3, ⟨#[]⟩, 0, 1, 0, 0⟩, ⟨4, ⟨#[]⟩, 0, 1, 1, 0⟩] 9 = 0 from by decide +kernel]
  rintro e w' ⟨rfl, rfl⟩
  go_wp2_with fail
  refine (len_calls' (Hs2.out.later (Hal.out _))).mono ?_
  rw [show (([⟨2, ⟨#[]⟩, 5, 0, 0, 0⟩, ⟨3, ⟨#[]⟩, 0, 1, 0, 0⟩, ⟨4, ⟨#[]⟩, 0, 1, 1, 0⟩] : List T).length : Int) = 3 from rfl]
  rintro e w' ⟨rfl, rfl⟩
  go_wp2_with fail
  refine (parts_calls 10 ⟨#[]⟩ 0 4 5 6 _).mono ?_
  rintro e x3 ⟨ad, rfl, hn3⟩
  rw [show many 10 = 3 from rfl]
  have Hn3 := hid hn3
  have hb3 := (Hal.out _).trans (hn3.below.mono (Hal.out _).size)
  have Hb3 := hid hb3
  clear hn3 hb3
  go_wp2_with fail
  have hnew : ∀ o, Below x3.heap.size x3 (x3.alloc o) := fun o => (Below.refl _ _).alloc (Nat.le_refl _) _
  refine (same_calls (xs := [4, 5, 6]) (ys := [4, 5, 6]) (Hn3.out.at.later (hnew _)) (.inr ⟨x3.heap.size, 0, rfl, fun j hj => ?_⟩) rfl rfl (by decide) (by decide)).mono ?_
  · rw [Nat.zero_add]; exact ints_cell (xs := [4, 5, 6]) (heap_at rfl) hj
  rintro e x4 ⟨rfl, hb4⟩
  have hb5 : Below x2.heap.size x2 x4 := Hb3.out.trans (((hnew _).trans (hb4.mono (hnew _).size)).mono Hb3.out.size)
  have d0 : x4.cell? ⟨x1.heap.size, 0, none⟩ = some (.int .i64 3) := (hb5.cell hlt).trans c0
  have d1 : x4.cell? ⟨x1.heap.size, 1, none⟩ = some (.string ⟨#[]⟩) := (hb5.cell hlt).trans c1
  have d2 : x4.cell? ⟨x1.heap.size, 2, none⟩ = some (.int .u64 0) := (hb5.cell hlt).trans c2
  have d3 : x4.cell? ⟨x1.heap.size, 3, none⟩ = some (.int .i64 1) := (hb5.cell hlt).trans c3
  have d4 : x4.cell? ⟨x1.heap.size, 4, none⟩ = some (.int .i64 0) := (hb5.cell hlt).trans c4
  have d5 : x4.cell? ⟨x1.heap.size, 5, none⟩ = some (.int .i64 0) := (hb5.cell hlt).trans c5
  clear c0 c1 c2 c3 c4 c5 hb4 hnew
  have Hb5 := hid hb5
  clear hb5
  go_wp2_with fail
  refine (parts_calls 3 ⟨#[]⟩ 0 1 0 0 _).mono ?_
  rintro e x5 ⟨ad2, rfl, hn6⟩
  rw [show many 3 = 1 from rfl]
  have Hn6 := hid hn6
  clear hn6
  go_wp2_with fail
  go_ret
  exact ⟨rfl, (H2.out.still (Hb5.out.trans (Hn6.out.below.mono Hb5.out.size))).drop⟩
end Go.Proofs.Ytfhpgcgiogmlgaa
