/-
  KdfRoom returns true, and writes nothing that was there. For every input.
-/
import Derived.Test.YthbailkfhmkfoaaKdfRoom
import Derived.Test.YthbailkfhmkfoaaFixF
namespace Go.Proofs.Ythbailkfhmkfoaa
open Go.RowKit

set_option maxRecDepth 100000 in
set_option maxHeartbeats 32000000 in
theorem kdfRoom_0 (a0 : Int) (ha0 : 0 ≤ a0) (ha1 : a0 ≤ 255) (a1 : Int) (hb0 : 0 ≤ a1) (hb1 : a1 ≤ 255) (W : World) (hm : a0 % 6 = 0) :
    Calls Try.prog 13 #[.int .u8 a0, .int .u8 a1] W fun e w' => e = .returned (.bool true) ∧ Below W.heap.size W w' := by
  have H := hid (Hd.refl W)
  obtain hr | hr | hr | hr | hr | hr : a1 % 6 = 0 ∨ a1 % 6 = 1 ∨ a1 % 6 = 2 ∨ a1 % 6 = 3 ∨ a1 % 6 = 4 ∨ a1 % 6 = 5 := by omega
  · go_enter Try.func13, Try.ntmps13
    go_wp2_with fail
    refine (new_calls H.out (by decide) (by decide)).mono ?_
    rintro e w1 ⟨b, rfl, h1⟩
    clear H
    have H := hid h1
    clear h1
    go_wp2_with fail
    refine (new_calls H.out (by decide) (by decide)).mono ?_
    rintro e w2 ⟨b', rfl, h1⟩
    clear H
    have H := hid h1
    clear h1
    go_wp2_with fail
    refine (put_calls _ _ _ _ _ _ H.out.swap).mono ?_
    rw [show put 2 [] ⟨2, ⟨#[]⟩, 1, 0, 0, 0⟩ = (1, 0, [⟨2, ⟨#[]⟩, 1, 0, 0, 0⟩]) from by decide +kernel]
    rintro e w3 ⟨rfl, h1⟩
    clear H
    have H := hid h1
    clear h1
    go_wp2_with fail
    refine (put_calls _ _ _ _ _ _ H.out).mono ?_
    rw [show put 2 [⟨2, ⟨#[]⟩, 1, 0, 0, 0⟩] ⟨2, ⟨#[]⟩, 2, 0, 0, 0⟩ = (2, 0, [⟨2, ⟨#[]⟩, 1, 0, 0, 0⟩, ⟨2, ⟨#[]⟩, 2, 0, 0, 0⟩]) from by decide +kernel]
    rintro e w4 ⟨rfl, h1⟩
    clear H
    have H := hid h1
    clear h1
    go_wp2_with fail
    refine (put_calls _ _ _ _ _ _ H.out.swap).mono ?_
    rw [show put 1 [] ⟨2, ⟨#[]⟩, 1, 0, 0, 0⟩ = (1, 0, [⟨2, ⟨#[]⟩, 1, 0, 0, 0⟩]) from by decide +kernel]
    rintro e w5 ⟨rfl, h1⟩
    clear H
    have H := hid h1
    clear h1
    go_wp2_with fail
    refine (mix_calls 1 2 H.out.swap).mono ?_
    rw [show mix6 2 [⟨2, ⟨#[]⟩, 1, 0, 0, 0⟩, ⟨2, ⟨#[]⟩, 2, 0, 0, 0⟩] 1 2 = (0, 0, 4, [⟨2, ⟨#[]⟩, 1, 0, 0, 0⟩, ⟨2, ⟨#[]⟩, 2, 0, 0, 0⟩]) from by decide +kernel]
    rintro e w6 ⟨rfl, h1⟩
    clear H
    have H := hid h1
    clear h1
    go_wp2_with fail
    refine (chain_calls 1 7 0 H.out.swap).mono ?_
    rw [show chain6 1 [⟨2, ⟨#[]⟩, 1, 0, 0, 0⟩] 1 7 0 = (1, 0, [⟨2, ⟨#[]⟩, 1, 0, 0, 0⟩]) from by decide +kernel]
    rintro e w7 ⟨rfl, h1⟩
    clear H
    have H := hid h1
    clear h1
    go_wp2_with fail
    refine (len_at H.out.swap).mono ?_
    rintro e w' ⟨rfl, rfl⟩
    go_wp2_with fail
    refine (len_at H.out).mono ?_
    rintro e w' ⟨rfl, rfl⟩
    go_wp2_with fail
    refine (fixed6_calls H.out).mono ?_
    rintro e w' ⟨rfl, h5⟩
    have H5 := hid h5
    clear h5
    go_wp2_with fail
    go_ret
    exact ⟨rfl, H5.out.below⟩
  · go_enter Try.func13, Try.ntmps13
    go_wp2_with fail
    refine (new_calls H.out (by decide) (by decide)).mono ?_
    rintro e w1 ⟨b, rfl, h1⟩
    clear H
    have H := hid h1
    clear h1
    go_wp2_with fail
    refine (new_calls H.out (by decide) (by decide)).mono ?_
    rintro e w2 ⟨b', rfl, h1⟩
    clear H
    have H := hid h1
    clear h1
    go_wp2_with fail
    refine (put_calls _ _ _ _ _ _ H.out.swap).mono ?_
    rw [show put 2 [] ⟨2, ⟨#[]⟩, 1, 0, 0, 0⟩ = (1, 0, [⟨2, ⟨#[]⟩, 1, 0, 0, 0⟩]) from by decide +kernel]
    rintro e w3 ⟨rfl, h1⟩
    clear H
    have H := hid h1
    clear h1
    go_wp2_with fail
    refine (put_calls _ _ _ _ _ _ H.out).mono ?_
    rw [show put 2 [⟨2, ⟨#[]⟩, 1, 0, 0, 0⟩] ⟨2, ⟨#[]⟩, 2, 0, 0, 0⟩ = (2, 0, [⟨2, ⟨#[]⟩, 1, 0, 0, 0⟩, ⟨2, ⟨#[]⟩, 2, 0, 0, 0⟩]) from by decide +kernel]
    rintro e w4 ⟨rfl, h1⟩
    clear H
    have H := hid h1
    clear h1
    go_wp2_with fail
    refine (put_calls _ _ _ _ _ _ H.out.swap).mono ?_
    rw [show put 1 [] ⟨2, ⟨#[]⟩, 1, 0, 0, 0⟩ = (1, 0, [⟨2, ⟨#[]⟩, 1, 0, 0, 0⟩]) from by decide +kernel]
    rintro e w5 ⟨rfl, h1⟩
    clear H
    have H := hid h1
    clear h1
    go_wp2_with fail
    refine (mix_calls 1 2 H.out.swap).mono ?_
    rw [show mix6 2 [⟨2, ⟨#[]⟩, 1, 0, 0, 0⟩, ⟨2, ⟨#[]⟩, 2, 0, 0, 0⟩] 1 2 = (0, 0, 4, [⟨2, ⟨#[]⟩, 1, 0, 0, 0⟩, ⟨2, ⟨#[]⟩, 2, 0, 0, 0⟩]) from by decide +kernel]
    rintro e w6 ⟨rfl, h1⟩
    clear H
    have H := hid h1
    clear h1
    go_wp2_with fail
    refine (chain_calls 1 7 1 H.out.swap).mono ?_
    rw [show chain6 1 [⟨2, ⟨#[]⟩, 1, 0, 0, 0⟩] 1 7 1 = (0, 4, [⟨2, ⟨#[]⟩, 1, 0, 0, 0⟩]) from by decide +kernel]
    rintro e w7 ⟨rfl, h1⟩
    clear H
    have H := hid h1
    clear h1
    go_wp2_with fail
    refine (len_at H.out.swap).mono ?_
    rintro e w' ⟨rfl, rfl⟩
    go_wp2_with fail
    refine (len_at H.out).mono ?_
    rintro e w' ⟨rfl, rfl⟩
    go_wp2_with fail
    refine (fixed6_calls H.out).mono ?_
    rintro e w' ⟨rfl, h5⟩
    have H5 := hid h5
    clear h5
    go_wp2_with fail
    go_ret
    exact ⟨rfl, H5.out.below⟩
  · go_enter Try.func13, Try.ntmps13
    go_wp2_with fail
    refine (new_calls H.out (by decide) (by decide)).mono ?_
    rintro e w1 ⟨b, rfl, h1⟩
    clear H
    have H := hid h1
    clear h1
    go_wp2_with fail
    refine (new_calls H.out (by decide) (by decide)).mono ?_
    rintro e w2 ⟨b', rfl, h1⟩
    clear H
    have H := hid h1
    clear h1
    go_wp2_with fail
    refine (put_calls _ _ _ _ _ _ H.out.swap).mono ?_
    rw [show put 2 [] ⟨2, ⟨#[]⟩, 1, 0, 0, 0⟩ = (1, 0, [⟨2, ⟨#[]⟩, 1, 0, 0, 0⟩]) from by decide +kernel]
    rintro e w3 ⟨rfl, h1⟩
    clear H
    have H := hid h1
    clear h1
    go_wp2_with fail
    refine (put_calls _ _ _ _ _ _ H.out).mono ?_
    rw [show put 2 [⟨2, ⟨#[]⟩, 1, 0, 0, 0⟩] ⟨2, ⟨#[]⟩, 2, 0, 0, 0⟩ = (2, 0, [⟨2, ⟨#[]⟩, 1, 0, 0, 0⟩, ⟨2, ⟨#[]⟩, 2, 0, 0, 0⟩]) from by decide +kernel]
    rintro e w4 ⟨rfl, h1⟩
    clear H
    have H := hid h1
    clear h1
    go_wp2_with fail
    refine (put_calls _ _ _ _ _ _ H.out.swap).mono ?_
    rw [show put 1 [] ⟨2, ⟨#[]⟩, 1, 0, 0, 0⟩ = (1, 0, [⟨2, ⟨#[]⟩, 1, 0, 0, 0⟩]) from by decide +kernel]
    rintro e w5 ⟨rfl, h1⟩
    clear H
    have H := hid h1
    clear h1
    go_wp2_with fail
    refine (mix_calls 1 2 H.out.swap).mono ?_
    rw [show mix6 2 [⟨2, ⟨#[]⟩, 1, 0, 0, 0⟩, ⟨2, ⟨#[]⟩, 2, 0, 0, 0⟩] 1 2 = (0, 0, 4, [⟨2, ⟨#[]⟩, 1, 0, 0, 0⟩, ⟨2, ⟨#[]⟩, 2, 0, 0, 0⟩]) from by decide +kernel]
    rintro e w6 ⟨rfl, h1⟩
    clear H
    have H := hid h1
    clear h1
    go_wp2_with fail
    refine (chain_calls 1 7 2 H.out.swap).mono ?_
    rw [show chain6 1 [⟨2, ⟨#[]⟩, 1, 0, 0, 0⟩] 1 7 2 = (0, 4, [⟨2, ⟨#[]⟩, 1, 0, 0, 0⟩]) from by decide +kernel]
    rintro e w7 ⟨rfl, h1⟩
    clear H
    have H := hid h1
    clear h1
    go_wp2_with fail
    refine (len_at H.out.swap).mono ?_
    rintro e w' ⟨rfl, rfl⟩
    go_wp2_with fail
    refine (len_at H.out).mono ?_
    rintro e w' ⟨rfl, rfl⟩
    go_wp2_with fail
    refine (fixed6_calls H.out).mono ?_
    rintro e w' ⟨rfl, h5⟩
    have H5 := hid h5
    clear h5
    go_wp2_with fail
    go_ret
    exact ⟨rfl, H5.out.below⟩
  · go_enter Try.func13, Try.ntmps13
    go_wp2_with fail
    refine (new_calls H.out (by decide) (by decide)).mono ?_
    rintro e w1 ⟨b, rfl, h1⟩
    clear H
    have H := hid h1
    clear h1
    go_wp2_with fail
    refine (new_calls H.out (by decide) (by decide)).mono ?_
    rintro e w2 ⟨b', rfl, h1⟩
    clear H
    have H := hid h1
    clear h1
    go_wp2_with fail
    refine (put_calls _ _ _ _ _ _ H.out.swap).mono ?_
    rw [show put 2 [] ⟨2, ⟨#[]⟩, 1, 0, 0, 0⟩ = (1, 0, [⟨2, ⟨#[]⟩, 1, 0, 0, 0⟩]) from by decide +kernel]
    rintro e w3 ⟨rfl, h1⟩
    clear H
    have H := hid h1
    clear h1
    go_wp2_with fail
    refine (put_calls _ _ _ _ _ _ H.out).mono ?_
    rw [show put 2 [⟨2, ⟨#[]⟩, 1, 0, 0, 0⟩] ⟨2, ⟨#[]⟩, 2, 0, 0, 0⟩ = (2, 0, [⟨2, ⟨#[]⟩, 1, 0, 0, 0⟩, ⟨2, ⟨#[]⟩, 2, 0, 0, 0⟩]) from by decide +kernel]
    rintro e w4 ⟨rfl, h1⟩
    clear H
    have H := hid h1
    clear h1
    go_wp2_with fail
    refine (put_calls _ _ _ _ _ _ H.out.swap).mono ?_
    rw [show put 1 [] ⟨2, ⟨#[]⟩, 1, 0, 0, 0⟩ = (1, 0, [⟨2, ⟨#[]⟩, 1, 0, 0, 0⟩]) from by decide +kernel]
    rintro e w5 ⟨rfl, h1⟩
    clear H
    have H := hid h1
    clear h1
    go_wp2_with fail
    refine (mix_calls 1 2 H.out.swap).mono ?_
    rw [show mix6 2 [⟨2, ⟨#[]⟩, 1, 0, 0, 0⟩, ⟨2, ⟨#[]⟩, 2, 0, 0, 0⟩] 1 2 = (0, 0, 4, [⟨2, ⟨#[]⟩, 1, 0, 0, 0⟩, ⟨2, ⟨#[]⟩, 2, 0, 0, 0⟩]) from by decide +kernel]
    rintro e w6 ⟨rfl, h1⟩
    clear H
    have H := hid h1
    clear h1
    go_wp2_with fail
    refine (chain_calls 1 7 3 H.out.swap).mono ?_
    rw [show chain6 1 [⟨2, ⟨#[]⟩, 1, 0, 0, 0⟩] 1 7 3 = (0, 4, [⟨2, ⟨#[]⟩, 1, 0, 0, 0⟩]) from by decide +kernel]
    rintro e w7 ⟨rfl, h1⟩
    clear H
    have H := hid h1
    clear h1
    go_wp2_with fail
    refine (len_at H.out.swap).mono ?_
    rintro e w' ⟨rfl, rfl⟩
    go_wp2_with fail
    refine (len_at H.out).mono ?_
    rintro e w' ⟨rfl, rfl⟩
    go_wp2_with fail
    refine (fixed6_calls H.out).mono ?_
    rintro e w' ⟨rfl, h5⟩
    have H5 := hid h5
    clear h5
    go_wp2_with fail
    go_ret
    exact ⟨rfl, H5.out.below⟩
  · go_enter Try.func13, Try.ntmps13
    go_wp2_with fail
    refine (new_calls H.out (by decide) (by decide)).mono ?_
    rintro e w1 ⟨b, rfl, h1⟩
    clear H
    have H := hid h1
    clear h1
    go_wp2_with fail
    refine (new_calls H.out (by decide) (by decide)).mono ?_
    rintro e w2 ⟨b', rfl, h1⟩
    clear H
    have H := hid h1
    clear h1
    go_wp2_with fail
    refine (put_calls _ _ _ _ _ _ H.out.swap).mono ?_
    rw [show put 2 [] ⟨2, ⟨#[]⟩, 1, 0, 0, 0⟩ = (1, 0, [⟨2, ⟨#[]⟩, 1, 0, 0, 0⟩]) from by decide +kernel]
    rintro e w3 ⟨rfl, h1⟩
    clear H
    have H := hid h1
    clear h1
    go_wp2_with fail
    refine (put_calls _ _ _ _ _ _ H.out).mono ?_
    rw [show put 2 [⟨2, ⟨#[]⟩, 1, 0, 0, 0⟩] ⟨2, ⟨#[]⟩, 2, 0, 0, 0⟩ = (2, 0, [⟨2, ⟨#[]⟩, 1, 0, 0, 0⟩, ⟨2, ⟨#[]⟩, 2, 0, 0, 0⟩]) from by decide +kernel]
    rintro e w4 ⟨rfl, h1⟩
    clear H
    have H := hid h1
    clear h1
    go_wp2_with fail
    refine (put_calls _ _ _ _ _ _ H.out.swap).mono ?_
    rw [show put 1 [] ⟨2, ⟨#[]⟩, 1, 0, 0, 0⟩ = (1, 0, [⟨2, ⟨#[]⟩, 1, 0, 0, 0⟩]) from by decide +kernel]
    rintro e w5 ⟨rfl, h1⟩
    clear H
    have H := hid h1
    clear h1
    go_wp2_with fail
    refine (mix_calls 1 2 H.out.swap).mono ?_
    rw [show mix6 2 [⟨2, ⟨#[]⟩, 1, 0, 0, 0⟩, ⟨2, ⟨#[]⟩, 2, 0, 0, 0⟩] 1 2 = (0, 0, 4, [⟨2, ⟨#[]⟩, 1, 0, 0, 0⟩, ⟨2, ⟨#[]⟩, 2, 0, 0, 0⟩]) from by decide +kernel]
    rintro e w6 ⟨rfl, h1⟩
    clear H
    have H := hid h1
    clear h1
    go_wp2_with fail
    refine (chain_calls 1 7 4 H.out.swap).mono ?_
    rw [show chain6 1 [⟨2, ⟨#[]⟩, 1, 0, 0, 0⟩] 1 7 4 = (0, 4, [⟨2, ⟨#[]⟩, 1, 0, 0, 0⟩]) from by decide +kernel]
    rintro e w7 ⟨rfl, h1⟩
    clear H
    have H := hid h1
    clear h1
    go_wp2_with fail
    refine (len_at H.out.swap).mono ?_
    rintro e w' ⟨rfl, rfl⟩
    go_wp2_with fail
    refine (len_at H.out).mono ?_
    rintro e w' ⟨rfl, rfl⟩
    go_wp2_with fail
    refine (fixed6_calls H.out).mono ?_
    rintro e w' ⟨rfl, h5⟩
    have H5 := hid h5
    clear h5
    go_wp2_with fail
    go_ret
    exact ⟨rfl, H5.out.below⟩
  · go_enter Try.func13, Try.ntmps13
    go_wp2_with fail
    refine (new_calls H.out (by decide) (by decide)).mono ?_
    rintro e w1 ⟨b, rfl, h1⟩
    clear H
    have H := hid h1
    clear h1
    go_wp2_with fail
    refine (new_calls H.out (by decide) (by decide)).mono ?_
    rintro e w2 ⟨b', rfl, h1⟩
    clear H
    have H := hid h1
    clear h1
    go_wp2_with fail
    refine (put_calls _ _ _ _ _ _ H.out.swap).mono ?_
    rw [show put 2 [] ⟨2, ⟨#[]⟩, 1, 0, 0, 0⟩ = (1, 0, [⟨2, ⟨#[]⟩, 1, 0, 0, 0⟩]) from by decide +kernel]
    rintro e w3 ⟨rfl, h1⟩
    clear H
    have H := hid h1
    clear h1
    go_wp2_with fail
    refine (put_calls _ _ _ _ _ _ H.out).mono ?_
    rw [show put 2 [⟨2, ⟨#[]⟩, 1, 0, 0, 0⟩] ⟨2, ⟨#[]⟩, 2, 0, 0, 0⟩ = (2, 0, [⟨2, ⟨#[]⟩, 1, 0, 0, 0⟩, ⟨2, ⟨#[]⟩, 2, 0, 0, 0⟩]) from by decide +kernel]
    rintro e w4 ⟨rfl, h1⟩
    clear H
    have H := hid h1
    clear h1
    go_wp2_with fail
    refine (put_calls _ _ _ _ _ _ H.out.swap).mono ?_
    rw [show put 1 [] ⟨2, ⟨#[]⟩, 1, 0, 0, 0⟩ = (1, 0, [⟨2, ⟨#[]⟩, 1, 0, 0, 0⟩]) from by decide +kernel]
    rintro e w5 ⟨rfl, h1⟩
    clear H
    have H := hid h1
    clear h1
    go_wp2_with fail
    refine (mix_calls 1 2 H.out.swap).mono ?_
    rw [show mix6 2 [⟨2, ⟨#[]⟩, 1, 0, 0, 0⟩, ⟨2, ⟨#[]⟩, 2, 0, 0, 0⟩] 1 2 = (0, 0, 4, [⟨2, ⟨#[]⟩, 1, 0, 0, 0⟩, ⟨2, ⟨#[]⟩, 2, 0, 0, 0⟩]) from by decide +kernel]
    rintro e w6 ⟨rfl, h1⟩
    clear H
    have H := hid h1
    clear h1
    go_wp2_with fail
    refine (chain_calls 1 7 5 H.out.swap).mono ?_
    rw [show chain6 1 [⟨2, ⟨#[]⟩, 1, 0, 0, 0⟩] 1 7 5 = (0, 4, [⟨2, ⟨#[]⟩, 1, 0, 0, 0⟩]) from by decide +kernel]
    rintro e w7 ⟨rfl, h1⟩
    clear H
    have H := hid h1
    clear h1
    go_wp2_with fail
    refine (len_at H.out.swap).mono ?_
    rintro e w' ⟨rfl, rfl⟩
    go_wp2_with fail
    refine (len_at H.out).mono ?_
    rintro e w' ⟨rfl, rfl⟩
    go_wp2_with fail
    refine (fixed6_calls H.out).mono ?_
    rintro e w' ⟨rfl, h5⟩
    have H5 := hid h5
    clear h5
    go_wp2_with fail
    go_ret
    exact ⟨rfl, H5.out.below⟩

set_option maxRecDepth 100000 in
set_option maxHeartbeats 32000000 in
theorem kdfRoom_1 (a0 : Int) (ha0 : 0 ≤ a0) (ha1 : a0 ≤ 255) (a1 : Int) (hb0 : 0 ≤ a1) (hb1 : a1 ≤ 255) (W : World) (hm : a0 % 6 = 1) :
    Calls Try.prog 13 #[.int .u8 a0, .int .u8 a1] W fun e w' => e = .returned (.bool true) ∧ Below W.heap.size W w' := by
  have H := hid (Hd.refl W)
  obtain hr | hr | hr | hr | hr | hr : a1 % 6 = 0 ∨ a1 % 6 = 1 ∨ a1 % 6 = 2 ∨ a1 % 6 = 3 ∨ a1 % 6 = 4 ∨ a1 % 6 = 5 := by omega
  · go_enter Try.func13, Try.ntmps13
    go_wp2_with fail
    refine (new_calls H.out (by decide) (by decide)).mono ?_
    rintro e w1 ⟨b, rfl, h1⟩
    clear H
    have H := hid h1
    clear h1
    go_wp2_with fail
    refine (new_calls H.out (by decide) (by decide)).mono ?_
    rintro e w2 ⟨b', rfl, h1⟩
    clear H
    have H := hid h1
    clear h1
    go_wp2_with fail
    refine (put_calls _ _ _ _ _ _ H.out.swap).mono ?_
    rw [show put 3 [] ⟨2, ⟨#[]⟩, 1, 0, 0, 0⟩ = (1, 0, [⟨2, ⟨#[]⟩, 1, 0, 0, 0⟩]) from by decide +kernel]
    rintro e w3 ⟨rfl, h1⟩
    clear H
    have H := hid h1
    clear h1
    go_wp2_with fail
    refine (put_calls _ _ _ _ _ _ H.out).mono ?_
    rw [show put 3 [⟨2, ⟨#[]⟩, 1, 0, 0, 0⟩] ⟨2, ⟨#[]⟩, 2, 0, 0, 0⟩ = (2, 0, [⟨2, ⟨#[]⟩, 1, 0, 0, 0⟩, ⟨2, ⟨#[]⟩, 2, 0, 0, 0⟩]) from by decide +kernel]
    rintro e w4 ⟨rfl, h1⟩
    clear H
    have H := hid h1
    clear h1
    go_wp2_with fail
    refine (put_calls _ _ _ _ _ _ H.out.swap).mono ?_
    rw [show put 2 [] ⟨2, ⟨#[]⟩, 1, 0, 0, 0⟩ = (1, 0, [⟨2, ⟨#[]⟩, 1, 0, 0, 0⟩]) from by decide +kernel]
    rintro e w5 ⟨rfl, h1⟩
    clear H
    have H := hid h1
    clear h1
    go_wp2_with fail
    refine (mix_calls 1 2 H.out.swap).mono ?_
    rw [show mix6 3 [⟨2, ⟨#[]⟩, 1, 0, 0, 0⟩, ⟨2, ⟨#[]⟩, 2, 0, 0, 0⟩] 1 2 = (0, 0, 4, [⟨2, ⟨#[]⟩, 1, 0, 0, 0⟩, ⟨2, ⟨#[]⟩, 2, 0, 0, 0⟩, ⟨8, ⟨#[]⟩, 0, 1, 2, 0⟩]) from by decide +kernel]
    rintro e w6 ⟨rfl, h1⟩
    clear H
    have H := hid h1
    clear h1
    go_wp2_with fail
    refine (chain_calls 1 7 0 H.out.swap).mono ?_
    rw [show chain6 2 [⟨2, ⟨#[]⟩, 1, 0, 0, 0⟩] 1 7 0 = (1, 0, [⟨2, ⟨#[]⟩, 1, 0, 0, 0⟩]) from by decide +kernel]
    rintro e w7 ⟨rfl, h1⟩
    clear H
    have H := hid h1
    clear h1
    go_wp2_with fail
    refine (len_at H.out.swap).mono ?_
    rintro e w' ⟨rfl, rfl⟩
    go_wp2_with fail
    refine (len_at H.out).mono ?_
    rintro e w' ⟨rfl, rfl⟩
    go_wp2_with fail
    refine (fixed6_calls H.out).mono ?_
    rintro e w' ⟨rfl, h5⟩
    have H5 := hid h5
    clear h5
    go_wp2_with fail
    go_ret
    exact ⟨rfl, H5.out.below⟩
  · go_enter Try.func13, Try.ntmps13
    go_wp2_with fail
    refine (new_calls H.out (by decide) (by decide)).mono ?_
    rintro e w1 ⟨b, rfl, h1⟩
    clear H
    have H := hid h1
    clear h1
    go_wp2_with fail
    refine (new_calls H.out (by decide) (by decide)).mono ?_
    rintro e w2 ⟨b', rfl, h1⟩
    clear H
    have H := hid h1
    clear h1
    go_wp2_with fail
    refine (put_calls _ _ _ _ _ _ H.out.swap).mono ?_
    rw [show put 3 [] ⟨2, ⟨#[]⟩, 1, 0, 0, 0⟩ = (1, 0, [⟨2, ⟨#[]⟩, 1, 0, 0, 0⟩]) from by decide +kernel]
    rintro e w3 ⟨rfl, h1⟩
    clear H
    have H := hid h1
    clear h1
    go_wp2_with fail
    refine (put_calls _ _ _ _ _ _ H.out).mono ?_
    rw [show put 3 [⟨2, ⟨#[]⟩, 1, 0, 0, 0⟩] ⟨2, ⟨#[]⟩, 2, 0, 0, 0⟩ = (2, 0, [⟨2, ⟨#[]⟩, 1, 0, 0, 0⟩, ⟨2, ⟨#[]⟩, 2, 0, 0, 0⟩]) from by decide +kernel]
    rintro e w4 ⟨rfl, h1⟩
    clear H
    have H := hid h1
    clear h1
    go_wp2_with fail
    refine (put_calls _ _ _ _ _ _ H.out.swap).mono ?_
    rw [show put 2 [] ⟨2, ⟨#[]⟩, 1, 0, 0, 0⟩ = (1, 0, [⟨2, ⟨#[]⟩, 1, 0, 0, 0⟩]) from by decide +kernel]
    rintro e w5 ⟨rfl, h1⟩
    clear H
    have H := hid h1
    clear h1
    go_wp2_with fail
    refine (mix_calls 1 2 H.out.swap).mono ?_
    rw [show mix6 3 [⟨2, ⟨#[]⟩, 1, 0, 0, 0⟩, ⟨2, ⟨#[]⟩, 2, 0, 0, 0⟩] 1 2 = (0, 0, 4, [⟨2, ⟨#[]⟩, 1, 0, 0, 0⟩, ⟨2, ⟨#[]⟩, 2, 0, 0, 0⟩, ⟨8, ⟨#[]⟩, 0, 1, 2, 0⟩]) from by decide +kernel]
    rintro e w6 ⟨rfl, h1⟩
    clear H
    have H := hid h1
    clear h1
    go_wp2_with fail
    refine (chain_calls 1 7 1 H.out.swap).mono ?_
    rw [show chain6 2 [⟨2, ⟨#[]⟩, 1, 0, 0, 0⟩] 1 7 1 = (2, 0, [⟨2, ⟨#[]⟩, 1, 0, 0, 0⟩, ⟨9, ⟨#[]⟩, 7, 1, 0, 0⟩]) from by decide +kernel]
    rintro e w7 ⟨rfl, h1⟩
    clear H
    have H := hid h1
    clear h1
    go_wp2_with fail
    refine (len_at H.out.swap).mono ?_
    rintro e w' ⟨rfl, rfl⟩
    go_wp2_with fail
    refine (len_at H.out).mono ?_
    rintro e w' ⟨rfl, rfl⟩
    go_wp2_with fail
    refine (fixed6_calls H.out).mono ?_
    rintro e w' ⟨rfl, h5⟩
    have H5 := hid h5
    clear h5
    go_wp2_with fail
    go_ret
    exact ⟨rfl, H5.out.below⟩
  · go_enter Try.func13, Try.ntmps13
    go_wp2_with fail
    refine (new_calls H.out (by decide) (by decide)).mono ?_
    rintro e w1 ⟨b, rfl, h1⟩
    clear H
    have H := hid h1
    clear h1
    go_wp2_with fail
    refine (new_calls H.out (by decide) (by decide)).mono ?_
    rintro e w2 ⟨b', rfl, h1⟩
    clear H
    have H := hid h1
    clear h1
    go_wp2_with fail
    refine (put_calls _ _ _ _ _ _ H.out.swap).mono ?_
    rw [show put 3 [] ⟨2, ⟨#[]⟩, 1, 0, 0, 0⟩ = (1, 0, [⟨2, ⟨#[]⟩, 1, 0, 0, 0⟩]) from by decide +kernel]
    rintro e w3 ⟨rfl, h1⟩
    clear H
    have H := hid h1
    clear h1
    go_wp2_with fail
    refine (put_calls _ _ _ _ _ _ H.out).mono ?_
    rw [show put 3 [⟨2, ⟨#[]⟩, 1, 0, 0, 0⟩] ⟨2, ⟨#[]⟩, 2, 0, 0, 0⟩ = (2, 0, [⟨2, ⟨#[]⟩, 1, 0, 0, 0⟩, ⟨2, ⟨#[]⟩, 2, 0, 0, 0⟩]) from by decide +kernel]
    rintro e w4 ⟨rfl, h1⟩
    clear H
    have H := hid h1
    clear h1
    go_wp2_with fail
    refine (put_calls _ _ _ _ _ _ H.out.swap).mono ?_
    rw [show put 2 [] ⟨2, ⟨#[]⟩, 1, 0, 0, 0⟩ = (1, 0, [⟨2, ⟨#[]⟩, 1, 0, 0, 0⟩]) from by decide +kernel]
    rintro e w5 ⟨rfl, h1⟩
    clear H
    have H := hid h1
    clear h1
    go_wp2_with fail
    refine (mix_calls 1 2 H.out.swap).mono ?_
    rw [show mix6 3 [⟨2, ⟨#[]⟩, 1, 0, 0, 0⟩, ⟨2, ⟨#[]⟩, 2, 0, 0, 0⟩] 1 2 = (0, 0, 4, [⟨2, ⟨#[]⟩, 1, 0, 0, 0⟩, ⟨2, ⟨#[]⟩, 2, 0, 0, 0⟩, ⟨8, ⟨#[]⟩, 0, 1, 2, 0⟩]) from by decide +kernel]
    rintro e w6 ⟨rfl, h1⟩
    clear H
    have H := hid h1
    clear h1
    go_wp2_with fail
    refine (chain_calls 1 7 2 H.out.swap).mono ?_
    rw [show chain6 2 [⟨2, ⟨#[]⟩, 1, 0, 0, 0⟩] 1 7 2 = (0, 4, [⟨2, ⟨#[]⟩, 1, 0, 0, 0⟩, ⟨9, ⟨#[]⟩, 7, 1, 0, 0⟩]) from by decide +kernel]
    rintro e w7 ⟨rfl, h1⟩
    clear H
    have H := hid h1
    clear h1
    go_wp2_with fail
    refine (len_at H.out.swap).mono ?_
    rintro e w' ⟨rfl, rfl⟩
    go_wp2_with fail
    refine (len_at H.out).mono ?_
    rintro e w' ⟨rfl, rfl⟩
    go_wp2_with fail
    refine (fixed6_calls H.out).mono ?_
    rintro e w' ⟨rfl, h5⟩
    have H5 := hid h5
    clear h5
    go_wp2_with fail
    go_ret
    exact ⟨rfl, H5.out.below⟩
  · go_enter Try.func13, Try.ntmps13
    go_wp2_with fail
    refine (new_calls H.out (by decide) (by decide)).mono ?_
    rintro e w1 ⟨b, rfl, h1⟩
    clear H
    have H := hid h1
    clear h1
    go_wp2_with fail
    refine (new_calls H.out (by decide) (by decide)).mono ?_
    rintro e w2 ⟨b', rfl, h1⟩
    clear H
    have H := hid h1
    clear h1
    go_wp2_with fail
    refine (put_calls _ _ _ _ _ _ H.out.swap).mono ?_
    rw [show put 3 [] ⟨2, ⟨#[]⟩, 1, 0, 0, 0⟩ = (1, 0, [⟨2, ⟨#[]⟩, 1, 0, 0, 0⟩]) from by decide +kernel]
    rintro e w3 ⟨rfl, h1⟩
    clear H
    have H := hid h1
    clear h1
    go_wp2_with fail
    refine (put_calls _ _ _ _ _ _ H.out).mono ?_
    rw [show put 3 [⟨2, ⟨#[]⟩, 1, 0, 0, 0⟩] ⟨2, ⟨#[]⟩, 2, 0, 0, 0⟩ = (2, 0, [⟨2, ⟨#[]⟩, 1, 0, 0, 0⟩, ⟨2, ⟨#[]⟩, 2, 0, 0, 0⟩]) from by decide +kernel]
    rintro e w4 ⟨rfl, h1⟩
    clear H
    have H := hid h1
    clear h1
    go_wp2_with fail
    refine (put_calls _ _ _ _ _ _ H.out.swap).mono ?_
    rw [show put 2 [] ⟨2, ⟨#[]⟩, 1, 0, 0, 0⟩ = (1, 0, [⟨2, ⟨#[]⟩, 1, 0, 0, 0⟩]) from by decide +kernel]
    rintro e w5 ⟨rfl, h1⟩
    clear H
    have H := hid h1
    clear h1
    go_wp2_with fail
    refine (mix_calls 1 2 H.out.swap).mono ?_
    rw [show mix6 3 [⟨2, ⟨#[]⟩, 1, 0, 0, 0⟩, ⟨2, ⟨#[]⟩, 2, 0, 0, 0⟩] 1 2 = (0, 0, 4, [⟨2, ⟨#[]⟩, 1, 0, 0, 0⟩, ⟨2, ⟨#[]⟩, 2, 0, 0, 0⟩, ⟨8, ⟨#[]⟩, 0, 1, 2, 0⟩]) from by decide +kernel]
    rintro e w6 ⟨rfl, h1⟩
    clear H
    have H := hid h1
    clear h1
    go_wp2_with fail
    refine (chain_calls 1 7 3 H.out.swap).mono ?_
    rw [show chain6 2 [⟨2, ⟨#[]⟩, 1, 0, 0, 0⟩] 1 7 3 = (0, 4, [⟨2, ⟨#[]⟩, 1, 0, 0, 0⟩, ⟨9, ⟨#[]⟩, 7, 1, 0, 0⟩]) from by decide +kernel]
    rintro e w7 ⟨rfl, h1⟩
    clear H
    have H := hid h1
    clear h1
    go_wp2_with fail
    refine (len_at H.out.swap).mono ?_
    rintro e w' ⟨rfl, rfl⟩
    go_wp2_with fail
    refine (len_at H.out).mono ?_
    rintro e w' ⟨rfl, rfl⟩
    go_wp2_with fail
    refine (fixed6_calls H.out).mono ?_
    rintro e w' ⟨rfl, h5⟩
    have H5 := hid h5
    clear h5
    go_wp2_with fail
    go_ret
    exact ⟨rfl, H5.out.below⟩
  · go_enter Try.func13, Try.ntmps13
    go_wp2_with fail
    refine (new_calls H.out (by decide) (by decide)).mono ?_
    rintro e w1 ⟨b, rfl, h1⟩
    clear H
    have H := hid h1
    clear h1
    go_wp2_with fail
    refine (new_calls H.out (by decide) (by decide)).mono ?_
    rintro e w2 ⟨b', rfl, h1⟩
    clear H
    have H := hid h1
    clear h1
    go_wp2_with fail
    refine (put_calls _ _ _ _ _ _ H.out.swap).mono ?_
    rw [show put 3 [] ⟨2, ⟨#[]⟩, 1, 0, 0, 0⟩ = (1, 0, [⟨2, ⟨#[]⟩, 1, 0, 0, 0⟩]) from by decide +kernel]
    rintro e w3 ⟨rfl, h1⟩
    clear H
    have H := hid h1
    clear h1
    go_wp2_with fail
    refine (put_calls _ _ _ _ _ _ H.out).mono ?_
    rw [show put 3 [⟨2, ⟨#[]⟩, 1, 0, 0, 0⟩] ⟨2, ⟨#[]⟩, 2, 0, 0, 0⟩ = (2, 0, [⟨2, ⟨#[]⟩, 1, 0, 0, 0⟩, ⟨2, ⟨#[]⟩, 2, 0, 0, 0⟩]) from by decide +kernel]
    rintro e w4 ⟨rfl, h1⟩
    clear H
    have H := hid h1
    clear h1
    go_wp2_with fail
    refine (put_calls _ _ _ _ _ _ H.out.swap).mono ?_
    rw [show put 2 [] ⟨2, ⟨#[]⟩, 1, 0, 0, 0⟩ = (1, 0, [⟨2, ⟨#[]⟩, 1, 0, 0, 0⟩]) from by decide +kernel]
    rintro e w5 ⟨rfl, h1⟩
    clear H
    have H := hid h1
    clear h1
    go_wp2_with fail
    refine (mix_calls 1 2 H.out.swap).mono ?_
    rw [show mix6 3 [⟨2, ⟨#[]⟩, 1, 0, 0, 0⟩, ⟨2, ⟨#[]⟩, 2, 0, 0, 0⟩] 1 2 = (0, 0, 4, [⟨2, ⟨#[]⟩, 1, 0, 0, 0⟩, ⟨2, ⟨#[]⟩, 2, 0, 0, 0⟩, ⟨8, ⟨#[]⟩, 0, 1, 2, 0⟩]) from by decide +kernel]
    rintro e w6 ⟨rfl, h1⟩
    clear H
    have H := hid h1
    clear h1
    go_wp2_with fail
    refine (chain_calls 1 7 4 H.out.swap).mono ?_
    rw [show chain6 2 [⟨2, ⟨#[]⟩, 1, 0, 0, 0⟩] 1 7 4 = (0, 4, [⟨2, ⟨#[]⟩, 1, 0, 0, 0⟩, ⟨9, ⟨#[]⟩, 7, 1, 0, 0⟩]) from by decide +kernel]
    rintro e w7 ⟨rfl, h1⟩
    clear H
    have H := hid h1
    clear h1
    go_wp2_with fail
    refine (len_at H.out.swap).mono ?_
    rintro e w' ⟨rfl, rfl⟩
    go_wp2_with fail
    refine (len_at H.out).mono ?_
    rintro e w' ⟨rfl, rfl⟩
    go_wp2_with fail
    refine (fixed6_calls H.out).mono ?_
    rintro e w' ⟨rfl, h5⟩
    have H5 := hid h5
    clear h5
    go_wp2_with fail
    go_ret
    exact ⟨rfl, H5.out.below⟩
  · go_enter Try.func13, Try.ntmps13
    go_wp2_with fail
    refine (new_calls H.out (by decide) (by decide)).mono ?_
    rintro e w1 ⟨b, rfl, h1⟩
    clear H
    have H := hid h1
    clear h1
    go_wp2_with fail
    refine (new_calls H.out (by decide) (by decide)).mono ?_
    rintro e w2 ⟨b', rfl, h1⟩
    clear H
    have H := hid h1
    clear h1
    go_wp2_with fail
    refine (put_calls _ _ _ _ _ _ H.out.swap).mono ?_
    rw [show put 3 [] ⟨2, ⟨#[]⟩, 1, 0, 0, 0⟩ = (1, 0, [⟨2, ⟨#[]⟩, 1, 0, 0, 0⟩]) from by decide +kernel]
    rintro e w3 ⟨rfl, h1⟩
    clear H
    have H := hid h1
    clear h1
    go_wp2_with fail
    refine (put_calls _ _ _ _ _ _ H.out).mono ?_
    rw [show put 3 [⟨2, ⟨#[]⟩, 1, 0, 0, 0⟩] ⟨2, ⟨#[]⟩, 2, 0, 0, 0⟩ = (2, 0, [⟨2, ⟨#[]⟩, 1, 0, 0, 0⟩, ⟨2, ⟨#[]⟩, 2, 0, 0, 0⟩]) from by decide +kernel]
    rintro e w4 ⟨rfl, h1⟩
    clear H
    have H := hid h1
    clear h1
    go_wp2_with fail
    refine (put_calls _ _ _ _ _ _ H.out.swap).mono ?_
    rw [show put 2 [] ⟨2, ⟨#[]⟩, 1, 0, 0, 0⟩ = (1, 0, [⟨2, ⟨#[]⟩, 1, 0, 0, 0⟩]) from by decide +kernel]
    rintro e w5 ⟨rfl, h1⟩
    clear H
    have H := hid h1
    clear h1
    go_wp2_with fail
    refine (mix_calls 1 2 H.out.swap).mono ?_
    rw [show mix6 3 [⟨2, ⟨#[]⟩, 1, 0, 0, 0⟩, ⟨2, ⟨#[]⟩, 2, 0, 0, 0⟩] 1 2 = (0, 0, 4, [⟨2, ⟨#[]⟩, 1, 0, 0, 0⟩, ⟨2, ⟨#[]⟩, 2, 0, 0, 0⟩, ⟨8, ⟨#[]⟩, 0, 1, 2, 0⟩]) from by decide +kernel]
    rintro e w6 ⟨rfl, h1⟩
    clear H
    have H := hid h1
    clear h1
    go_wp2_with fail
    refine (chain_calls 1 7 5 H.out.swap).mono ?_
    rw [show chain6 2 [⟨2, ⟨#[]⟩, 1, 0, 0, 0⟩] 1 7 5 = (0, 4, [⟨2, ⟨#[]⟩, 1, 0, 0, 0⟩, ⟨9, ⟨#[]⟩, 7, 1, 0, 0⟩]) from by decide +kernel]
    rintro e w7 ⟨rfl, h1⟩
    clear H
    have H := hid h1
    clear h1
    go_wp2_with fail
    refine (len_at H.out.swap).mono ?_
    rintro e w' ⟨rfl, rfl⟩
    go_wp2_with fail
    refine (len_at H.out).mono ?_
    rintro e w' ⟨rfl, rfl⟩
    go_wp2_with fail
    refine (fixed6_calls H.out).mono ?_
    rintro e w' ⟨rfl, h5⟩
    have H5 := hid h5
    clear h5
    go_wp2_with fail
    go_ret
    exact ⟨rfl, H5.out.below⟩

set_option maxRecDepth 100000 in
set_option maxHeartbeats 32000000 in
theorem kdfRoom_2 (a0 : Int) (ha0 : 0 ≤ a0) (ha1 : a0 ≤ 255) (a1 : Int) (hb0 : 0 ≤ a1) (hb1 : a1 ≤ 255) (W : World) (hm : a0 % 6 = 2) :
    Calls Try.prog 13 #[.int .u8 a0, .int .u8 a1] W fun e w' => e = .returned (.bool true) ∧ Below W.heap.size W w' := by
  have H := hid (Hd.refl W)
  obtain hr | hr | hr | hr | hr | hr : a1 % 6 = 0 ∨ a1 % 6 = 1 ∨ a1 % 6 = 2 ∨ a1 % 6 = 3 ∨ a1 % 6 = 4 ∨ a1 % 6 = 5 := by omega
  · go_enter Try.func13, Try.ntmps13
    go_wp2_with fail
    refine (new_calls H.out (by decide) (by decide)).mono ?_
    rintro e w1 ⟨b, rfl, h1⟩
    clear H
    have H := hid h1
    clear h1
    go_wp2_with fail
    refine (new_calls H.out (by decide) (by decide)).mono ?_
    rintro e w2 ⟨b', rfl, h1⟩
    clear H
    have H := hid h1
    clear h1
    go_wp2_with fail
    refine (put_calls _ _ _ _ _ _ H.out.swap).mono ?_
    rw [show put 4 [] ⟨2, ⟨#[]⟩, 1, 0, 0, 0⟩ = (1, 0, [⟨2, ⟨#[]⟩, 1, 0, 0, 0⟩]) from by decide +kernel]
    rintro e w3 ⟨rfl, h1⟩
    clear H
    have H := hid h1
    clear h1
    go_wp2_with fail
    refine (put_calls _ _ _ _ _ _ H.out).mono ?_
    rw [show put 4 [⟨2, ⟨#[]⟩, 1, 0, 0, 0⟩] ⟨2, ⟨#[]⟩, 2, 0, 0, 0⟩ = (2, 0, [⟨2, ⟨#[]⟩, 1, 0, 0, 0⟩, ⟨2, ⟨#[]⟩, 2, 0, 0, 0⟩]) from by decide +kernel]
    rintro e w4 ⟨rfl, h1⟩
    clear H
    have H := hid h1
    clear h1
    go_wp2_with fail
    refine (put_calls _ _ _ _ _ _ H.out.swap).mono ?_
    rw [show put 3 [] ⟨2, ⟨#[]⟩, 1, 0, 0, 0⟩ = (1, 0, [⟨2, ⟨#[]⟩, 1, 0, 0, 0⟩]) from by decide +kernel]
    rintro e w5 ⟨rfl, h1⟩
    clear H
    have H := hid h1
    clear h1
    go_wp2_with fail
    refine (mix_calls 1 2 H.out.swap).mono ?_
    rw [show mix6 4 [⟨2, ⟨#[]⟩, 1, 0, 0, 0⟩, ⟨2, ⟨#[]⟩, 2, 0, 0, 0⟩] 1 2 = (0, 0, 4, [⟨2, ⟨#[]⟩, 1, 0, 0, 0⟩, ⟨2, ⟨#[]⟩, 2, 0, 0, 0⟩, ⟨8, ⟨#[]⟩, 0, 1, 2, 0⟩, ⟨9, ⟨#[]⟩, 1, 3, 0, 0⟩]) from by decide +kernel]
    rintro e w6 ⟨rfl, h1⟩
    clear H
    have H := hid h1
    clear h1
    go_wp2_with fail
    refine (chain_calls 1 7 0 H.out.swap).mono ?_
    rw [show chain6 3 [⟨2, ⟨#[]⟩, 1, 0, 0, 0⟩] 1 7 0 = (1, 0, [⟨2, ⟨#[]⟩, 1, 0, 0, 0⟩]) from by decide +kernel]
    rintro e w7 ⟨rfl, h1⟩
    clear H
    have H := hid h1
    clear h1
    go_wp2_with fail
    refine (len_at H.out.swap).mono ?_
    rintro e w' ⟨rfl, rfl⟩
    go_wp2_with fail
    refine (len_at H.out).mono ?_
    rintro e w' ⟨rfl, rfl⟩
    go_wp2_with fail
    refine (fixed6_calls H.out).mono ?_
    rintro e w' ⟨rfl, h5⟩
    have H5 := hid h5
    clear h5
    go_wp2_with fail
    go_ret
    exact ⟨rfl, H5.out.below⟩
  · go_enter Try.func13, Try.ntmps13
    go_wp2_with fail
    refine (new_calls H.out (by decide) (by decide)).mono ?_
    rintro e w1 ⟨b, rfl, h1⟩
    clear H
    have H := hid h1
    clear h1
    go_wp2_with fail
    refine (new_calls H.out (by decide) (by decide)).mono ?_
    rintro e w2 ⟨b', rfl, h1⟩
    clear H
    have H := hid h1
    clear h1
    go_wp2_with fail
    refine (put_calls _ _ _ _ _ _ H.out.swap).mono ?_
    rw [show put 4 [] ⟨2, ⟨#[]⟩, 1, 0, 0, 0⟩ = (1, 0, [⟨2, ⟨#[]⟩, 1, 0, 0, 0⟩]) from by decide +kernel]
    rintro e w3 ⟨rfl, h1⟩
    clear H
    have H := hid h1
    clear h1
    go_wp2_with fail
    refine (put_calls _ _ _ _ _ _ H.out).mono ?_
    rw [show put 4 [⟨2, ⟨#[]⟩, 1, 0, 0, 0⟩] ⟨2, ⟨#[]⟩, 2, 0, 0, 0⟩ = (2, 0, [⟨2, ⟨#[]⟩, 1, 0, 0, 0⟩, ⟨2, ⟨#[]⟩, 2, 0, 0, 0⟩]) from by decide +kernel]
    rintro e w4 ⟨rfl, h1⟩
    clear H
    have H := hid h1
    clear h1
    go_wp2_with fail
    refine (put_calls _ _ _ _ _ _ H.out.swap).mono ?_
    rw [show put 3 [] ⟨2, ⟨#[]⟩, 1, 0, 0, 0⟩ = (1, 0, [⟨2, ⟨#[]⟩, 1, 0, 0, 0⟩]) from by decide +kernel]
    rintro e w5 ⟨rfl, h1⟩
    clear H
    have H := hid h1
    clear h1
    go_wp2_with fail
    refine (mix_calls 1 2 H.out.swap).mono ?_
    rw [show mix6 4 [⟨2, ⟨#[]⟩, 1, 0, 0, 0⟩, ⟨2, ⟨#[]⟩, 2, 0, 0, 0⟩] 1 2 = (0, 0, 4, [⟨2, ⟨#[]⟩, 1, 0, 0, 0⟩, ⟨2, ⟨#[]⟩, 2, 0, 0, 0⟩, ⟨8, ⟨#[]⟩, 0, 1, 2, 0⟩, ⟨9, ⟨#[]⟩, 1, 3, 0, 0⟩]) from by decide +kernel]
    rintro e w6 ⟨rfl, h1⟩
    clear H
    have H := hid h1
    clear h1
    go_wp2_with fail
    refine (chain_calls 1 7 1 H.out.swap).mono ?_
    rw [show chain6 3 [⟨2, ⟨#[]⟩, 1, 0, 0, 0⟩] 1 7 1 = (2, 0, [⟨2, ⟨#[]⟩, 1, 0, 0, 0⟩, ⟨9, ⟨#[]⟩, 7, 1, 0, 0⟩]) from by decide +kernel]
    rintro e w7 ⟨rfl, h1⟩
    clear H
    have H := hid h1
    clear h1
    go_wp2_with fail
    refine (len_at H.out.swap).mono ?_
    rintro e w' ⟨rfl, rfl⟩
    go_wp2_with fail
    refine (len_at H.out).mono ?_
    rintro e w' ⟨rfl, rfl⟩
    go_wp2_with fail
    refine (fixed6_calls H.out).mono ?_
    rintro e w' ⟨rfl, h5⟩
    have H5 := hid h5
    clear h5
    go_wp2_with fail
    go_ret
    exact ⟨rfl, H5.out.below⟩
  · go_enter Try.func13, Try.ntmps13
    go_wp2_with fail
    refine (new_calls H.out (by decide) (by decide)).mono ?_
    rintro e w1 ⟨b, rfl, h1⟩
    clear H
    have H := hid h1
    clear h1
    go_wp2_with fail
    refine (new_calls H.out (by decide) (by decide)).mono ?_
    rintro e w2 ⟨b', rfl, h1⟩
    clear H
    have H := hid h1
    clear h1
    go_wp2_with fail
    refine (put_calls _ _ _ _ _ _ H.out.swap).mono ?_
    rw [show put 4 [] ⟨2, ⟨#[]⟩, 1, 0, 0, 0⟩ = (1, 0, [⟨2, ⟨#[]⟩, 1, 0, 0, 0⟩]) from by decide +kernel]
    rintro e w3 ⟨rfl, h1⟩
    clear H
    have H := hid h1
    clear h1
    go_wp2_with fail
    refine (put_calls _ _ _ _ _ _ H.out).mono ?_
    rw [show put 4 [⟨2, ⟨#[]⟩, 1, 0, 0, 0⟩] ⟨2, ⟨#[]⟩, 2, 0, 0, 0⟩ = (2, 0, [⟨2, ⟨#[]⟩, 1, 0, 0, 0⟩, ⟨2, ⟨#[]⟩, 2, 0, 0, 0⟩]) from by decide +kernel]
    rintro e w4 ⟨rfl, h1⟩
    clear H
    have H := hid h1
    clear h1
    go_wp2_with fail
    refine (put_calls _ _ _ _ _ _ H.out.swap).mono ?_
    rw [show put 3 [] ⟨2, ⟨#[]⟩, 1, 0, 0, 0⟩ = (1, 0, [⟨2, ⟨#[]⟩, 1, 0, 0, 0⟩]) from by decide +kernel]
    rintro e w5 ⟨rfl, h1⟩
    clear H
    have H := hid h1
    clear h1
    go_wp2_with fail
    refine (mix_calls 1 2 H.out.swap).mono ?_
    rw [show mix6 4 [⟨2, ⟨#[]⟩, 1, 0, 0, 0⟩, ⟨2, ⟨#[]⟩, 2, 0, 0, 0⟩] 1 2 = (0, 0, 4, [⟨2, ⟨#[]⟩, 1, 0, 0, 0⟩, ⟨2, ⟨#[]⟩, 2, 0, 0, 0⟩, ⟨8, ⟨#[]⟩, 0, 1, 2, 0⟩, ⟨9, ⟨#[]⟩, 1, 3, 0, 0⟩]) from by decide +kernel]
    rintro e w6 ⟨rfl, h1⟩
    clear H
    have H := hid h1
    clear h1
    go_wp2_with fail
    refine (chain_calls 1 7 2 H.out.swap).mono ?_
    rw [show chain6 3 [⟨2, ⟨#[]⟩, 1, 0, 0, 0⟩] 1 7 2 = (3, 0, [⟨2, ⟨#[]⟩, 1, 0, 0, 0⟩, ⟨9, ⟨#[]⟩, 7, 1, 0, 0⟩, ⟨9, ⟨#[]⟩, 7, 2, 0, 0⟩]) from by decide +kernel]
    rintro e w7 ⟨rfl, h1⟩
    clear H
    have H := hid h1
    clear h1
    go_wp2_with fail
    refine (len_at H.out.swap).mono ?_
    rintro e w' ⟨rfl, rfl⟩
    go_wp2_with fail
    refine (len_at H.out).mono ?_
    rintro e w' ⟨rfl, rfl⟩
    go_wp2_with fail
    refine (fixed6_calls H.out).mono ?_
    rintro e w' ⟨rfl, h5⟩
    have H5 := hid h5
    clear h5
    go_wp2_with fail
    go_ret
    exact ⟨rfl, H5.out.below⟩
  · go_enter Try.func13, Try.ntmps13
    go_wp2_with fail
    refine (new_calls H.out (by decide) (by decide)).mono ?_
    rintro e w1 ⟨b, rfl, h1⟩
    clear H
    have H := hid h1
    clear h1
    go_wp2_with fail
    refine (new_calls H.out (by decide) (by decide)).mono ?_
    rintro e w2 ⟨b', rfl, h1⟩
    clear H
    have H := hid h1
    clear h1
    go_wp2_with fail
    refine (put_calls _ _ _ _ _ _ H.out.swap).mono ?_
    rw [show put 4 [] ⟨2, ⟨#[]⟩, 1, 0, 0, 0⟩ = (1, 0, [⟨2, ⟨#[]⟩, 1, 0, 0, 0⟩]) from by decide +kernel]
    rintro e w3 ⟨rfl, h1⟩
    clear H
    have H := hid h1
    clear h1
    go_wp2_with fail
    refine (put_calls _ _ _ _ _ _ H.out).mono ?_
    rw [show put 4 [⟨2, ⟨#[]⟩, 1, 0, 0, 0⟩] ⟨2, ⟨#[]⟩, 2, 0, 0, 0⟩ = (2, 0, [⟨2, ⟨#[]⟩, 1, 0, 0, 0⟩, ⟨2, ⟨#[]⟩, 2, 0, 0, 0⟩]) from by decide +kernel]
    rintro e w4 ⟨rfl, h1⟩
    clear H
    have H := hid h1
    clear h1
    go_wp2_with fail
    refine (put_calls _ _ _ _ _ _ H.out.swap).mono ?_
    rw [show put 3 [] ⟨2, ⟨#[]⟩, 1, 0, 0, 0⟩ = (1, 0, [⟨2, ⟨#[]⟩, 1, 0, 0, 0⟩]) from by decide +kernel]
    rintro e w5 ⟨rfl, h1⟩
    clear H
    have H := hid h1
    clear h1
    go_wp2_with fail
    refine (mix_calls 1 2 H.out.swap).mono ?_
    rw [show mix6 4 [⟨2, ⟨#[]⟩, 1, 0, 0, 0⟩, ⟨2, ⟨#[]⟩, 2, 0, 0, 0⟩] 1 2 = (0, 0, 4, [⟨2, ⟨#[]⟩, 1, 0, 0, 0⟩, ⟨2, ⟨#[]⟩, 2, 0, 0, 0⟩, ⟨8, ⟨#[]⟩, 0, 1, 2, 0⟩, ⟨9, ⟨#[]⟩, 1, 3, 0, 0⟩]) from by decide +kernel]
    rintro e w6 ⟨rfl, h1⟩
    clear H
    have H := hid h1
    clear h1
    go_wp2_with fail
    refine (chain_calls 1 7 3 H.out.swap).mono ?_
    rw [show chain6 3 [⟨2, ⟨#[]⟩, 1, 0, 0, 0⟩] 1 7 3 = (0, 4, [⟨2, ⟨#[]⟩, 1, 0, 0, 0⟩, ⟨9, ⟨#[]⟩, 7, 1, 0, 0⟩, ⟨9, ⟨#[]⟩, 7, 2, 0, 0⟩]) from by decide +kernel]
    rintro e w7 ⟨rfl, h1⟩
    clear H
    have H := hid h1
    clear h1
    go_wp2_with fail
    refine (len_at H.out.swap).mono ?_
    rintro e w' ⟨rfl, rfl⟩
    go_wp2_with fail
    refine (len_at H.out).mono ?_
    rintro e w' ⟨rfl, rfl⟩
    go_wp2_with fail
    refine (fixed6_calls H.out).mono ?_
    rintro e w' ⟨rfl, h5⟩
    have H5 := hid h5
    clear h5
    go_wp2_with fail
    go_ret
    exact ⟨rfl, H5.out.below⟩
  · go_enter Try.func13, Try.ntmps13
    go_wp2_with fail
    refine (new_calls H.out (by decide) (by decide)).mono ?_
    rintro e w1 ⟨b, rfl, h1⟩
    clear H
    have H := hid h1
    clear h1
    go_wp2_with fail
    refine (new_calls H.out (by decide) (by decide)).mono ?_
    rintro e w2 ⟨b', rfl, h1⟩
    clear H
    have H := hid h1
    clear h1
    go_wp2_with fail
    refine (put_calls _ _ _ _ _ _ H.out.swap).mono ?_
    rw [show put 4 [] ⟨2, ⟨#[]⟩, 1, 0, 0, 0⟩ = (1, 0, [⟨2, ⟨#[]⟩, 1, 0, 0, 0⟩]) from by decide +kernel]
    rintro e w3 ⟨rfl, h1⟩
    clear H
    have H := hid h1
    clear h1
    go_wp2_with fail
    refine (put_calls _ _ _ _ _ _ H.out).mono ?_
    rw [show put 4 [⟨2, ⟨#[]⟩, 1, 0, 0, 0⟩] ⟨2, ⟨#[]⟩, 2, 0, 0, 0⟩ = (2, 0, [⟨2, ⟨#[]⟩, 1, 0, 0, 0⟩, ⟨2, ⟨#[]⟩, 2, 0, 0, 0⟩]) from by decide +kernel]
    rintro e w4 ⟨rfl, h1⟩
    clear H
    have H := hid h1
    clear h1
    go_wp2_with fail
    refine (put_calls _ _ _ _ _ _ H.out.swap).mono ?_
    rw [show put 3 [] ⟨2, ⟨#[]⟩, 1, 0, 0, 0⟩ = (1, 0, [⟨2, ⟨#[]⟩, 1, 0, 0, 0⟩]) from by decide +kernel]
    rintro e w5 ⟨rfl, h1⟩
    clear H
    have H := hid h1
    clear h1
    go_wp2_with fail
    refine (mix_calls 1 2 H.out.swap).mono ?_
    rw [show mix6 4 [⟨2, ⟨#[]⟩, 1, 0, 0, 0⟩, ⟨2, ⟨#[]⟩, 2, 0, 0, 0⟩] 1 2 = (0, 0, 4, [⟨2, ⟨#[]⟩, 1, 0, 0, 0⟩, ⟨2, ⟨#[]⟩, 2, 0, 0, 0⟩, ⟨8, ⟨#[]⟩, 0, 1, 2, 0⟩, ⟨9, ⟨#[]⟩, 1, 3, 0, 0⟩]) from by decide +kernel]
    rintro e w6 ⟨rfl, h1⟩
    clear H
    have H := hid h1
    clear h1
    go_wp2_with fail
    refine (chain_calls 1 7 4 H.out.swap).mono ?_
    rw [show chain6 3 [⟨2, ⟨#[]⟩, 1, 0, 0, 0⟩] 1 7 4 = (0, 4, [⟨2, ⟨#[]⟩, 1, 0, 0, 0⟩, ⟨9, ⟨#[]⟩, 7, 1, 0, 0⟩, ⟨9, ⟨#[]⟩, 7, 2, 0, 0⟩]) from by decide +kernel]
    rintro e w7 ⟨rfl, h1⟩
    clear H
    have H := hid h1
    clear h1
    go_wp2_with fail
    refine (len_at H.out.swap).mono ?_
    rintro e w' ⟨rfl, rfl⟩
    go_wp2_with fail
    refine (len_at H.out).mono ?_
    rintro e w' ⟨rfl, rfl⟩
    go_wp2_with fail
    refine (fixed6_calls H.out).mono ?_
    rintro e w' ⟨rfl, h5⟩
    have H5 := hid h5
    clear h5
    go_wp2_with fail
    go_ret
    exact ⟨rfl, H5.out.below⟩
  · go_enter Try.func13, Try.ntmps13
    go_wp2_with fail
    refine (new_calls H.out (by decide) (by decide)).mono ?_
    rintro e w1 ⟨b, rfl, h1⟩
    clear H
    have H := hid h1
    clear h1
    go_wp2_with fail
    refine (new_calls H.out (by decide) (by decide)).mono ?_
    rintro e w2 ⟨b', rfl, h1⟩
    clear H
    have H := hid h1
    clear h1
    go_wp2_with fail
    refine (put_calls _ _ _ _ _ _ H.out.swap).mono ?_
    rw [show put 4 [] ⟨2, ⟨#[]⟩, 1, 0, 0, 0⟩ = (1, 0, [⟨2, ⟨#[]⟩, 1, 0, 0, 0⟩]) from by decide +kernel]
    rintro e w3 ⟨rfl, h1⟩
    clear H
    have H := hid h1
    clear h1
    go_wp2_with fail
    refine (put_calls _ _ _ _ _ _ H.out).mono ?_
    rw [show put 4 [⟨2, ⟨#[]⟩, 1, 0, 0, 0⟩] ⟨2, ⟨#[]⟩, 2, 0, 0, 0⟩ = (2, 0, [⟨2, ⟨#[]⟩, 1, 0, 0, 0⟩, ⟨2, ⟨#[]⟩, 2, 0, 0, 0⟩]) from by decide +kernel]
    rintro e w4 ⟨rfl, h1⟩
    clear H
    have H := hid h1
    clear h1
    go_wp2_with fail
    refine (put_calls _ _ _ _ _ _ H.out.swap).mono ?_
    rw [show put 3 [] ⟨2, ⟨#[]⟩, 1, 0, 0, 0⟩ = (1, 0, [⟨2, ⟨#[]⟩, 1, 0, 0, 0⟩]) from by decide +kernel]
    rintro e w5 ⟨rfl, h1⟩
    clear H
    have H := hid h1
    clear h1
    go_wp2_with fail
    refine (mix_calls 1 2 H.out.swap).mono ?_
    rw [show mix6 4 [⟨2, ⟨#[]⟩, 1, 0, 0, 0⟩, ⟨2, ⟨#[]⟩, 2, 0, 0, 0⟩] 1 2 = (0, 0, 4, [⟨2, ⟨#[]⟩, 1, 0, 0, 0⟩, ⟨2, ⟨#[]⟩, 2, 0, 0, 0⟩, ⟨8, ⟨#[]⟩, 0, 1, 2, 0⟩, ⟨9, ⟨#[]⟩, 1, 3, 0, 0⟩]) from by decide +kernel]
    rintro e w6 ⟨rfl, h1⟩
    clear H
    have H := hid h1
    clear h1
    go_wp2_with fail
    refine (chain_calls 1 7 5 H.out.swap).mono ?_
    rw [show chain6 3 [⟨2, ⟨#[]⟩, 1, 0, 0, 0⟩] 1 7 5 = (0, 4, [⟨2, ⟨#[]⟩, 1, 0, 0, 0⟩, ⟨9, ⟨#[]⟩, 7, 1, 0, 0⟩, ⟨9, ⟨#[]⟩, 7, 2, 0, 0⟩]) from by decide +kernel]
    rintro e w7 ⟨rfl, h1⟩
    clear H
    have H := hid h1
    clear h1
    go_wp2_with fail
    refine (len_at H.out.swap).mono ?_
    rintro e w' ⟨rfl, rfl⟩
    go_wp2_with fail
    refine (len_at H.out).mono ?_
    rintro e w' ⟨rfl, rfl⟩
    go_wp2_with fail
    refine (fixed6_calls H.out).mono ?_
    rintro e w' ⟨rfl, h5⟩
    have H5 := hid h5
    clear h5
    go_wp2_with fail
    go_ret
    exact ⟨rfl, H5.out.below⟩

set_option maxRecDepth 100000 in
set_option maxHeartbeats 32000000 in
theorem kdfRoom_3 (a0 : Int) (ha0 : 0 ≤ a0) (ha1 : a0 ≤ 255) (a1 : Int) (hb0 : 0 ≤ a1) (hb1 : a1 ≤ 255) (W : World) (hm : a0 % 6 = 3) :
    Calls Try.prog 13 #[.int .u8 a0, .int .u8 a1] W fun e w' => e = .returned (.bool true) ∧ Below W.heap.size W w' := by
  have H := hid (Hd.refl W)
  obtain hr | hr | hr | hr | hr | hr : a1 % 6 = 0 ∨ a1 % 6 = 1 ∨ a1 % 6 = 2 ∨ a1 % 6 = 3 ∨ a1 % 6 = 4 ∨ a1 % 6 = 5 := by omega
  · go_enter Try.func13, Try.ntmps13
    go_wp2_with fail
    refine (new_calls H.out (by decide) (by decide)).mono ?_
    rintro e w1 ⟨b, rfl, h1⟩
    clear H
    have H := hid h1
    clear h1
    go_wp2_with fail
    refine (new_calls H.out (by decide) (by decide)).mono ?_
    rintro e w2 ⟨b', rfl, h1⟩
    clear H
    have H := hid h1
    clear h1
    go_wp2_with fail
    refine (put_calls _ _ _ _ _ _ H.out.swap).mono ?_
    rw [show put 5 [] ⟨2, ⟨#[]⟩, 1, 0, 0, 0⟩ = (1, 0, [⟨2, ⟨#[]⟩, 1, 0, 0, 0⟩]) from by decide +kernel]
    rintro e w3 ⟨rfl, h1⟩
    clear H
    have H := hid h1
    clear h1
    go_wp2_with fail
    refine (put_calls _ _ _ _ _ _ H.out).mono ?_
    rw [show put 5 [⟨2, ⟨#[]⟩, 1, 0, 0, 0⟩] ⟨2, ⟨#[]⟩, 2, 0, 0, 0⟩ = (2, 0, [⟨2, ⟨#[]⟩, 1, 0, 0, 0⟩, ⟨2, ⟨#[]⟩, 2, 0, 0, 0⟩]) from by decide +kernel]
    rintro e w4 ⟨rfl, h1⟩
    clear H
    have H := hid h1
    clear h1
    go_wp2_with fail
    refine (put_calls _ _ _ _ _ _ H.out.swap).mono ?_
    rw [show put 4 [] ⟨2, ⟨#[]⟩, 1, 0, 0, 0⟩ = (1, 0, [⟨2, ⟨#[]⟩, 1, 0, 0, 0⟩]) from by decide +kernel]
    rintro e w5 ⟨rfl, h1⟩
    clear H
    have H := hid h1
    clear h1
    go_wp2_with fail
    refine (mix_calls 1 2 H.out.swap).mono ?_
    rw [show mix6 5 [⟨2, ⟨#[]⟩, 1, 0, 0, 0⟩, ⟨2, ⟨#[]⟩, 2, 0, 0, 0⟩] 1 2 = (4, 5, 0, [⟨2, ⟨#[]⟩, 1, 0, 0, 0⟩, ⟨2, ⟨#[]⟩, 2, 0, 0, 0⟩, ⟨8, ⟨#[]⟩, 0, 1, 2, 0⟩, ⟨9, ⟨#[]⟩, 1, 3, 0, 0⟩, ⟨9, ⟨#[]⟩, 2, 3, 0, 0⟩]) from by decide +kernel]
    rintro e w6 ⟨rfl, h1⟩
    clear H
    have H := hid h1
    clear h1
    go_wp2_with fail
    refine (chain_calls 1 7 0 H.out.swap).mono ?_
    rw [show chain6 4 [⟨2, ⟨#[]⟩, 1, 0, 0, 0⟩] 1 7 0 = (1, 0, [⟨2, ⟨#[]⟩, 1, 0, 0, 0⟩]) from by decide +kernel]
    rintro e w7 ⟨rfl, h1⟩
    clear H
    have H := hid h1
    clear h1
    go_wp2_with fail
    refine (len_at H.out.swap).mono ?_
    rintro e w' ⟨rfl, rfl⟩
    go_wp2_with fail
    refine (len_at H.out).mono ?_
    rintro e w' ⟨rfl, rfl⟩
    go_wp2_with fail
    refine (fixed6_calls H.out).mono ?_
    rintro e w' ⟨rfl, h5⟩
    have H5 := hid h5
    clear h5
    go_wp2_with fail
    go_ret
    exact ⟨rfl, H5.out.below⟩
  · go_enter Try.func13, Try.ntmps13
    go_wp2_with fail
    refine (new_calls H.out (by decide) (by decide)).mono ?_
    rintro e w1 ⟨b, rfl, h1⟩
    clear H
    have H := hid h1
    clear h1
    go_wp2_with fail
    refine (new_calls H.out (by decide) (by decide)).mono ?_
    rintro e w2 ⟨b', rfl, h1⟩
    clear H
    have H := hid h1
    clear h1
    go_wp2_with fail
    refine (put_calls _ _ _ _ _ _ H.out.swap).mono ?_
    rw [show put 5 [] ⟨2, ⟨#[]⟩, 1, 0, 0, 0⟩ = (1, 0, [⟨2, ⟨#[]⟩, 1, 0, 0, 0⟩]) from by decide +kernel]
    rintro e w3 ⟨rfl, h1⟩
    clear H
    have H := hid h1
    clear h1
    go_wp2_with fail
    refine (put_calls _ _ _ _ _ _ H.out).mono ?_
    rw [show put 5 [⟨2, ⟨#[]⟩, 1, 0, 0, 0⟩] ⟨2, ⟨#[]⟩, 2, 0, 0, 0⟩ = (2, 0, [⟨2, ⟨#[]⟩, 1, 0, 0, 0⟩, ⟨2, ⟨#[]⟩, 2, 0, 0, 0⟩]) from by decide +kernel]
    rintro e w4 ⟨rfl, h1⟩
    clear H
    have H := hid h1
    clear h1
    go_wp2_with fail
    refine (put_calls _ _ _ _ _ _ H.out.swap).mono ?_
    rw [show put 4 [] ⟨2, ⟨#[]⟩, 1, 0, 0, 0⟩ = (1, 0, [⟨2, ⟨#[]⟩, 1, 0, 0, 0⟩]) from by decide +kernel]
    rintro e w5 ⟨rfl, h1⟩
    clear H
    have H := hid h1
    clear h1
    go_wp2_with fail
    refine (mix_calls 1 2 H.out.swap).mono ?_
    rw [show mix6 5 [⟨2, ⟨#[]⟩, 1, 0, 0, 0⟩, ⟨2, ⟨#[]⟩, 2, 0, 0, 0⟩] 1 2 = (4, 5, 0, [⟨2, ⟨#[]⟩, 1, 0, 0, 0⟩, ⟨2, ⟨#[]⟩, 2, 0, 0, 0⟩, ⟨8, ⟨#[]⟩, 0, 1, 2, 0⟩, ⟨9, ⟨#[]⟩, 1, 3, 0, 0⟩, ⟨9, ⟨#[]⟩, 2, 3, 0, 0⟩]) from by decide +kernel]
    rintro e w6 ⟨rfl, h1⟩
    clear H
    have H := hid h1
    clear h1
    go_wp2_with fail
    refine (chain_calls 1 7 1 H.out.swap).mono ?_
    rw [show chain6 4 [⟨2, ⟨#[]⟩, 1, 0, 0, 0⟩] 1 7 1 = (2, 0, [⟨2, ⟨#[]⟩, 1, 0, 0, 0⟩, ⟨9, ⟨#[]⟩, 7, 1, 0, 0⟩]) from by decide +kernel]
    rintro e w7 ⟨rfl, h1⟩
    clear H
    have H := hid h1
    clear h1
    go_wp2_with fail
    refine (len_at H.out.swap).mono ?_
    rintro e w' ⟨rfl, rfl⟩
    go_wp2_with fail
    refine (len_at H.out).mono ?_
    rintro e w' ⟨rfl, rfl⟩
    go_wp2_with fail
    refine (fixed6_calls H.out).mono ?_
    rintro e w' ⟨rfl, h5⟩
    have H5 := hid h5
    clear h5
    go_wp2_with fail
    go_ret
    exact ⟨rfl, H5.out.below⟩
  · go_enter Try.func13, Try.ntmps13
    go_wp2_with fail
    refine (new_calls H.out (by decide) (by decide)).mono ?_
    rintro e w1 ⟨b, rfl, h1⟩
    clear H
    have H := hid h1
    clear h1
    go_wp2_with fail
    refine (new_calls H.out (by decide) (by decide)).mono ?_
    rintro e w2 ⟨b', rfl, h1⟩
    clear H
    have H := hid h1
    clear h1
    go_wp2_with fail
    refine (put_calls _ _ _ _ _ _ H.out.swap).mono ?_
    rw [show put 5 [] ⟨2, ⟨#[]⟩, 1, 0, 0, 0⟩ = (1, 0, [⟨2, ⟨#[]⟩, 1, 0, 0, 0⟩]) from by decide +kernel]
    rintro e w3 ⟨rfl, h1⟩
    clear H
    have H := hid h1
    clear h1
    go_wp2_with fail
    refine (put_calls _ _ _ _ _ _ H.out).mono ?_
    rw [show put 5 [⟨2, ⟨#[]⟩, 1, 0, 0, 0⟩] ⟨2, ⟨#[]⟩, 2, 0, 0, 0⟩ = (2, 0, [⟨2, ⟨#[]⟩, 1, 0, 0, 0⟩, ⟨2, ⟨#[]⟩, 2, 0, 0, 0⟩]) from by decide +kernel]
    rintro e w4 ⟨rfl, h1⟩
    clear H
    have H := hid h1
    clear h1
    go_wp2_with fail
    refine (put_calls _ _ _ _ _ _ H.out.swap).mono ?_
    rw [show put 4 [] ⟨2, ⟨#[]⟩, 1, 0, 0, 0⟩ = (1, 0, [⟨2, ⟨#[]⟩, 1, 0, 0, 0⟩]) from by decide +kernel]
    rintro e w5 ⟨rfl, h1⟩
    clear H
    have H := hid h1
    clear h1
    go_wp2_with fail
    refine (mix_calls 1 2 H.out.swap).mono ?_
    rw [show mix6 5 [⟨2, ⟨#[]⟩, 1, 0, 0, 0⟩, ⟨2, ⟨#[]⟩, 2, 0, 0, 0⟩] 1 2 = (4, 5, 0, [⟨2, ⟨#[]⟩, 1, 0, 0, 0⟩, ⟨2, ⟨#[]⟩, 2, 0, 0, 0⟩, ⟨8, ⟨#[]⟩, 0, 1, 2, 0⟩, ⟨9, ⟨#[]⟩, 1, 3, 0, 0⟩, ⟨9, ⟨#[]⟩, 2, 3, 0, 0⟩]) from by decide +kernel]
    rintro e w6 ⟨rfl, h1⟩
    clear H
    have H := hid h1
    clear h1
    go_wp2_with fail
    refine (chain_calls 1 7 2 H.out.swap).mono ?_
    rw [show chain6 4 [⟨2, ⟨#[]⟩, 1, 0, 0, 0⟩] 1 7 2 = (3, 0, [⟨2, ⟨#[]⟩, 1, 0, 0, 0⟩, ⟨9, ⟨#[]⟩, 7, 1, 0, 0⟩, ⟨9, ⟨#[]⟩, 7, 2, 0, 0⟩]) from by decide +kernel]
    rintro e w7 ⟨rfl, h1⟩
    clear H
    have H := hid h1
    clear h1
    go_wp2_with fail
    refine (len_at H.out.swap).mono ?_
    rintro e w' ⟨rfl, rfl⟩
    go_wp2_with fail
    refine (len_at H.out).mono ?_
    rintro e w' ⟨rfl, rfl⟩
    go_wp2_with fail
    refine (fixed6_calls H.out).mono ?_
    rintro e w' ⟨rfl, h5⟩
    have H5 := hid h5
    clear h5
    go_wp2_with fail
    go_ret
    exact ⟨rfl, H5.out.below⟩
  · go_enter Try.func13, Try.ntmps13
    go_wp2_with fail
    refine (new_calls H.out (by decide) (by decide)).mono ?_
    rintro e w1 ⟨b, rfl, h1⟩
    clear H
    have H := hid h1
    clear h1
    go_wp2_with fail
    refine (new_calls H.out (by decide) (by decide)).mono ?_
    rintro e w2 ⟨b', rfl, h1⟩
    clear H
    have H := hid h1
    clear h1
    go_wp2_with fail
    refine (put_calls _ _ _ _ _ _ H.out.swap).mono ?_
    rw [show put 5 [] ⟨2, ⟨#[]⟩, 1, 0, 0, 0⟩ = (1, 0, [⟨2, ⟨#[]⟩, 1, 0, 0, 0⟩]) from by decide +kernel]
    rintro e w3 ⟨rfl, h1⟩
    clear H
    have H := hid h1
    clear h1
    go_wp2_with fail
    refine (put_calls _ _ _ _ _ _ H.out).mono ?_
    rw [show put 5 [⟨2, ⟨#[]⟩, 1, 0, 0, 0⟩] ⟨2, ⟨#[]⟩, 2, 0, 0, 0⟩ = (2, 0, [⟨2, ⟨#[]⟩, 1, 0, 0, 0⟩, ⟨2, ⟨#[]⟩, 2, 0, 0, 0⟩]) from by decide +kernel]
    rintro e w4 ⟨rfl, h1⟩
    clear H
    have H := hid h1
    clear h1
    go_wp2_with fail
    refine (put_calls _ _ _ _ _ _ H.out.swap).mono ?_
    rw [show put 4 [] ⟨2, ⟨#[]⟩, 1, 0, 0, 0⟩ = (1, 0, [⟨2, ⟨#[]⟩, 1, 0, 0, 0⟩]) from by decide +kernel]
    rintro e w5 ⟨rfl, h1⟩
    clear H
    have H := hid h1
    clear h1
    go_wp2_with fail
    refine (mix_calls 1 2 H.out.swap).mono ?_
    rw [show mix6 5 [⟨2, ⟨#[]⟩, 1, 0, 0, 0⟩, ⟨2, ⟨#[]⟩, 2, 0, 0, 0⟩] 1 2 = (4, 5, 0, [⟨2, ⟨#[]⟩, 1, 0, 0, 0⟩, ⟨2, ⟨#[]⟩, 2, 0, 0, 0⟩, ⟨8, ⟨#[]⟩, 0, 1, 2, 0⟩, ⟨9, ⟨#[]⟩, 1, 3, 0, 0⟩, ⟨9, ⟨#[]⟩, 2, 3, 0, 0⟩]) from by decide +kernel]
    rintro e w6 ⟨rfl, h1⟩
    clear H
    have H := hid h1
    clear h1
    go_wp2_with fail
    refine (chain_calls 1 7 3 H.out.swap).mono ?_
    rw [show chain6 4 [⟨2, ⟨#[]⟩, 1, 0, 0, 0⟩] 1 7 3 = (4, 0, [⟨2, ⟨#[]⟩, 1, 0, 0, 0⟩, ⟨9, ⟨#[]⟩, 7, 1, 0, 0⟩, ⟨9, ⟨#[]⟩, 7, 2, 0, 0⟩, ⟨9, ⟨#[]⟩, 7, 3, 0, 0⟩]) from by decide +kernel]
    rintro e w7 ⟨rfl, h1⟩
    clear H
    have H := hid h1
    clear h1
    go_wp2_with fail
    refine (len_at H.out.swap).mono ?_
    rintro e w' ⟨rfl, rfl⟩
    go_wp2_with fail
    refine (len_at H.out).mono ?_
    rintro e w' ⟨rfl, rfl⟩
    go_wp2_with fail
    refine (fixed6_calls H.out).mono ?_
    rintro e w' ⟨rfl, h5⟩
    have H5 := hid h5
    clear h5
    go_wp2_with fail
    go_ret
    exact ⟨rfl, H5.out.below⟩
  · go_enter Try.func13, Try.ntmps13
    go_wp2_with fail
    refine (new_calls H.out (by decide) (by decide)).mono ?_
    rintro e w1 ⟨b, rfl, h1⟩
    clear H
    have H := hid h1
    clear h1
    go_wp2_with fail
    refine (new_calls H.out (by decide) (by decide)).mono ?_
    rintro e w2 ⟨b', rfl, h1⟩
    clear H
    have H := hid h1
    clear h1
    go_wp2_with fail
    refine (put_calls _ _ _ _ _ _ H.out.swap).mono ?_
    rw [show put 5 [] ⟨2, ⟨#[]⟩, 1, 0, 0, 0⟩ = (1, 0, [⟨2, ⟨#[]⟩, 1, 0, 0, 0⟩]) from by decide +kernel]
    rintro e w3 ⟨rfl, h1⟩
    clear H
    have H := hid h1
    clear h1
    go_wp2_with fail
    refine (put_calls _ _ _ _ _ _ H.out).mono ?_
    rw [show put 5 [⟨2, ⟨#[]⟩, 1, 0, 0, 0⟩] ⟨2, ⟨#[]⟩, 2, 0, 0, 0⟩ = (2, 0, [⟨2, ⟨#[]⟩, 1, 0, 0, 0⟩, ⟨2, ⟨#[]⟩, 2, 0, 0, 0⟩]) from by decide +kernel]
    rintro e w4 ⟨rfl, h1⟩
    clear H
    have H := hid h1
    clear h1
    go_wp2_with fail
    refine (put_calls _ _ _ _ _ _ H.out.swap).mono ?_
    rw [show put 4 [] ⟨2, ⟨#[]⟩, 1, 0, 0, 0⟩ = (1, 0, [⟨2, ⟨#[]⟩, 1, 0, 0, 0⟩]) from by decide +kernel]
    rintro e w5 ⟨rfl, h1⟩
    clear H
    have H := hid h1
    clear h1
    go_wp2_with fail
    refine (mix_calls 1 2 H.out.swap).mono ?_
    rw [show mix6 5 [⟨2, ⟨#[]⟩, 1, 0, 0, 0⟩, ⟨2, ⟨#[]⟩, 2, 0, 0, 0⟩] 1 2 = (4, 5, 0, [⟨2, ⟨#[]⟩, 1, 0, 0, 0⟩, ⟨2, ⟨#[]⟩, 2, 0, 0, 0⟩, ⟨8, ⟨#[]⟩, 0, 1, 2, 0⟩, ⟨9, ⟨#[]⟩, 1, 3, 0, 0⟩, ⟨9, ⟨#[]⟩, 2, 3, 0, 0⟩]) from by decide +kernel]
    rintro e w6 ⟨rfl, h1⟩
    clear H
    have H := hid h1
    clear h1
    go_wp2_with fail
    refine (chain_calls 1 7 4 H.out.swap).mono ?_
    rw [show chain6 4 [⟨2, ⟨#[]⟩, 1, 0, 0, 0⟩] 1 7 4 = (0, 4, [⟨2, ⟨#[]⟩, 1, 0, 0, 0⟩, ⟨9, ⟨#[]⟩, 7, 1, 0, 0⟩, ⟨9, ⟨#[]⟩, 7, 2, 0, 0⟩, ⟨9, ⟨#[]⟩, 7, 3, 0, 0⟩]) from by decide +kernel]
    rintro e w7 ⟨rfl, h1⟩
    clear H
    have H := hid h1
    clear h1
    go_wp2_with fail
    refine (len_at H.out.swap).mono ?_
    rintro e w' ⟨rfl, rfl⟩
    go_wp2_with fail
    refine (len_at H.out).mono ?_
    rintro e w' ⟨rfl, rfl⟩
    go_wp2_with fail
    refine (fixed6_calls H.out).mono ?_
    rintro e w' ⟨rfl, h5⟩
    have H5 := hid h5
    clear h5
    go_wp2_with fail
    go_ret
    exact ⟨rfl, H5.out.below⟩
  · go_enter Try.func13, Try.ntmps13
    go_wp2_with fail
    refine (new_calls H.out (by decide) (by decide)).mono ?_
    rintro e w1 ⟨b, rfl, h1⟩
    clear H
    have H := hid h1
    clear h1
    go_wp2_with fail
    refine (new_calls H.out (by decide) (by decide)).mono ?_
    rintro e w2 ⟨b', rfl, h1⟩
    clear H
    have H := hid h1
    clear h1
    go_wp2_with fail
    refine (put_calls _ _ _ _ _ _ H.out.swap).mono ?_
    rw [show put 5 [] ⟨2, ⟨#[]⟩, 1, 0, 0, 0⟩ = (1, 0, [⟨2, ⟨#[]⟩, 1, 0, 0, 0⟩]) from by decide +kernel]
    rintro e w3 ⟨rfl, h1⟩
    clear H
    have H := hid h1
    clear h1
    go_wp2_with fail
    refine (put_calls _ _ _ _ _ _ H.out).mono ?_
    rw [show put 5 [⟨2, ⟨#[]⟩, 1, 0, 0, 0⟩] ⟨2, ⟨#[]⟩, 2, 0, 0, 0⟩ = (2, 0, [⟨2, ⟨#[]⟩, 1, 0, 0, 0⟩, ⟨2, ⟨#[]⟩, 2, 0, 0, 0⟩]) from by decide +kernel]
    rintro e w4 ⟨rfl, h1⟩
    clear H
    have H := hid h1
    clear h1
    go_wp2_with fail
    refine (put_calls _ _ _ _ _ _ H.out.swap).mono ?_
    rw [show put 4 [] ⟨2, ⟨#[]⟩, 1, 0, 0, 0⟩ = (1, 0, [⟨2, ⟨#[]⟩, 1, 0, 0, 0⟩]) from by decide +kernel]
    rintro e w5 ⟨rfl, h1⟩
    clear H
    have H := hid h1
    clear h1
    go_wp2_with fail
    refine (mix_calls 1 2 H.out.swap).mono ?_
    rw [show mix6 5 [⟨2, ⟨#[]⟩, 1, 0, 0, 0⟩, ⟨2, ⟨#[]⟩, 2, 0, 0, 0⟩] 1 2 = (4, 5, 0, [⟨2, ⟨#[]⟩, 1, 0, 0, 0⟩, ⟨2, ⟨#[]⟩, 2, 0, 0, 0⟩, ⟨8, ⟨#[]⟩, 0, 1, 2, 0⟩, ⟨9, ⟨#[]⟩, 1, 3, 0, 0⟩, ⟨9, ⟨#[]⟩, 2, 3, 0, 0⟩]) from by decide +kernel]
    rintro e w6 ⟨rfl, h1⟩
    clear H
    have H := hid h1
    clear h1
    go_wp2_with fail
    refine (chain_calls 1 7 5 H.out.swap).mono ?_
    rw [show chain6 4 [⟨2, ⟨#[]⟩, 1, 0, 0, 0⟩] 1 7 5 = (0, 4, [⟨2, ⟨#[]⟩, 1, 0, 0, 0⟩, ⟨9, ⟨#[]⟩, 7, 1, 0, 0⟩, ⟨9, ⟨#[]⟩, 7, 2, 0, 0⟩, ⟨9, ⟨#[]⟩, 7, 3, 0, 0⟩]) from by decide +kernel]
    rintro e w7 ⟨rfl, h1⟩
    clear H
    have H := hid h1
    clear h1
    go_wp2_with fail
    refine (len_at H.out.swap).mono ?_
    rintro e w' ⟨rfl, rfl⟩
    go_wp2_with fail
    refine (len_at H.out).mono ?_
    rintro e w' ⟨rfl, rfl⟩
    go_wp2_with fail
    refine (fixed6_calls H.out).mono ?_
    rintro e w' ⟨rfl, h5⟩
    have H5 := hid h5
    clear h5
    go_wp2_with fail
    go_ret
    exact ⟨rfl, H5.out.below⟩

set_option maxRecDepth 100000 in
set_option maxHeartbeats 32000000 in
theorem kdfRoom_4 (a0 : Int) (ha0 : 0 ≤ a0) (ha1 : a0 ≤ 255) (a1 : Int) (hb0 : 0 ≤ a1) (hb1 : a1 ≤ 255) (W : World) (hm : a0 % 6 = 4) :
    Calls Try.prog 13 #[.int .u8 a0, .int .u8 a1] W fun e w' => e = .returned (.bool true) ∧ Below W.heap.size W w' := by
  have H := hid (Hd.refl W)
  obtain hr | hr | hr | hr | hr | hr : a1 % 6 = 0 ∨ a1 % 6 = 1 ∨ a1 % 6 = 2 ∨ a1 % 6 = 3 ∨ a1 % 6 = 4 ∨ a1 % 6 = 5 := by omega
  · go_enter Try.func13, Try.ntmps13
    go_wp2_with fail
    refine (new_calls H.out (by decide) (by decide)).mono ?_
    rintro e w1 ⟨b, rfl, h1⟩
    clear H
    have H := hid h1
    clear h1
    go_wp2_with fail
    refine (new_calls H.out (by decide) (by decide)).mono ?_
    rintro e w2 ⟨b', rfl, h1⟩
    clear H
    have H := hid h1
    clear h1
    go_wp2_with fail
    refine (put_calls _ _ _ _ _ _ H.out.swap).mono ?_
    rw [show put 6 [] ⟨2, ⟨#[]⟩, 1, 0, 0, 0⟩ = (1, 0, [⟨2, ⟨#[]⟩, 1, 0, 0, 0⟩]) from by decide +kernel]
    rintro e w3 ⟨rfl, h1⟩
    clear H
    have H := hid h1
    clear h1
    go_wp2_with fail
    refine (put_calls _ _ _ _ _ _ H.out).mono ?_
    rw [show put 6 [⟨2, ⟨#[]⟩, 1, 0, 0, 0⟩] ⟨2, ⟨#[]⟩, 2, 0, 0, 0⟩ = (2, 0, [⟨2, ⟨#[]⟩, 1, 0, 0, 0⟩, ⟨2, ⟨#[]⟩, 2, 0, 0, 0⟩]) from by decide +kernel]
    rintro e w4 ⟨rfl, h1⟩
    clear H
    have H := hid h1
    clear h1
    go_wp2_with fail
    refine (put_calls _ _ _ _ _ _ H.out.swap).mono ?_
    rw [show put 5 [] ⟨2, ⟨#[]⟩, 1, 0, 0, 0⟩ = (1, 0, [⟨2, ⟨#[]⟩, 1, 0, 0, 0⟩]) from by decide +kernel]
    rintro e w5 ⟨rfl, h1⟩
    clear H
    have H := hid h1
    clear h1
    go_wp2_with fail
    refine (mix_calls 1 2 H.out.swap).mono ?_
    rw [show mix6 6 [⟨2, ⟨#[]⟩, 1, 0, 0, 0⟩, ⟨2, ⟨#[]⟩, 2, 0, 0, 0⟩] 1 2 = (4, 5, 0, [⟨2, ⟨#[]⟩, 1, 0, 0, 0⟩, ⟨2, ⟨#[]⟩, 2, 0, 0, 0⟩, ⟨8, ⟨#[]⟩, 0, 1, 2, 0⟩, ⟨9, ⟨#[]⟩, 1, 3, 0, 0⟩, ⟨9, ⟨#[]⟩, 2, 3, 0, 0⟩]) from by decide +kernel]
    rintro e w6 ⟨rfl, h1⟩
    clear H
    have H := hid h1
    clear h1
    go_wp2_with fail
    refine (chain_calls 1 7 0 H.out.swap).mono ?_
    rw [show chain6 5 [⟨2, ⟨#[]⟩, 1, 0, 0, 0⟩] 1 7 0 = (1, 0, [⟨2, ⟨#[]⟩, 1, 0, 0, 0⟩]) from by decide +kernel]
    rintro e w7 ⟨rfl, h1⟩
    clear H
    have H := hid h1
    clear h1
    go_wp2_with fail
    refine (len_at H.out.swap).mono ?_
    rintro e w' ⟨rfl, rfl⟩
    go_wp2_with fail
    refine (len_at H.out).mono ?_
    rintro e w' ⟨rfl, rfl⟩
    go_wp2_with fail
    refine (fixed6_calls H.out).mono ?_
    rintro e w' ⟨rfl, h5⟩
    have H5 := hid h5
    clear h5
    go_wp2_with fail
    go_ret
    exact ⟨rfl, H5.out.below⟩
  · go_enter Try.func13, Try.ntmps13
    go_wp2_with fail
    refine (new_calls H.out (by decide) (by decide)).mono ?_
    rintro e w1 ⟨b, rfl, h1⟩
    clear H
    have H := hid h1
    clear h1
    go_wp2_with fail
    refine (new_calls H.out (by decide) (by decide)).mono ?_
    rintro e w2 ⟨b', rfl, h1⟩
    clear H
    have H := hid h1
    clear h1
    go_wp2_with fail
    refine (put_calls _ _ _ _ _ _ H.out.swap).mono ?_
    rw [show put 6 [] ⟨2, ⟨#[]⟩, 1, 0, 0, 0⟩ = (1, 0, [⟨2, ⟨#[]⟩, 1, 0, 0, 0⟩]) from by decide +kernel]
    rintro e w3 ⟨rfl, h1⟩
    clear H
    have H := hid h1
    clear h1
    go_wp2_with fail
    refine (put_calls _ _ _ _ _ _ H.out).mono ?_
    rw [show put 6 [⟨2, ⟨#[]⟩, 1, 0, 0, 0⟩] ⟨2, ⟨#[]⟩, 2, 0, 0, 0⟩ = (2, 0, [⟨2, ⟨#[]⟩, 1, 0, 0, 0⟩, ⟨2, ⟨#[]⟩, 2, 0, 0, 0⟩]) from by decide +kernel]
    rintro e w4 ⟨rfl, h1⟩
    clear H
    have H := hid h1
    clear h1
    go_wp2_with fail
    refine (put_calls _ _ _ _ _ _ H.out.swap).mono ?_
    rw [show put 5 [] ⟨2, ⟨#[]⟩, 1, 0, 0, 0⟩ = (1, 0, [⟨2, ⟨#[]⟩, 1, 0, 0, 0⟩]) from by decide +kernel]
    rintro e w5 ⟨rfl, h1⟩
    clear H
    have H := hid h1
    clear h1
    go_wp2_with fail
    refine (mix_calls 1 2 H.out.swap).mono ?_
    rw [show mix6 6 [⟨2, ⟨#[]⟩, 1, 0, 0, 0⟩, ⟨2, ⟨#[]⟩, 2, 0, 0, 0⟩] 1 2 = (4, 5, 0, [⟨2, ⟨#[]⟩, 1, 0, 0, 0⟩, ⟨2, ⟨#[]⟩, 2, 0, 0, 0⟩, ⟨8, ⟨#[]⟩, 0, 1, 2, 0⟩, ⟨9, ⟨#[]⟩, 1, 3, 0, 0⟩, ⟨9, ⟨#[]⟩, 2, 3, 0, 0⟩]) from by decide +kernel]
    rintro e w6 ⟨rfl, h1⟩
    clear H
    have H := hid h1
    clear h1
    go_wp2_with fail
    refine (chain_calls 1 7 1 H.out.swap).mono ?_
    rw [show chain6 5 [⟨2, ⟨#[]⟩, 1, 0, 0, 0⟩] 1 7 1 = (2, 0, [⟨2, ⟨#[]⟩, 1, 0, 0, 0⟩, ⟨9, ⟨#[]⟩, 7, 1, 0, 0⟩]) from by decide +kernel]
    rintro e w7 ⟨rfl, h1⟩
    clear H
    have H := hid h1
    clear h1
    go_wp2_with fail
    refine (len_at H.out.swap).mono ?_
    rintro e w' ⟨rfl, rfl⟩
    go_wp2_with fail
    refine (len_at H.out).mono ?_
    rintro e w' ⟨rfl, rfl⟩
    go_wp2_with fail
    refine (fixed6_calls H.out).mono ?_
    rintro e w' ⟨rfl, h5⟩
    have H5 := hid h5
    clear h5
    go_wp2_with fail
    go_ret
    exact ⟨rfl, H5.out.below⟩
  · go_enter Try.func13, Try.ntmps13
    go_wp2_with fail
    refine (new_calls H.out (by decide) (by decide)).mono ?_
    rintro e w1 ⟨b, rfl, h1⟩
    clear H
    have H := hid h1
    clear h1
    go_wp2_with fail
    refine (new_calls H.out (by decide) (by decide)).mono ?_
    rintro e w2 ⟨b', rfl, h1⟩
    clear H
    have H := hid h1
    clear h1
    go_wp2_with fail
    refine (put_calls _ _ _ _ _ _ H.out.swap).mono ?_
    rw [show put 6 [] ⟨2, ⟨#[]⟩, 1, 0, 0, 0⟩ = (1, 0, [⟨2, ⟨#[]⟩, 1, 0, 0, 0⟩]) from by decide +kernel]
    rintro e w3 ⟨rfl, h1⟩
    clear H
    have H := hid h1
    clear h1
    go_wp2_with fail
    refine (put_calls _ _ _ _ _ _ H.out).mono ?_
    rw [show put 6 [⟨2, ⟨#[]⟩, 1, 0, 0, 0⟩] ⟨2, ⟨#[]⟩, 2, 0, 0, 0⟩ = (2, 0, [⟨2, ⟨#[]⟩, 1, 0, 0, 0⟩, ⟨2, ⟨#[]⟩, 2, 0, 0, 0⟩]) from by decide +kernel]
    rintro e w4 ⟨rfl, h1⟩
    clear H
    have H := hid h1
    clear h1
    go_wp2_with fail
    refine (put_calls _ _ _ _ _ _ H.out.swap).mono ?_
    rw [show put 5 [] ⟨2, ⟨#[]⟩, 1, 0, 0, 0⟩ = (1, 0, [⟨2, ⟨#[]⟩, 1, 0, 0, 0⟩]) from by decide +kernel]
    rintro e w5 ⟨rfl, h1⟩
    clear H
    have H := hid h1
    clear h1
    go_wp2_with fail
    refine (mix_calls 1 2 H.out.swap).mono ?_
    rw [show mix6 6 [⟨2, ⟨#[]⟩, 1, 0, 0, 0⟩, ⟨2, ⟨#[]⟩, 2, 0, 0, 0⟩] 1 2 = (4, 5, 0, [⟨2, ⟨#[]⟩, 1, 0, 0, 0⟩, ⟨2, ⟨#[]⟩, 2, 0, 0, 0⟩, ⟨8, ⟨#[]⟩, 0, 1, 2, 0⟩, ⟨9, ⟨#[]⟩, 1, 3, 0, 0⟩, ⟨9, ⟨#[]⟩, 2, 3, 0, 0⟩]) from by decide +kernel]
    rintro e w6 ⟨rfl, h1⟩
    clear H
    have H := hid h1
    clear h1
    go_wp2_with fail
    refine (chain_calls 1 7 2 H.out.swap).mono ?_
    rw [show chain6 5 [⟨2, ⟨#[]⟩, 1, 0, 0, 0⟩] 1 7 2 = (3, 0, [⟨2, ⟨#[]⟩, 1, 0, 0, 0⟩, ⟨9, ⟨#[]⟩, 7, 1, 0, 0⟩, ⟨9, ⟨#[]⟩, 7, 2, 0, 0⟩]) from by decide +kernel]
    rintro e w7 ⟨rfl, h1⟩
    clear H
    have H := hid h1
    clear h1
    go_wp2_with fail
    refine (len_at H.out.swap).mono ?_
    rintro e w' ⟨rfl, rfl⟩
    go_wp2_with fail
    refine (len_at H.out).mono ?_
    rintro e w' ⟨rfl, rfl⟩
    go_wp2_with fail
    refine (fixed6_calls H.out).mono ?_
    rintro e w' ⟨rfl, h5⟩
    have H5 := hid h5
    clear h5
    go_wp2_with fail
    go_ret
    exact ⟨rfl, H5.out.below⟩
  · go_enter Try.func13, Try.ntmps13
    go_wp2_with fail
    refine (new_calls H.out (by decide) (by decide)).mono ?_
    rintro e w1 ⟨b, rfl, h1⟩
    clear H
    have H := hid h1
    clear h1
    go_wp2_with fail
    refine (new_calls H.out (by decide) (by decide)).mono ?_
    rintro e w2 ⟨b', rfl, h1⟩
    clear H
    have H := hid h1
    clear h1
    go_wp2_with fail
    refine (put_calls _ _ _ _ _ _ H.out.swap).mono ?_
    rw [show put 6 [] ⟨2, ⟨#[]⟩, 1, 0, 0, 0⟩ = (1, 0, [⟨2, ⟨#[]⟩, 1, 0, 0, 0⟩]) from by decide +kernel]
    rintro e w3 ⟨rfl, h1⟩
    clear H
    have H := hid h1
    clear h1
    go_wp2_with fail
    refine (put_calls _ _ _ _ _ _ H.out).mono ?_
    rw [show put 6 [⟨2, ⟨#[]⟩, 1, 0, 0, 0⟩] ⟨2, ⟨#[]⟩, 2, 0, 0, 0⟩ = (2, 0, [⟨2, ⟨#[]⟩, 1, 0, 0, 0⟩, ⟨2, ⟨#[]⟩, 2, 0, 0, 0⟩]) from by decide +kernel]
    rintro e w4 ⟨rfl, h1⟩
    clear H
    have H := hid h1
    clear h1
    go_wp2_with fail
    refine (put_calls _ _ _ _ _ _ H.out.swap).mono ?_
    rw [show put 5 [] ⟨2, ⟨#[]⟩, 1, 0, 0, 0⟩ = (1, 0, [⟨2, ⟨#[]⟩, 1, 0, 0, 0⟩]) from by decide +kernel]
    rintro e w5 ⟨rfl, h1⟩
    clear H
    have H := hid h1
    clear h1
    go_wp2_with fail
    refine (mix_calls 1 2 H.out.swap).mono ?_
    rw [show mix6 6 [⟨2, ⟨#[]⟩, 1, 0, 0, 0⟩, ⟨2, ⟨#[]⟩, 2, 0, 0, 0⟩] 1 2 = (4, 5, 0, [⟨2, ⟨#[]⟩, 1, 0, 0, 0⟩, ⟨2, ⟨#[]⟩, 2, 0, 0, 0⟩, ⟨8, ⟨#[]⟩, 0, 1, 2, 0⟩, ⟨9, ⟨#[]⟩, 1, 3, 0, 0⟩, ⟨9, ⟨#[]⟩, 2, 3, 0, 0⟩]) from by decide +kernel]
    rintro e w6 ⟨rfl, h1⟩
    clear H
    have H := hid h1
    clear h1
    go_wp2_with fail
    refine (chain_calls 1 7 3 H.out.swap).mono ?_
    rw [show chain6 5 [⟨2, ⟨#[]⟩, 1, 0, 0, 0⟩] 1 7 3 = (4, 0, [⟨2, ⟨#[]⟩, 1, 0, 0, 0⟩, ⟨9, ⟨#[]⟩, 7, 1, 0, 0⟩, ⟨9, ⟨#[]⟩, 7, 2, 0, 0⟩, ⟨9, ⟨#[]⟩, 7, 3, 0, 0⟩]) from by decide +kernel]
    rintro e w7 ⟨rfl, h1⟩
    clear H
    have H := hid h1
    clear h1
    go_wp2_with fail
    refine (len_at H.out.swap).mono ?_
    rintro e w' ⟨rfl, rfl⟩
    go_wp2_with fail
    refine (len_at H.out).mono ?_
    rintro e w' ⟨rfl, rfl⟩
    go_wp2_with fail
    refine (fixed6_calls H.out).mono ?_
    rintro e w' ⟨rfl, h5⟩
    have H5 := hid h5
    clear h5
    go_wp2_with fail
    go_ret
    exact ⟨rfl, H5.out.below⟩
  · go_enter Try.func13, Try.ntmps13
    go_wp2_with fail
    refine (new_calls H.out (by decide) (by decide)).mono ?_
    rintro e w1 ⟨b, rfl, h1⟩
    clear H
    have H := hid h1
    clear h1
    go_wp2_with fail
    refine (new_calls H.out (by decide) (by decide)).mono ?_
    rintro e w2 ⟨b', rfl, h1⟩
    clear H
    have H := hid h1
    clear h1
    go_wp2_with fail
    refine (put_calls _ _ _ _ _ _ H.out.swap).mono ?_
    rw [show put 6 [] ⟨2, ⟨#[]⟩, 1, 0, 0, 0⟩ = (1, 0, [⟨2, ⟨#[]⟩, 1, 0, 0, 0⟩]) from by decide +kernel]
    rintro e w3 ⟨rfl, h1⟩
    clear H
    have H := hid h1
    clear h1
    go_wp2_with fail
    refine (put_calls _ _ _ _ _ _ H.out).mono ?_
    rw [show put 6 [⟨2, ⟨#[]⟩, 1, 0, 0, 0⟩] ⟨2, ⟨#[]⟩, 2, 0, 0, 0⟩ = (2, 0, [⟨2, ⟨#[]⟩, 1, 0, 0, 0⟩, ⟨2, ⟨#[]⟩, 2, 0, 0, 0⟩]) from by decide +kernel]
    rintro e w4 ⟨rfl, h1⟩
    clear H
    have H := hid h1
    clear h1
    go_wp2_with fail
    refine (put_calls _ _ _ _ _ _ H.out.swap).mono ?_
    rw [show put 5 [] ⟨2, ⟨#[]⟩, 1, 0, 0, 0⟩ = (1, 0, [⟨2, ⟨#[]⟩, 1, 0, 0, 0⟩]) from by decide +kernel]
    rintro e w5 ⟨rfl, h1⟩
    clear H
    have H := hid h1
    clear h1
    go_wp2_with fail
    refine (mix_calls 1 2 H.out.swap).mono ?_
    rw [show mix6 6 [⟨2, ⟨#[]⟩, 1, 0, 0, 0⟩, ⟨2, ⟨#[]⟩, 2, 0, 0, 0⟩] 1 2 = (4, 5, 0, [⟨2, ⟨#[]⟩, 1, 0, 0, 0⟩, ⟨2, ⟨#[]⟩, 2, 0, 0, 0⟩, ⟨8, ⟨#[]⟩, 0, 1, 2, 0⟩, ⟨9, ⟨#[]⟩, 1, 3, 0, 0⟩, ⟨9, ⟨#[]⟩, 2, 3, 0, 0⟩]) from by decide +kernel]
    rintro e w6 ⟨rfl, h1⟩
    clear H
    have H := hid h1
    clear h1
    go_wp2_with fail
    refine (chain_calls 1 7 4 H.out.swap).mono ?_
    rw [show chain6 5 [⟨2, ⟨#[]⟩, 1, 0, 0, 0⟩] 1 7 4 = (5, 0, [⟨2, ⟨#[]⟩, 1, 0, 0, 0⟩, ⟨9, ⟨#[]⟩, 7, 1, 0, 0⟩, ⟨9, ⟨#[]⟩, 7, 2, 0, 0⟩, ⟨9, ⟨#[]⟩, 7, 3, 0, 0⟩, ⟨9, ⟨#[]⟩, 7, 4, 0, 0⟩]) from by decide +kernel]
    rintro e w7 ⟨rfl, h1⟩
    clear H
    have H := hid h1
    clear h1
    go_wp2_with fail
    refine (len_at H.out.swap).mono ?_
    rintro e w' ⟨rfl, rfl⟩
    go_wp2_with fail
    refine (len_at H.out).mono ?_
    rintro e w' ⟨rfl, rfl⟩
    go_wp2_with fail
    refine (fixed6_calls H.out).mono ?_
    rintro e w' ⟨rfl, h5⟩
    have H5 := hid h5
    clear h5
    go_wp2_with fail
    go_ret
    exact ⟨rfl, H5.out.below⟩
  · go_enter Try.func13, Try.ntmps13
    go_wp2_with fail
    refine (new_calls H.out (by decide) (by decide)).mono ?_
    rintro e w1 ⟨b, rfl, h1⟩
    clear H
    have H := hid h1
    clear h1
    go_wp2_with fail
    refine (new_calls H.out (by decide) (by decide)).mono ?_
    rintro e w2 ⟨b', rfl, h1⟩
    clear H
    have H := hid h1
    clear h1
    go_wp2_with fail
    refine (put_calls _ _ _ _ _ _ H.out.swap).mono ?_
    rw [show put 6 [] ⟨2, ⟨#[]⟩, 1, 0, 0, 0⟩ = (1, 0, [⟨2, ⟨#[]⟩, 1, 0, 0, 0⟩]) from by decide +kernel]
    rintro e w3 ⟨rfl, h1⟩
    clear H
    have H := hid h1
    clear h1
    go_wp2_with fail
    refine (put_calls _ _ _ _ _ _ H.out).mono ?_
    rw [show put 6 [⟨2, ⟨#[]⟩, 1, 0, 0, 0⟩] ⟨2, ⟨#[]⟩, 2, 0, 0, 0⟩ = (2, 0, [⟨2, ⟨#[]⟩, 1, 0, 0, 0⟩, ⟨2, ⟨#[]⟩, 2, 0, 0, 0⟩]) from by decide +kernel]
    rintro e w4 ⟨rfl, h1⟩
    clear H
    have H := hid h1
    clear h1
    go_wp2_with fail
    refine (put_calls _ _ _ _ _ _ H.out.swap).mono ?_
    rw [show put 5 [] ⟨2, ⟨#[]⟩, 1, 0, 0, 0⟩ = (1, 0, [⟨2, ⟨#[]⟩, 1, 0, 0, 0⟩]) from by decide +kernel]
    rintro e w5 ⟨rfl, h1⟩
    clear H
    have H := hid h1
    clear h1
    go_wp2_with fail
    refine (mix_calls 1 2 H.out.swap).mono ?_
    rw [show mix6 6 [⟨2, ⟨#[]⟩, 1, 0, 0, 0⟩, ⟨2, ⟨#[]⟩, 2, 0, 0, 0⟩] 1 2 = (4, 5, 0, [⟨2, ⟨#[]⟩, 1, 0, 0, 0⟩, ⟨2, ⟨#[]⟩, 2, 0, 0, 0⟩, ⟨8, ⟨#[]⟩, 0, 1, 2, 0⟩, ⟨9, ⟨#[]⟩, 1, 3, 0, 0⟩, ⟨9, ⟨#[]⟩, 2, 3, 0, 0⟩]) from by decide +kernel]
    rintro e w6 ⟨rfl, h1⟩
    clear H
    have H := hid h1
    clear h1
    go_wp2_with fail
    refine (chain_calls 1 7 5 H.out.swap).mono ?_
    rw [show chain6 5 [⟨2, ⟨#[]⟩, 1, 0, 0, 0⟩] 1 7 5 = (0, 4, [⟨2, ⟨#[]⟩, 1, 0, 0, 0⟩, ⟨9, ⟨#[]⟩, 7, 1, 0, 0⟩, ⟨9, ⟨#[]⟩, 7, 2, 0, 0⟩, ⟨9, ⟨#[]⟩, 7, 3, 0, 0⟩, ⟨9, ⟨#[]⟩, 7, 4, 0, 0⟩]) from by decide +kernel]
    rintro e w7 ⟨rfl, h1⟩
    clear H
    have H := hid h1
    clear h1
    go_wp2_with fail
    refine (len_at H.out.swap).mono ?_
    rintro e w' ⟨rfl, rfl⟩
    go_wp2_with fail
    refine (len_at H.out).mono ?_
    rintro e w' ⟨rfl, rfl⟩
    go_wp2_with fail
    refine (fixed6_calls H.out).mono ?_
    rintro e w' ⟨rfl, h5⟩
    have H5 := hid h5
    clear h5
    go_wp2_with fail
    go_ret
    exact ⟨rfl, H5.out.below⟩

set_option maxRecDepth 100000 in
set_option maxHeartbeats 32000000 in
theorem kdfRoom_5 (a0 : Int) (ha0 : 0 ≤ a0) (ha1 : a0 ≤ 255) (a1 : Int) (hb0 : 0 ≤ a1) (hb1 : a1 ≤ 255) (W : World) (hm : a0 % 6 = 5) :
    Calls Try.prog 13 #[.int .u8 a0, .int .u8 a1] W fun e w' => e = .returned (.bool true) ∧ Below W.heap.size W w' := by
  have H := hid (Hd.refl W)
  obtain hr | hr | hr | hr | hr | hr : a1 % 6 = 0 ∨ a1 % 6 = 1 ∨ a1 % 6 = 2 ∨ a1 % 6 = 3 ∨ a1 % 6 = 4 ∨ a1 % 6 = 5 := by omega
  · go_enter Try.func13, Try.ntmps13
    go_wp2_with fail
    refine (new_calls H.out (by decide) (by decide)).mono ?_
    rintro e w1 ⟨b, rfl, h1⟩
    clear H
    have H := hid h1
    clear h1
    go_wp2_with fail
    refine (new_calls H.out (by decide) (by decide)).mono ?_
    rintro e w2 ⟨b', rfl, h1⟩
    clear H
    have H := hid h1
    clear h1
    go_wp2_with fail
    refine (put_calls _ _ _ _ _ _ H.out.swap).mono ?_
    rw [show put 7 [] ⟨2, ⟨#[]⟩, 1, 0, 0, 0⟩ = (1, 0, [⟨2, ⟨#[]⟩, 1, 0, 0, 0⟩]) from by decide +kernel]
    rintro e w3 ⟨rfl, h1⟩
    clear H
    have H := hid h1
    clear h1
    go_wp2_with fail
    refine (put_calls _ _ _ _ _ _ H.out).mono ?_
    rw [show put 7 [⟨2, ⟨#[]⟩, 1, 0, 0, 0⟩] ⟨2, ⟨#[]⟩, 2, 0, 0, 0⟩ = (2, 0, [⟨2, ⟨#[]⟩, 1, 0, 0, 0⟩, ⟨2, ⟨#[]⟩, 2, 0, 0, 0⟩]) from by decide +kernel]
    rintro e w4 ⟨rfl, h1⟩
    clear H
    have H := hid h1
    clear h1
    go_wp2_with fail
    refine (put_calls _ _ _ _ _ _ H.out.swap).mono ?_
    rw [show put 6 [] ⟨2, ⟨#[]⟩, 1, 0, 0, 0⟩ = (1, 0, [⟨2, ⟨#[]⟩, 1, 0, 0, 0⟩]) from by decide +kernel]
    rintro e w5 ⟨rfl, h1⟩
    clear H
    have H := hid h1
    clear h1
    go_wp2_with fail
    refine (mix_calls 1 2 H.out.swap).mono ?_
    rw [show mix6 7 [⟨2, ⟨#[]⟩, 1, 0, 0, 0⟩, ⟨2, ⟨#[]⟩, 2, 0, 0, 0⟩] 1 2 = (4, 5, 0, [⟨2, ⟨#[]⟩, 1, 0, 0, 0⟩, ⟨2, ⟨#[]⟩, 2, 0, 0, 0⟩, ⟨8, ⟨#[]⟩, 0, 1, 2, 0⟩, ⟨9, ⟨#[]⟩, 1, 3, 0, 0⟩, ⟨9, ⟨#[]⟩, 2, 3, 0, 0⟩]) from by decide +kernel]
    rintro e w6 ⟨rfl, h1⟩
    clear H
    have H := hid h1
    clear h1
    go_wp2_with fail
    refine (chain_calls 1 7 0 H.out.swap).mono ?_
    rw [show chain6 6 [⟨2, ⟨#[]⟩, 1, 0, 0, 0⟩] 1 7 0 = (1, 0, [⟨2, ⟨#[]⟩, 1, 0, 0, 0⟩]) from by decide +kernel]
    rintro e w7 ⟨rfl, h1⟩
    clear H
    have H := hid h1
    clear h1
    go_wp2_with fail
    refine (len_at H.out.swap).mono ?_
    rintro e w' ⟨rfl, rfl⟩
    go_wp2_with fail
    refine (len_at H.out).mono ?_
    rintro e w' ⟨rfl, rfl⟩
    go_wp2_with fail
    refine (fixed6_calls H.out).mono ?_
    rintro e w' ⟨rfl, h5⟩
    have H5 := hid h5
    clear h5
    go_wp2_with fail
    go_ret
    exact ⟨rfl, H5.out.below⟩
  · go_enter Try.func13, Try.ntmps13
    go_wp2_with fail
    refine (new_calls H.out (by decide) (by decide)).mono ?_
    rintro e w1 ⟨b, rfl, h1⟩
    clear H
    have H := hid h1
    clear h1
    go_wp2_with fail
    refine (new_calls H.out (by decide) (by decide)).mono ?_
    rintro e w2 ⟨b', rfl, h1⟩
    clear H
    have H := hid h1
    clear h1
    go_wp2_with fail
    refine (put_calls _ _ _ _ _ _ H.out.swap).mono ?_
    rw [show put 7 [] ⟨2, ⟨#[]⟩, 1, 0, 0, 0⟩ = (1, 0, [⟨2, ⟨#[]⟩, 1, 0, 0, 0⟩]) from by decide +kernel]
    rintro e w3 ⟨rfl, h1⟩
    clear H
    have H := hid h1
    clear h1
    go_wp2_with fail
    refine (put_calls _ _ _ _ _ _ H.out).mono ?_
    rw [show put 7 [⟨2, ⟨#[]⟩, 1, 0, 0, 0⟩] ⟨2, ⟨#[]⟩, 2, 0, 0, 0⟩ = (2, 0, [⟨2, ⟨#[]⟩, 1, 0, 0, 0⟩, ⟨2, ⟨#[]⟩, 2, 0, 0, 0⟩]) from by decide +kernel]
    rintro e w4 ⟨rfl, h1⟩
    clear H
    have H := hid h1
    clear h1
    go_wp2_with fail
    refine (put_calls _ _ _ _ _ _ H.out.swap).mono ?_
    rw [show put 6 [] ⟨2, ⟨#[]⟩, 1, 0, 0, 0⟩ = (1, 0, [⟨2, ⟨#[]⟩, 1, 0, 0, 0⟩]) from by decide +kernel]
    rintro e w5 ⟨rfl, h1⟩
    clear H
    have H := hid h1
    clear h1
    go_wp2_with fail
    refine (mix_calls 1 2 H.out.swap).mono ?_
    rw [show mix6 7 [⟨2, ⟨#[]⟩, 1, 0, 0, 0⟩, ⟨2, ⟨#[]⟩, 2, 0, 0, 0⟩] 1 2 = (4, 5, 0, [⟨2, ⟨#[]⟩, 1, 0, 0, 0⟩, ⟨2, ⟨#[]⟩, 2, 0, 0, 0⟩, ⟨8, ⟨#[]⟩, 0, 1, 2, 0⟩, ⟨9, ⟨#[]⟩, 1, 3, 0, 0⟩, ⟨9, ⟨#[]⟩, 2, 3, 0, 0⟩]) from by decide +kernel]
    rintro e w6 ⟨rfl, h1⟩
    clear H
    have H := hid h1
    clear h1
    go_wp2_with fail
    refine (chain_calls 1 7 1 H.out.swap).mono ?_
    rw [show chain6 6 [⟨2, ⟨#[]⟩, 1, 0, 0, 0⟩] 1 7 1 = (2, 0, [⟨2, ⟨#[]⟩, 1, 0, 0, 0⟩, ⟨9, ⟨#[]⟩, 7, 1, 0, 0⟩]) from by decide +kernel]
    rintro e w7 ⟨rfl, h1⟩
    clear H
    have H := hid h1
    clear h1
    go_wp2_with fail
    refine (len_at H.out.swap).mono ?_
    rintro e w' ⟨rfl, rfl⟩
    go_wp2_with fail
    refine (len_at H.out).mono ?_
    rintro e w' ⟨rfl, rfl⟩
    go_wp2_with fail
    refine (fixed6_calls H.out).mono ?_
    rintro e w' ⟨rfl, h5⟩
    have H5 := hid h5
    clear h5
    go_wp2_with fail
    go_ret
    exact ⟨rfl, H5.out.below⟩
  · go_enter Try.func13, Try.ntmps13
    go_wp2_with fail
    refine (new_calls H.out (by decide) (by decide)).mono ?_
    rintro e w1 ⟨b, rfl, h1⟩
    clear H
    have H := hid h1
    clear h1
    go_wp2_with fail
    refine (new_calls H.out (by decide) (by decide)).mono ?_
    rintro e w2 ⟨b', rfl, h1⟩
    clear H
    have H := hid h1
    clear h1
    go_wp2_with fail
    refine (put_calls _ _ _ _ _ _ H.out.swap).mono ?_
    rw [show put 7 [] ⟨2, ⟨#[]⟩, 1, 0, 0, 0⟩ = (1, 0, [⟨2, ⟨#[]⟩, 1, 0, 0, 0⟩]) from by decide +kernel]
    rintro e w3 ⟨rfl, h1⟩
    clear H
    have H := hid h1
    clear h1
    go_wp2_with fail
    refine (put_calls _ _ _ _ _ _ H.out).mono ?_
    rw [show put 7 [⟨2, ⟨#[]⟩, 1, 0, 0, 0⟩] ⟨2, ⟨#[]⟩, 2, 0, 0, 0⟩ = (2, 0, [⟨2, ⟨#[]⟩, 1, 0, 0, 0⟩, ⟨2, ⟨#[]⟩, 2, 0, 0, 0⟩]) from by decide +kernel]
    rintro e w4 ⟨rfl, h1⟩
    clear H
    have H := hid h1
    clear h1
    go_wp2_with fail
    refine (put_calls _ _ _ _ _ _ H.out.swap).mono ?_
    rw [show put 6 [] ⟨2, ⟨#[]⟩, 1, 0, 0, 0⟩ = (1, 0, [⟨2, ⟨#[]⟩, 1, 0, 0, 0⟩]) from by decide +kernel]
    rintro e w5 ⟨rfl, h1⟩
    clear H
    have H := hid h1
    clear h1
    go_wp2_with fail
    refine (mix_calls 1 2 H.out.swap).mono ?_
    rw [show mix6 7 [⟨2, ⟨#[]⟩, 1, 0, 0, 0⟩, ⟨2, ⟨#[]⟩, 2, 0, 0, 0⟩] 1 2 = (4, 5, 0, [⟨2, ⟨#[]⟩, 1, 0, 0, 0⟩, ⟨2, ⟨#[]⟩, 2, 0, 0, 0⟩, ⟨8, ⟨#[]⟩, 0, 1, 2, 0⟩, ⟨9, ⟨#[]⟩, 1, 3, 0, 0⟩, ⟨9, ⟨#[]⟩, 2, 3, 0, 0⟩]) from by decide +kernel]
    rintro e w6 ⟨rfl, h1⟩
    clear H
    have H := hid h1
    clear h1
    go_wp2_with fail
    refine (chain_calls 1 7 2 H.out.swap).mono ?_
    rw [show chain6 6 [⟨2, ⟨#[]⟩, 1, 0, 0, 0⟩] 1 7 2 = (3, 0, [⟨2, ⟨#[]⟩, 1, 0, 0, 0⟩, ⟨9, ⟨#[]⟩, 7, 1, 0, 0⟩, ⟨9, ⟨#[]⟩, 7, 2, 0, 0⟩]) from by decide +kernel]
    rintro e w7 ⟨rfl, h1⟩
    clear H
    have H := hid h1
    clear h1
    go_wp2_with fail
    refine (len_at H.out.swap).mono ?_
    rintro e w' ⟨rfl, rfl⟩
    go_wp2_with fail
    refine (len_at H.out).mono ?_
    rintro e w' ⟨rfl, rfl⟩
    go_wp2_with fail
    refine (fixed6_calls H.out).mono ?_
    rintro e w' ⟨rfl, h5⟩
    have H5 := hid h5
    clear h5
    go_wp2_with fail
    go_ret
    exact ⟨rfl, H5.out.below⟩
  · go_enter Try.func13, Try.ntmps13
    go_wp2_with fail
    refine (new_calls H.out (by decide) (by decide)).mono ?_
    rintro e w1 ⟨b, rfl, h1⟩
    clear H
    have H := hid h1
    clear h1
    go_wp2_with fail
    refine (new_calls H.out (by decide) (by decide)).mono ?_
    rintro e w2 ⟨b', rfl, h1⟩
    clear H
    have H := hid h1
    clear h1
    go_wp2_with fail
    refine (put_calls _ _ _ _ _ _ H.out.swap).mono ?_
    rw [show put 7 [] ⟨2, ⟨#[]⟩, 1, 0, 0, 0⟩ = (1, 0, [⟨2, ⟨#[]⟩, 1, 0, 0, 0⟩]) from by decide +kernel]
    rintro e w3 ⟨rfl, h1⟩
    clear H
    have H := hid h1
    clear h1
    go_wp2_with fail
    refine (put_calls _ _ _ _ _ _ H.out).mono ?_
    rw [show put 7 [⟨2, ⟨#[]⟩, 1, 0, 0, 0⟩] ⟨2, ⟨#[]⟩, 2, 0, 0, 0⟩ = (2, 0, [⟨2, ⟨#[]⟩, 1, 0, 0, 0⟩, ⟨2, ⟨#[]⟩, 2, 0, 0, 0⟩]) from by decide +kernel]
    rintro e w4 ⟨rfl, h1⟩
    clear H
    have H := hid h1
    clear h1
    go_wp2_with fail
    refine (put_calls _ _ _ _ _ _ H.out.swap).mono ?_
    rw [show put 6 [] ⟨2, ⟨#[]⟩, 1, 0, 0, 0⟩ = (1, 0, [⟨2, ⟨#[]⟩, 1, 0, 0, 0⟩]) from by decide +kernel]
    rintro e w5 ⟨rfl, h1⟩
    clear H
    have H := hid h1
    clear h1
    go_wp2_with fail
    refine (mix_calls 1 2 H.out.swap).mono ?_
    rw [show mix6 7 [⟨2, ⟨#[]⟩, 1, 0, 0, 0⟩, ⟨2, ⟨#[]⟩, 2, 0, 0, 0⟩] 1 2 = (4, 5, 0, [⟨2, ⟨#[]⟩, 1, 0, 0, 0⟩, ⟨2, ⟨#[]⟩, 2, 0, 0, 0⟩, ⟨8, ⟨#[]⟩, 0, 1, 2, 0⟩, ⟨9, ⟨#[]⟩, 1, 3, 0, 0⟩, ⟨9, ⟨#[]⟩, 2, 3, 0, 0⟩]) from by decide +kernel]
    rintro e w6 ⟨rfl, h1⟩
    clear H
    have H := hid h1
    clear h1
    go_wp2_with fail
    refine (chain_calls 1 7 3 H.out.swap).mono ?_
    rw [show chain6 6 [⟨2, ⟨#[]⟩, 1, 0, 0, 0⟩] 1 7 3 = (4, 0, [⟨2, ⟨#[]⟩, 1, 0, 0, 0⟩, ⟨9, ⟨#[]⟩, 7, 1, 0, 0⟩, ⟨9, ⟨#[]⟩, 7, 2, 0, 0⟩, ⟨9, ⟨#[]⟩, 7, 3, 0, 0⟩]) from by decide +kernel]
    rintro e w7 ⟨rfl, h1⟩
    clear H
    have H := hid h1
    clear h1
    go_wp2_with fail
    refine (len_at H.out.swap).mono ?_
    rintro e w' ⟨rfl, rfl⟩
    go_wp2_with fail
    refine (len_at H.out).mono ?_
    rintro e w' ⟨rfl, rfl⟩
    go_wp2_with fail
    refine (fixed6_calls H.out).mono ?_
    rintro e w' ⟨rfl, h5⟩
    have H5 := hid h5
    clear h5
    go_wp2_with fail
    go_ret
    exact ⟨rfl, H5.out.below⟩
  · go_enter Try.func13, Try.ntmps13
    go_wp2_with fail
    refine (new_calls H.out (by decide) (by decide)).mono ?_
    rintro e w1 ⟨b, rfl, h1⟩
    clear H
    have H := hid h1
    clear h1
    go_wp2_with fail
    refine (new_calls H.out (by decide) (by decide)).mono ?_
    rintro e w2 ⟨b', rfl, h1⟩
    clear H
    have H := hid h1
    clear h1
    go_wp2_with fail
    refine (put_calls _ _ _ _ _ _ H.out.swap).mono ?_
    rw [show put 7 [] ⟨2, ⟨#[]⟩, 1, 0, 0, 0⟩ = (1, 0, [⟨2, ⟨#[]⟩, 1, 0, 0, 0⟩]) from by decide +kernel]
    rintro e w3 ⟨rfl, h1⟩
    clear H
    have H := hid h1
    clear h1
    go_wp2_with fail
    refine (put_calls _ _ _ _ _ _ H.out).mono ?_
    rw [show put 7 [⟨2, ⟨#[]⟩, 1, 0, 0, 0⟩] ⟨2, ⟨#[]⟩, 2, 0, 0, 0⟩ = (2, 0, [⟨2, ⟨#[]⟩, 1, 0, 0, 0⟩, ⟨2, ⟨#[]⟩, 2, 0, 0, 0⟩]) from by decide +kernel]
    rintro e w4 ⟨rfl, h1⟩
    clear H
    have H := hid h1
    clear h1
    go_wp2_with fail
    refine (put_calls _ _ _ _ _ _ H.out.swap).mono ?_
    rw [show put 6 [] ⟨2, ⟨#[]⟩, 1, 0, 0, 0⟩ = (1, 0, [⟨2, ⟨#[]⟩, 1, 0, 0, 0⟩]) from by decide +kernel]
    rintro e w5 ⟨rfl, h1⟩
    clear H
    have H := hid h1
    clear h1
    go_wp2_with fail
    refine (mix_calls 1 2 H.out.swap).mono ?_
    rw [show mix6 7 [⟨2, ⟨#[]⟩, 1, 0, 0, 0⟩, ⟨2, ⟨#[]⟩, 2, 0, 0, 0⟩] 1 2 = (4, 5, 0, [⟨2, ⟨#[]⟩, 1, 0, 0, 0⟩, ⟨2, ⟨#[]⟩, 2, 0, 0, 0⟩, ⟨8, ⟨#[]⟩, 0, 1, 2, 0⟩, ⟨9, ⟨#[]⟩, 1, 3, 0, 0⟩, ⟨9, ⟨#[]⟩, 2, 3, 0, 0⟩]) from by decide +kernel]
    rintro e w6 ⟨rfl, h1⟩
    clear H
    have H := hid h1
    clear h1
    go_wp2_with fail
    refine (chain_calls 1 7 4 H.out.swap).mono ?_
    rw [show chain6 6 [⟨2, ⟨#[]⟩, 1, 0, 0, 0⟩] 1 7 4 = (5, 0, [⟨2, ⟨#[]⟩, 1, 0, 0, 0⟩, ⟨9, ⟨#[]⟩, 7, 1, 0, 0⟩, ⟨9, ⟨#[]⟩, 7, 2, 0, 0⟩, ⟨9, ⟨#[]⟩, 7, 3, 0, 0⟩, ⟨9, ⟨#[]⟩, 7, 4, 0, 0⟩]) from by decide +kernel]
    rintro e w7 ⟨rfl, h1⟩
    clear H
    have H := hid h1
    clear h1
    go_wp2_with fail
    refine (len_at H.out.swap).mono ?_
    rintro e w' ⟨rfl, rfl⟩
    go_wp2_with fail
    refine (len_at H.out).mono ?_
    rintro e w' ⟨rfl, rfl⟩
    go_wp2_with fail
    refine (fixed6_calls H.out).mono ?_
    rintro e w' ⟨rfl, h5⟩
    have H5 := hid h5
    clear h5
    go_wp2_with fail
    go_ret
    exact ⟨rfl, H5.out.below⟩
  · go_enter Try.func13, Try.ntmps13
    go_wp2_with fail
    refine (new_calls H.out (by decide) (by decide)).mono ?_
    rintro e w1 ⟨b, rfl, h1⟩
    clear H
    have H := hid h1
    clear h1
    go_wp2_with fail
    refine (new_calls H.out (by decide) (by decide)).mono ?_
    rintro e w2 ⟨b', rfl, h1⟩
    clear H
    have H := hid h1
    clear h1
    go_wp2_with fail
    refine (put_calls _ _ _ _ _ _ H.out.swap).mono ?_
    rw [show put 7 [] ⟨2, ⟨#[]⟩, 1, 0, 0, 0⟩ = (1, 0, [⟨2, ⟨#[]⟩, 1, 0, 0, 0⟩]) from by decide +kernel]
    rintro e w3 ⟨rfl, h1⟩
    clear H
    have H := hid h1
    clear h1
    go_wp2_with fail
    refine (put_calls _ _ _ _ _ _ H.out).mono ?_
    rw [show put 7 [⟨2, ⟨#[]⟩, 1, 0, 0, 0⟩] ⟨2, ⟨#[]⟩, 2, 0, 0, 0⟩ = (2, 0, [⟨2, ⟨#[]⟩, 1, 0, 0, 0⟩, ⟨2, ⟨#[]⟩, 2, 0, 0, 0⟩]) from by decide +kernel]
    rintro e w4 ⟨rfl, h1⟩
    clear H
    have H := hid h1
    clear h1
    go_wp2_with fail
    refine (put_calls _ _ _ _ _ _ H.out.swap).mono ?_
    rw [show put 6 [] ⟨2, ⟨#[]⟩, 1, 0, 0, 0⟩ = (1, 0, [⟨2, ⟨#[]⟩, 1, 0, 0, 0⟩]) from by decide +kernel]
    rintro e w5 ⟨rfl, h1⟩
    clear H
    have H := hid h1
    clear h1
    go_wp2_with fail
    refine (mix_calls 1 2 H.out.swap).mono ?_
    rw [show mix6 7 [⟨2, ⟨#[]⟩, 1, 0, 0, 0⟩, ⟨2, ⟨#[]⟩, 2, 0, 0, 0⟩] 1 2 = (4, 5, 0, [⟨2, ⟨#[]⟩, 1, 0, 0, 0⟩, ⟨2, ⟨#[]⟩, 2, 0, 0, 0⟩, ⟨8, ⟨#[]⟩, 0, 1, 2, 0⟩, ⟨9, ⟨#[]⟩, 1, 3, 0, 0⟩, ⟨9, ⟨#[]⟩, 2, 3, 0, 0⟩]) from by decide +kernel]
    rintro e w6 ⟨rfl, h1⟩
    clear H
    have H := hid h1
    clear h1
    go_wp2_with fail
    refine (chain_calls 1 7 5 H.out.swap).mono ?_
    rw [show chain6 6 [⟨2, ⟨#[]⟩, 1, 0, 0, 0⟩] 1 7 5 = (6, 0, [⟨2, ⟨#[]⟩, 1, 0, 0, 0⟩, ⟨9, ⟨#[]⟩, 7, 1, 0, 0⟩, ⟨9, ⟨#[]⟩, 7, 2, 0, 0⟩, ⟨9, ⟨#[]⟩, 7, 3, 0, 0⟩, ⟨9, ⟨#[]⟩, 7, 4, 0, 0⟩, ⟨9, ⟨#[]⟩, 7, 5, 0, 0⟩]) from by decide +kernel]
    rintro e w7 ⟨rfl, h1⟩
    clear H
    have H := hid h1
    clear h1
    go_wp2_with fail
    refine (len_at H.out.swap).mono ?_
    rintro e w' ⟨rfl, rfl⟩
    go_wp2_with fail
    refine (len_at H.out).mono ?_
    rintro e w' ⟨rfl, rfl⟩
    go_wp2_with fail
    refine (fixed6_calls H.out).mono ?_
    rintro e w' ⟨rfl, h5⟩
    have H5 := hid h5
    clear h5
    go_wp2_with fail
    go_ret
    exact ⟨rfl, H5.out.below⟩

theorem kdfRoom_walk (a0 : Int) (ha0 : 0 ≤ a0) (ha1 : a0 ≤ 255) (a1 : Int) (hb0 : 0 ≤ a1) (hb1 : a1 ≤ 255) (W : World) :
    Calls Try.prog 13 #[.int .u8 a0, .int .u8 a1] W fun e w' => e = .returned (.bool true) ∧ Below W.heap.size W w' := by
  obtain h | h | h | h | h | h : a0 % 6 = 0 ∨ a0 % 6 = 1 ∨ a0 % 6 = 2 ∨ a0 % 6 = 3 ∨ a0 % 6 = 4 ∨ a0 % 6 = 5 := by omega
  · exact kdfRoom_0 a0 ha0 ha1 a1 hb0 hb1 W h
  · exact kdfRoom_1 a0 ha0 ha1 a1 hb0 hb1 W h
  · exact kdfRoom_2 a0 ha0 ha1 a1 hb0 hb1 W h
  · exact kdfRoom_3 a0 ha0 ha1 a1 hb0 hb1 W h
  · exact kdfRoom_4 a0 ha0 ha1 a1 hb0 hb1 W h
  · exact kdfRoom_5 a0 ha0 ha1 a1 hb0 hb1 W h
end Go.Proofs.Ythbailkfhmkfoaa
