/-
  KemRoom returns true, and writes nothing that was there. For every input.
-/
import Derived.Test.YthbailkfhmkfoaaFixD
import Derived.Test.YthbailkfhmkfoaaRoom
namespace Go.Proofs.Ythbailkfhmkfoaa
open Go.RowKit

set_option maxRecDepth 100000 in
set_option maxHeartbeats 16000000 in
theorem kemRoom_walk (a0 : Int) (ha0 : 0 ≤ a0) (ha1 : a0 ≤ 255) (W : World) :
    Calls Try.prog 5 #[.int .u8 a0] W fun e w' => e = .returned (.bool true) ∧ Below W.heap.size W w' := by
  have H := hid (Hd.refl W)
  obtain hr | hr | hr | hr : a0 % 4 = 0 ∨ a0 % 4 = 1 ∨ a0 % 4 = 2 ∨ a0 % 4 = 3 := by omega
  · go_enter Try.func5, Try.ntmps5
    go_wp2_with fail
    refine (new_calls H.out (by decide) (by decide)).mono ?_
    rintro e w1 ⟨b, rfl, h1⟩
    clear H
    have H := hid h1
    clear h1
    go_wp2_with fail
    refine (put_calls _ _ _ _ _ _ H.out).mono ?_
    rw [show put 3 [] ⟨2, ⟨#[]⟩, 1, 0, 0, 0⟩ = (1, 0, [⟨2, ⟨#[]⟩, 1, 0, 0, 0⟩]) from by decide +kernel]
    rintro e w2 ⟨rfl, h1⟩
    clear H
    have H := hid h1
    clear h1
    go_wp2_with fail
    refine (put_calls _ _ _ _ _ _ H.out).mono ?_
    rw [show put 3 [⟨2, ⟨#[]⟩, 1, 0, 0, 0⟩] ⟨2, ⟨#[]⟩, 2, 0, 0, 0⟩ = (2, 0, [⟨2, ⟨#[]⟩, 1, 0, 0, 0⟩, ⟨2, ⟨#[]⟩, 2, 0, 0, 0⟩]) from by decide +kernel]
    rintro e w3 ⟨rfl, h1⟩
    clear H
    have H := hid h1
    clear h1
    go_wp2_with fail
    refine (kpub_calls 1 H.out).mono ?_
    rw [show put 3 [⟨2, ⟨#[]⟩, 1, 0, 0, 0⟩, ⟨2, ⟨#[]⟩, 2, 0, 0, 0⟩] (kpuT 1) = (3, 0, [⟨2, ⟨#[]⟩, 1, 0, 0, 0⟩, ⟨2, ⟨#[]⟩, 2, 0, 0, 0⟩, ⟨5, ⟨#[]⟩, 0, 1, 0, 0⟩]) from by decide +kernel]
    rintro e w4 ⟨rfl, h1⟩
    clear H
    have H := hid h1
    clear h1
    go_wp2_with fail
    refine (wrap_calls 3 2 H.out).mono ?_
    rw [show wrap4 3 [⟨2, ⟨#[]⟩, 1, 0, 0, 0⟩, ⟨2, ⟨#[]⟩, 2, 0, 0, 0⟩, ⟨5, ⟨#[]⟩, 0, 1, 0, 0⟩] 3 2 = (0, 0, 4, [⟨2, ⟨#[]⟩, 1, 0, 0, 0⟩, ⟨2, ⟨#[]⟩, 2, 0, 0, 0⟩, ⟨5, ⟨#[]⟩, 0, 1, 0, 0⟩]) from by decide +kernel]
    rintro e w5 ⟨rfl, h1⟩
    clear H
    have H := hid h1
    clear h1
    go_wp2_with fail
    refine (wrap_calls 3 2 H.out).mono ?_
    rw [show wrap4 3 [⟨2, ⟨#[]⟩, 1, 0, 0, 0⟩, ⟨2, ⟨#[]⟩, 2, 0, 0, 0⟩, ⟨5, ⟨#[]⟩, 0, 1, 0, 0⟩] 3 2 = (0, 0, 4, [⟨2, ⟨#[]⟩, 1, 0, 0, 0⟩, ⟨2, ⟨#[]⟩, 2, 0, 0, 0⟩, ⟨5, ⟨#[]⟩, 0, 1, 0, 0⟩]) from by decide +kernel]
    rintro e w6 ⟨rfl, h1⟩
    clear H
    have H := hid h1
    clear h1
    go_wp2_with fail
    refine (len_at H.out).mono ?_
    rintro e w' ⟨rfl, rfl⟩
    go_wp2_with fail
    refine (fixed4_calls H.out).mono ?_
    rintro e w' ⟨rfl, h5⟩
    have H5 := hid h5
    clear h5
    go_wp2_with fail
    go_ret
    exact ⟨rfl, H5.out.below⟩
  · go_enter Try.func5, Try.ntmps5
    go_wp2_with fail
    refine (new_calls H.out (by decide) (by decide)).mono ?_
    rintro e w1 ⟨b, rfl, h1⟩
    clear H
    have H := hid h1
    clear h1
    go_wp2_with fail
    refine (put_calls _ _ _ _ _ _ H.out).mono ?_
    rw [show put 4 [] ⟨2, ⟨#[]⟩, 1, 0, 0, 0⟩ = (1, 0, [⟨2, ⟨#[]⟩, 1, 0, 0, 0⟩]) from by decide +kernel]
    rintro e w2 ⟨rfl, h1⟩
    clear H
    have H := hid h1
    clear h1
    go_wp2_with fail
    refine (put_calls _ _ _ _ _ _ H.out).mono ?_
    rw [show put 4 [⟨2, ⟨#[]⟩, 1, 0, 0, 0⟩] ⟨2, ⟨#[]⟩, 2, 0, 0, 0⟩ = (2, 0, [⟨2, ⟨#[]⟩, 1, 0, 0, 0⟩, ⟨2, ⟨#[]⟩, 2, 0, 0, 0⟩]) from by decide +kernel]
    rintro e w3 ⟨rfl, h1⟩
    clear H
    have H := hid h1
    clear h1
    go_wp2_with fail
    refine (kpub_calls 1 H.out).mono ?_
    rw [show put 4 [⟨2, ⟨#[]⟩, 1, 0, 0, 0⟩, ⟨2, ⟨#[]⟩, 2, 0, 0, 0⟩] (kpuT 1) = (3, 0, [⟨2, ⟨#[]⟩, 1, 0, 0, 0⟩, ⟨2, ⟨#[]⟩, 2, 0, 0, 0⟩, ⟨5, ⟨#[]⟩, 0, 1, 0, 0⟩]) from by decide +kernel]
    rintro e w4 ⟨rfl, h1⟩
    clear H
    have H := hid h1
    clear h1
    go_wp2_with fail
    refine (wrap_calls 3 2 H.out).mono ?_
    rw [show wrap4 4 [⟨2, ⟨#[]⟩, 1, 0, 0, 0⟩, ⟨2, ⟨#[]⟩, 2, 0, 0, 0⟩, ⟨5, ⟨#[]⟩, 0, 1, 0, 0⟩] 3 2 = (0, 0, 4, [⟨2, ⟨#[]⟩, 1, 0, 0, 0⟩, ⟨2, ⟨#[]⟩, 2, 0, 0, 0⟩, ⟨5, ⟨#[]⟩, 0, 1, 0, 0⟩, ⟨6, ⟨#[]⟩, 0, 1, 2, 0⟩]) from by decide +kernel]
    rintro e w5 ⟨rfl, h1⟩
    clear H
    have H := hid h1
    clear h1
    go_wp2_with fail
    refine (wrap_calls 3 2 H.out).mono ?_
    rw [show wrap4 4 [⟨2, ⟨#[]⟩, 1, 0, 0, 0⟩, ⟨2, ⟨#[]⟩, 2, 0, 0, 0⟩, ⟨5, ⟨#[]⟩, 0, 1, 0, 0⟩, ⟨6, ⟨#[]⟩, 0, 1, 2, 0⟩] 3 2 = (0, 0, 4, [⟨2, ⟨#[]⟩, 1, 0, 0, 0⟩, ⟨2, ⟨#[]⟩, 2, 0, 0, 0⟩, ⟨5, ⟨#[]⟩, 0, 1, 0, 0⟩, ⟨6, ⟨#[]⟩, 0, 1, 2, 0⟩]) from by decide +kernel]
    rintro e w6 ⟨rfl, h1⟩
    clear H
    have H := hid h1
    clear h1
    go_wp2_with fail
    refine (len_at H.out).mono ?_
    rintro e w' ⟨rfl, rfl⟩
    go_wp2_with fail
    refine (fixed4_calls H.out).mono ?_
    rintro e w' ⟨rfl, h5⟩
    have H5 := hid h5
    clear h5
    go_wp2_with fail
    go_ret
    exact ⟨rfl, H5.out.below⟩
  · go_enter Try.func5, Try.ntmps5
    go_wp2_with fail
    refine (new_calls H.out (by decide) (by decide)).mono ?_
    rintro e w1 ⟨b, rfl, h1⟩
    clear H
    have H := hid h1
    clear h1
    go_wp2_with fail
    refine (put_calls _ _ _ _ _ _ H.out).mono ?_
    rw [show put 5 [] ⟨2, ⟨#[]⟩, 1, 0, 0, 0⟩ = (1, 0, [⟨2, ⟨#[]⟩, 1, 0, 0, 0⟩]) from by decide +kernel]
    rintro e w2 ⟨rfl, h1⟩
    clear H
    have H := hid h1
    clear h1
    go_wp2_with fail
    refine (put_calls _ _ _ _ _ _ H.out).mono ?_
    rw [show put 5 [⟨2, ⟨#[]⟩, 1, 0, 0, 0⟩] ⟨2, ⟨#[]⟩, 2, 0, 0, 0⟩ = (2, 0, [⟨2, ⟨#[]⟩, 1, 0, 0, 0⟩, ⟨2, ⟨#[]⟩, 2, 0, 0, 0⟩]) from by decide +kernel]
    rintro e w3 ⟨rfl, h1⟩
    clear H
    have H := hid h1
    clear h1
    go_wp2_with fail
    refine (kpub_calls 1 H.out).mono ?_
    rw [show put 5 [⟨2, ⟨#[]⟩, 1, 0, 0, 0⟩, ⟨2, ⟨#[]⟩, 2, 0, 0, 0⟩] (kpuT 1) = (3, 0, [⟨2, ⟨#[]⟩, 1, 0, 0, 0⟩, ⟨2, ⟨#[]⟩, 2, 0, 0, 0⟩, ⟨5, ⟨#[]⟩, 0, 1, 0, 0⟩]) from by decide +kernel]
    rintro e w4 ⟨rfl, h1⟩
    clear H
    have H := hid h1
    clear h1
    go_wp2_with fail
    refine (wrap_calls 3 2 H.out).mono ?_
    rw [show wrap4 5 [⟨2, ⟨#[]⟩, 1, 0, 0, 0⟩, ⟨2, ⟨#[]⟩, 2, 0, 0, 0⟩, ⟨5, ⟨#[]⟩, 0, 1, 0, 0⟩] 3 2 = (4, 5, 0, [⟨2, ⟨#[]⟩, 1, 0, 0, 0⟩, ⟨2, ⟨#[]⟩, 2, 0, 0, 0⟩, ⟨5, ⟨#[]⟩, 0, 1, 0, 0⟩, ⟨6, ⟨#[]⟩, 0, 1, 2, 0⟩, ⟨7, ⟨#[]⟩, 0, 1, 2, 0⟩]) from by decide +kernel]
    rintro e w5 ⟨rfl, h1⟩
    clear H
    have H := hid h1
    clear h1
    go_wp2_with fail
    refine (wrap_calls 3 2 H.out).mono ?_
    rw [show wrap4 5 [⟨2, ⟨#[]⟩, 1, 0, 0, 0⟩, ⟨2, ⟨#[]⟩, 2, 0, 0, 0⟩, ⟨5, ⟨#[]⟩, 0, 1, 0, 0⟩, ⟨6, ⟨#[]⟩, 0, 1, 2, 0⟩, ⟨7, ⟨#[]⟩, 0, 1, 2, 0⟩] 3 2 = (4, 5, 0, [⟨2, ⟨#[]⟩, 1, 0, 0, 0⟩, ⟨2, ⟨#[]⟩, 2, 0, 0, 0⟩, ⟨5, ⟨#[]⟩, 0, 1, 0, 0⟩, ⟨6, ⟨#[]⟩, 0, 1, 2, 0⟩, ⟨7, ⟨#[]⟩, 0, 1, 2, 0⟩]) from by decide +kernel]
    rintro e w6 ⟨rfl, h1⟩
    clear H
    have H := hid h1
    clear h1
    go_wp2_with fail
    refine (len_at H.out).mono ?_
    rintro e w' ⟨rfl, rfl⟩
    go_wp2_with fail
    refine (fixed4_calls H.out).mono ?_
    rintro e w' ⟨rfl, h5⟩
    have H5 := hid h5
    clear h5
    go_wp2_with fail
    go_ret
    exact ⟨rfl, H5.out.below⟩
  · go_enter Try.func5, Try.ntmps5
    go_wp2_with fail
    refine (new_calls H.out (by decide) (by decide)).mono ?_
    rintro e w1 ⟨b, rfl, h1⟩
    clear H
    have H := hid h1
    clear h1
    go_wp2_with fail
    refine (put_calls _ _ _ _ _ _ H.out).mono ?_
    rw [show put 6 [] ⟨2, ⟨#[]⟩, 1, 0, 0, 0⟩ = (1, 0, [⟨2, ⟨#[]⟩, 1, 0, 0, 0⟩]) from by decide +kernel]
    rintro e w2 ⟨rfl, h1⟩
    clear H
    have H := hid h1
    clear h1
    go_wp2_with fail
    refine (put_calls _ _ _ _ _ _ H.out).mono ?_
    rw [show put 6 [⟨2, ⟨#[]⟩, 1, 0, 0, 0⟩] ⟨2, ⟨#[]⟩, 2, 0, 0, 0⟩ = (2, 0, [⟨2, ⟨#[]⟩, 1, 0, 0, 0⟩, ⟨2, ⟨#[]⟩, 2, 0, 0, 0⟩]) from by decide +kernel]
    rintro e w3 ⟨rfl, h1⟩
    clear H
    have H := hid h1
    clear h1
    go_wp2_with fail
    refine (kpub_calls 1 H.out).mono ?_
    rw [show put 6 [⟨2, ⟨#[]⟩, 1, 0, 0, 0⟩, ⟨2, ⟨#[]⟩, 2, 0, 0, 0⟩] (kpuT 1) = (3, 0, [⟨2, ⟨#[]⟩, 1, 0, 0, 0⟩, ⟨2, ⟨#[]⟩, 2, 0, 0, 0⟩, ⟨5, ⟨#[]⟩, 0, 1, 0, 0⟩]) from by decide +kernel]
    rintro e w4 ⟨rfl, h1⟩
    clear H
    have H := hid h1
    clear h1
    go_wp2_with fail
    refine (wrap_calls 3 2 H.out).mono ?_
    rw [show wrap4 6 [⟨2, ⟨#[]⟩, 1, 0, 0, 0⟩, ⟨2, ⟨#[]⟩, 2, 0, 0, 0⟩, ⟨5, ⟨#[]⟩, 0, 1, 0, 0⟩] 3 2 = (4, 5, 0, [⟨2, ⟨#[]⟩, 1, 0, 0, 0⟩, ⟨2, ⟨#[]⟩, 2, 0, 0, 0⟩, ⟨5, ⟨#[]⟩, 0, 1, 0, 0⟩, ⟨6, ⟨#[]⟩, 0, 1, 2, 0⟩, ⟨7, ⟨#[]⟩, 0, 1, 2, 0⟩]) from by decide +kernel]
    rintro e w5 ⟨rfl, h1⟩
    clear H
    have H := hid h1
    clear h1
    go_wp2_with fail
    refine (wrap_calls 3 2 H.out).mono ?_
    rw [show wrap4 6 [⟨2, ⟨#[]⟩, 1, 0, 0, 0⟩, ⟨2, ⟨#[]⟩, 2, 0, 0, 0⟩, ⟨5, ⟨#[]⟩, 0, 1, 0, 0⟩, ⟨6, ⟨#[]⟩, 0, 1, 2, 0⟩, ⟨7, ⟨#[]⟩, 0, 1, 2, 0⟩] 3 2 = (4, 5, 0, [⟨2, ⟨#[]⟩, 1, 0, 0, 0⟩, ⟨2, ⟨#[]⟩, 2, 0, 0, 0⟩, ⟨5, ⟨#[]⟩, 0, 1, 0, 0⟩, ⟨6, ⟨#[]⟩, 0, 1, 2, 0⟩, ⟨7, ⟨#[]⟩, 0, 1, 2, 0⟩]) from by decide +kernel]
    rintro e w6 ⟨rfl, h1⟩
    clear H
    have H := hid h1
    clear h1
    go_wp2_with fail
    refine (len_at H.out).mono ?_
    rintro e w' ⟨rfl, rfl⟩
    go_wp2_with fail
    refine (fixed4_calls H.out).mono ?_
    rintro e w' ⟨rfl, h5⟩
    have H5 := hid h5
    clear h5
    go_wp2_with fail
    go_ret
    exact ⟨rfl, H5.out.below⟩
end Go.Proofs.Ythbailkfhmkfoaa
