/-
  Walks through what the statements share: fixed of layer 4. It takes nothing.
-/
import Derived.Test.YthbailkfhmkfoaaKem
namespace Go.Proofs.Ythbailkfhmkfoaa
open Go.RowKit

set_option maxRecDepth 100000 in
set_option maxHeartbeats 4000000 in
theorem fixed4_calls {W w : World} {Rs : List Res} (h : Hd W w Rs) :
    Calls Try.prog 34 #[] w fun e w' => e = .returned (.bool true) ∧ Hd W w' Rs := by
  have H := hid h
  clear h
  go_enter Try.func34, Try.ntmps34
  go_wp2_with fail
  refine (new_calls H.out (by decide) (by decide)).mono ?_
  rintro e w1 ⟨b, rfl, h1⟩
  clear H
  have H := hid h1
  clear h1
  go_wp2_with fail
  refine (put_calls _ _ _ _ _ _ H.out).mono ?_
  rw [show put 9 [] ⟨2, ⟨#[]⟩, 1, 0, 0, 0⟩ = (1, 0, [⟨2, ⟨#[]⟩, 1, 0, 0, 0⟩]) from by decide +kernel]
  rintro e w2 ⟨rfl, h1⟩
  clear H
  have H := hid h1
  clear h1
  go_wp2_with fail
  refine (put_calls _ _ _ _ _ _ H.out).mono ?_
  rw [show put 9 [⟨2, ⟨#[]⟩, 1, 0, 0, 0⟩] ⟨2, ⟨#[]⟩, 2, 0, 0, 0⟩ = (2, 0, [⟨2, ⟨#[]⟩, 1, 0, 0, 0⟩, ⟨2, ⟨#[]⟩, 2, 0, 0, 0⟩]) from by decide +kernel]
  rintro e w3 ⟨rfl, h1⟩
  clear H
  have H := hid h1
  clear h1
  go_wp2_with fail
  refine (kpub_calls 1 H.out).mono ?_
  rw [show put 9 [⟨2, ⟨#[]⟩, 1, 0, 0, 0⟩, ⟨2, ⟨#[]⟩, 2, 0, 0, 0⟩] (kpuT 1) = (3, 0, [⟨2, ⟨#[]⟩, 1, 0, 0, 0⟩, ⟨2, ⟨#[]⟩, 2, 0, 0, 0⟩, ⟨5, ⟨#[]⟩, 0, 1, 0, 0⟩]) from by decide +kernel]
  rintro e w4 ⟨rfl, h1⟩
  clear H
  have H := hid h1
  clear h1
  go_wp2_with fail
  refine (wrap_calls 3 2 H.out).mono ?_
  rw [show wrap4 9 [⟨2, ⟨#[]⟩, 1, 0, 0, 0⟩, ⟨2, ⟨#[]⟩, 2, 0, 0, 0⟩, ⟨5, ⟨#[]⟩, 0, 1, 0, 0⟩] 3 2 = (4, 5, 0, [⟨2, ⟨#[]⟩, 1, 0, 0, 0⟩, ⟨2, ⟨#[]⟩, 2, 0, 0, 0⟩, ⟨5, ⟨#[]⟩, 0, 1, 0, 0⟩, ⟨6, ⟨#[]⟩, 0, 1, 2, 0⟩, ⟨7, ⟨#[]⟩, 0, 1, 2, 0⟩]) from by decide +kernel]
  rintro e w5 ⟨rfl, h1⟩
  clear H
  have H := hid h1
  clear h1
  go_wp2_with fail
  refine (kopen_calls 1 4 H.out).mono ?_
  rw [show open4 9 [⟨2, ⟨#[]⟩, 1, 0, 0, 0⟩, ⟨2, ⟨#[]⟩, 2, 0, 0, 0⟩, ⟨5, ⟨#[]⟩, 0, 1, 0, 0⟩, ⟨6, ⟨#[]⟩, 0, 1, 2, 0⟩, ⟨7, ⟨#[]⟩, 0, 1, 2, 0⟩] 1 4 = (5, 0, [⟨2, ⟨#[]⟩, 1, 0, 0, 0⟩, ⟨2, ⟨#[]⟩, 2, 0, 0, 0⟩, ⟨5, ⟨#[]⟩, 0, 1, 0, 0⟩, ⟨6, ⟨#[]⟩, 0, 1, 2, 0⟩, ⟨7, ⟨#[]⟩, 0, 1, 2, 0⟩]) from by decide +kernel]
  rintro e w6 ⟨rfl, h1⟩
  clear H
  have H := hid h1
  clear h1
  go_wp2_with fail
  refine (kopen_calls 2 4 H.out).mono ?_
  rw [show open4 9 [⟨2, ⟨#[]⟩, 1, 0, 0, 0⟩, ⟨2, ⟨#[]⟩, 2, 0, 0, 0⟩, ⟨5, ⟨#[]⟩, 0, 1, 0, 0⟩, ⟨6, ⟨#[]⟩, 0, 1, 2, 0⟩, ⟨7, ⟨#[]⟩, 0, 1, 2, 0⟩] 2 4 = (0, 10, [⟨2, ⟨#[]⟩, 1, 0, 0, 0⟩, ⟨2, ⟨#[]⟩, 2, 0, 0, 0⟩, ⟨5, ⟨#[]⟩, 0, 1, 0, 0⟩, ⟨6, ⟨#[]⟩, 0, 1, 2, 0⟩, ⟨7, ⟨#[]⟩, 0, 1, 2, 0⟩]) from by decide +kernel]
  rintro e w7 ⟨rfl, h1⟩
  clear H
  have H := hid h1
  clear h1
  go_wp2_with fail
  refine (kopen_calls 1 3 H.out).mono ?_
  rw [show open4 9 [⟨2, ⟨#[]⟩, 1, 0, 0, 0⟩, ⟨2, ⟨#[]⟩, 2, 0, 0, 0⟩, ⟨5, ⟨#[]⟩, 0, 1, 0, 0⟩, ⟨6, ⟨#[]⟩, 0, 1, 2, 0⟩, ⟨7, ⟨#[]⟩, 0, 1, 2, 0⟩] 1 3 = (0, 10, [⟨2, ⟨#[]⟩, 1, 0, 0, 0⟩, ⟨2, ⟨#[]⟩, 2, 0, 0, 0⟩, ⟨5, ⟨#[]⟩, 0, 1, 0, 0⟩, ⟨6, ⟨#[]⟩, 0, 1, 2, 0⟩, ⟨7, ⟨#[]⟩, 0, 1, 2, 0⟩]) from by decide +kernel]
  rintro e w8 ⟨rfl, h1⟩
  clear H
  have H := hid h1
  clear h1
  go_wp2_with fail
  refine (kopen_calls 1 99 H.out).mono ?_
  rw [show open4 9 [⟨2, ⟨#[]⟩, 1, 0, 0, 0⟩, ⟨2, ⟨#[]⟩, 2, 0, 0, 0⟩, ⟨5, ⟨#[]⟩, 0, 1, 0, 0⟩, ⟨6, ⟨#[]⟩, 0, 1, 2, 0⟩, ⟨7, ⟨#[]⟩, 0, 1, 2, 0⟩] 1 99 = (0, 1, [⟨2, ⟨#[]⟩, 1, 0, 0, 0⟩, ⟨2, ⟨#[]⟩, 2, 0, 0, 0⟩, ⟨5, ⟨#[]⟩, 0, 1, 0, 0⟩, ⟨6, ⟨#[]⟩, 0, 1, 2, 0⟩, ⟨7, ⟨#[]⟩, 0, 1, 2, 0⟩]) from by decide +kernel]
  rintro e w9 ⟨rfl, h1⟩
  clear H
  have H := hid h1
  clear h1
  go_wp2_with fail
  refine (wrap_calls 1 2 H.out).mono ?_
  rw [show wrap4 9 [⟨2, ⟨#[]⟩, 1, 0, 0, 0⟩, ⟨2, ⟨#[]⟩, 2, 0, 0, 0⟩, ⟨5, ⟨#[]⟩, 0, 1, 0, 0⟩, ⟨6, ⟨#[]⟩, 0, 1, 2, 0⟩, ⟨7, ⟨#[]⟩, 0, 1, 2, 0⟩] 1 2 = (0, 0, 1, [⟨2, ⟨#[]⟩, 1, 0, 0, 0⟩, ⟨2, ⟨#[]⟩, 2, 0, 0, 0⟩, ⟨5, ⟨#[]⟩, 0, 1, 0, 0⟩, ⟨6, ⟨#[]⟩, 0, 1, 2, 0⟩, ⟨7, ⟨#[]⟩, 0, 1, 2, 0⟩]) from by decide +kernel]
  rintro e w10 ⟨rfl, h1⟩
  clear H
  have H := hid h1
  clear h1
  go_wp2_with fail
  go_ret
  exact ⟨rfl, H.out.drop⟩
end Go.Proofs.Ythbailkfhmkfoaa
