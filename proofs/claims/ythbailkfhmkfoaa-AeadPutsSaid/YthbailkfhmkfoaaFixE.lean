/-
  Walks through what the statements share: fixed of layer 5. It takes nothing.
-/
import Derived.Test.YthbailkfhmkfoaaAead
namespace Go.Proofs.Ythbailkfhmkfoaa
open Go.RowKit

set_option maxRecDepth 100000 in
set_option maxHeartbeats 8000000 in
theorem fixed5_calls {W w : World} {Rs : List Res} (h : Hd W w Rs) :
    Calls Try.prog 52 #[] w fun e w' => e = .returned (.bool true) ∧ Hd W w' Rs := by
  have H := hid h
  clear h
  go_enter Try.func52, Try.ntmps52
  go_wp2_with fail
  refine (new_calls H.out (by decide) (by decide)).mono ?_
  rintro e w1 ⟨b, rfl, h1⟩
  clear H
  have H := hid h1
  clear h1
  go_wp2_with fail
  refine (put_calls _ _ _ _ _ _ H.out).mono ?_
  rw [show put 9 [] ⟨2, ⟨#[]⟩, 1, 0, 0, 0⟩ = (1, 0, [⟨2, ⟨#[]⟩, 1, 0, 0, 0⟩]) from by decide +kernel]
  rintro e w2 ⟨rfl, h1⟩
  clear H
  have H := hid h1
  clear h1
  go_wp2_with fail
  refine (text_calls 1 0 1 ⟨#[97, 98]⟩ (by decide +kernel) H.out).mono ?_
  rw [show text5 9 [⟨2, ⟨#[]⟩, 1, 0, 0, 0⟩] 1 0 1 ⟨#[97, 98]⟩ = (3, 0, [⟨2, ⟨#[]⟩, 1, 0, 0, 0⟩, ⟨1, ⟨#[97, 98]⟩, 0, 0, 0, 0⟩, ⟨10, ⟨#[]⟩, 0, 1, 1, 2⟩]) from by decide +kernel]
  rintro e w3 ⟨rfl, h1⟩
  clear H
  have H := hid h1
  clear h1
  go_wp2_with fail
  refine (read_calls 1 0 1 3 H.out).mono ?_
  rw [show read5 [⟨2, ⟨#[]⟩, 1, 0, 0, 0⟩, ⟨1, ⟨#[97, 98]⟩, 0, 0, 0, 0⟩, ⟨10, ⟨#[]⟩, 0, 1, 1, 2⟩] 1 0 1 3 = (⟨#[97, 98]⟩, 0) from by decide +kernel]
  rintro e w4 ⟨rfl, h1⟩
  clear H
  have H := hid h1
  clear h1
  go_wp2_with fail
  refine (read_calls 1 1 1 3 H.out).mono ?_
  rw [show read5 [⟨2, ⟨#[]⟩, 1, 0, 0, 0⟩, ⟨1, ⟨#[97, 98]⟩, 0, 0, 0, 0⟩, ⟨10, ⟨#[]⟩, 0, 1, 1, 2⟩] 1 1 1 3 = (⟨#[]⟩, 9) from by decide +kernel]
  rintro e w5 ⟨rfl, h1⟩
  clear H
  have H := hid h1
  clear h1
  go_wp2_with fail
  refine (read_calls 2 0 1 3 H.out).mono ?_
  rw [show read5 [⟨2, ⟨#[]⟩, 1, 0, 0, 0⟩, ⟨1, ⟨#[97, 98]⟩, 0, 0, 0, 0⟩, ⟨10, ⟨#[]⟩, 0, 1, 1, 2⟩] 2 0 1 3 = (⟨#[]⟩, 9) from by decide +kernel]
  rintro e w6 ⟨rfl, h1⟩
  clear H
  have H := hid h1
  clear h1
  go_wp2_with fail
  refine (aopen_calls 1 0 1 3 H.out).mono ?_
  rw [show open5 [⟨2, ⟨#[]⟩, 1, 0, 0, 0⟩, ⟨1, ⟨#[97, 98]⟩, 0, 0, 0, 0⟩, ⟨10, ⟨#[]⟩, 0, 1, 1, 2⟩] 1 0 1 3 = (2, 0) from by decide +kernel]
  rintro e w7 ⟨rfl, h1⟩
  clear H
  have H := hid h1
  clear h1
  go_wp2_with fail
  refine (seal_calls 1 0 1 1 H.out).mono ?_
  rw [show put 9 [⟨2, ⟨#[]⟩, 1, 0, 0, 0⟩, ⟨1, ⟨#[97, 98]⟩, 0, 0, 0, 0⟩, ⟨10, ⟨#[]⟩, 0, 1, 1, 2⟩] (seaT 1 0 1 1) = (4, 0, [⟨2, ⟨#[]⟩, 1, 0, 0, 0⟩, ⟨1, ⟨#[97, 98]⟩, 0, 0, 0, 0⟩, ⟨10, ⟨#[]⟩, 0, 1, 1, 2⟩, ⟨10, ⟨#[]⟩, 0, 1, 1, 1⟩]) from by decide +kernel]
  rintro e w8 ⟨rfl, h1⟩
  clear H
  have H := hid h1
  clear h1
  go_wp2_with fail
  refine (read_calls 1 0 1 4 H.out).mono ?_
  rw [show read5 [⟨2, ⟨#[]⟩, 1, 0, 0, 0⟩, ⟨1, ⟨#[97, 98]⟩, 0, 0, 0, 0⟩, ⟨10, ⟨#[]⟩, 0, 1, 1, 2⟩, ⟨10, ⟨#[]⟩, 0, 1, 1, 1⟩] 1 0 1 4 = (⟨#[]⟩, 9) from by decide +kernel]
  rintro e w9 ⟨rfl, h1⟩
  clear H
  have H := hid h1
  clear h1
  go_wp2_with fail
  refine (aopen_calls 1 0 1 99 H.out).mono ?_
  rw [show open5 [⟨2, ⟨#[]⟩, 1, 0, 0, 0⟩, ⟨1, ⟨#[97, 98]⟩, 0, 0, 0, 0⟩, ⟨10, ⟨#[]⟩, 0, 1, 1, 2⟩, ⟨10, ⟨#[]⟩, 0, 1, 1, 1⟩] 1 0 1 99 = (0, 1) from by decide +kernel]
  rintro e w10 ⟨rfl, h1⟩
  clear H
  have H := hid h1
  clear h1
  go_wp2_with fail
  refine (text_calls 99 0 1 ⟨#[97, 98]⟩ (by decide +kernel) H.out).mono ?_
  rw [show text5 9 [⟨2, ⟨#[]⟩, 1, 0, 0, 0⟩, ⟨1, ⟨#[97, 98]⟩, 0, 0, 0, 0⟩, ⟨10, ⟨#[]⟩, 0, 1, 1, 2⟩, ⟨10, ⟨#[]⟩, 0, 1, 1, 1⟩] 99 0 1 ⟨#[97, 98]⟩ = (0, 1, [⟨2, ⟨#[]⟩, 1, 0, 0, 0⟩, ⟨1, ⟨#[97, 98]⟩, 0, 0, 0, 0⟩, ⟨10, ⟨#[]⟩, 0, 1, 1, 2⟩, ⟨10, ⟨#[]⟩, 0, 1, 1, 1⟩]) from by decide +kernel]
  rintro e w11 ⟨rfl, h1⟩
  clear H
  have H := hid h1
  clear h1
  go_wp2_with fail
  go_ret
  exact ⟨rfl, H.out.drop⟩
end Go.Proofs.Ythbailkfhmkfoaa
