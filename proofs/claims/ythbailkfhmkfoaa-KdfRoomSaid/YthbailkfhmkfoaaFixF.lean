/-
  Walks through what the statements share: fixed of layer 6. It takes nothing.
-/
import Derived.Test.YthbailkfhmkfoaaKdfB
namespace Go.Proofs.Ythbailkfhmkfoaa
open Go.RowKit

set_option maxRecDepth 100000 in
set_option maxHeartbeats 8000000 in
theorem fixed6_calls {W w : World} {Rs : List Res} (h : Hd W w Rs) :
    Calls Try.prog 47 #[] w fun e w' => e = .returned (.bool true) ∧ Hd W w' Rs := by
  have H := hid h
  clear h
  go_enter Try.func47, Try.ntmps47
  go_wp2_with fail
  refine (new_calls H.out (by decide) (by decide)).mono ?_
  rintro e w1 ⟨b, rfl, h1⟩
  clear H
  have H := hid h1
  clear h1
  go_wp2_with fail
  refine (put_calls _ _ _ _ _ _ H.out).mono ?_
  rw [show put 9 [] ⟨2, ⟨#[]⟩, 1, 0, 0, 0⟩ = (1, 0, [⟨2, ⟨#[]⟩, 1, 0, 0, 0⟩]) from by decide +kernel]
  rintro e w2 ⟨rfl, h1⟩
  clear H
  have H := hid h1
  clear h1
  go_wp2_with fail
  refine (put_calls _ _ _ _ _ _ H.out).mono ?_
  rw [show put 9 [⟨2, ⟨#[]⟩, 1, 0, 0, 0⟩] ⟨2, ⟨#[]⟩, 2, 0, 0, 0⟩ = (2, 0, [⟨2, ⟨#[]⟩, 1, 0, 0, 0⟩, ⟨2, ⟨#[]⟩, 2, 0, 0, 0⟩]) from by decide +kernel]
  rintro e w3 ⟨rfl, h1⟩
  clear H
  have H := hid h1
  clear h1
  go_wp2_with fail
  refine (mix_calls 1 2 H.out).mono ?_
  rw [show mix6 9 [⟨2, ⟨#[]⟩, 1, 0, 0, 0⟩, ⟨2, ⟨#[]⟩, 2, 0, 0, 0⟩] 1 2 = (4, 5, 0, [⟨2, ⟨#[]⟩, 1, 0, 0, 0⟩, ⟨2, ⟨#[]⟩, 2, 0, 0, 0⟩, ⟨8, ⟨#[]⟩, 0, 1, 2, 0⟩, ⟨9, ⟨#[]⟩, 1, 3, 0, 0⟩, ⟨9, ⟨#[]⟩, 2, 3, 0, 0⟩]) from by decide +kernel]
  rintro e w4 ⟨rfl, h1⟩
  clear H
  have H := hid h1
  clear h1
  go_wp2_with fail
  refine (chain_calls 4 2 3 H.out).mono ?_
  rw [show chain6 9 [⟨2, ⟨#[]⟩, 1, 0, 0, 0⟩, ⟨2, ⟨#[]⟩, 2, 0, 0, 0⟩, ⟨8, ⟨#[]⟩, 0, 1, 2, 0⟩, ⟨9, ⟨#[]⟩, 1, 3, 0, 0⟩, ⟨9, ⟨#[]⟩, 2, 3, 0, 0⟩] 4 2 3 = (8, 0, [⟨2, ⟨#[]⟩, 1, 0, 0, 0⟩, ⟨2, ⟨#[]⟩, 2, 0, 0, 0⟩, ⟨8, ⟨#[]⟩, 0, 1, 2, 0⟩, ⟨9, ⟨#[]⟩, 1, 3, 0, 0⟩, ⟨9, ⟨#[]⟩, 2, 3, 0, 0⟩, ⟨9, ⟨#[]⟩, 2, 4, 0, 0⟩, ⟨9, ⟨#[]⟩, 2, 6, 0, 0⟩, ⟨9, ⟨#[]⟩, 2, 7, 0, 0⟩]) from by decide +kernel]
  rintro e w5 ⟨rfl, h1⟩
  clear H
  have H := hid h1
  clear h1
  go_wp2_with fail
  refine (chain_calls 4 2 0 H.out).mono ?_
  rw [show chain6 9 [⟨2, ⟨#[]⟩, 1, 0, 0, 0⟩, ⟨2, ⟨#[]⟩, 2, 0, 0, 0⟩, ⟨8, ⟨#[]⟩, 0, 1, 2, 0⟩, ⟨9, ⟨#[]⟩, 1, 3, 0, 0⟩, ⟨9, ⟨#[]⟩, 2, 3, 0, 0⟩, ⟨9, ⟨#[]⟩, 2, 4, 0, 0⟩, ⟨9, ⟨#[]⟩, 2, 6, 0, 0⟩, ⟨9, ⟨#[]⟩, 2, 7, 0, 0⟩] 4 2 0 = (4, 0, [⟨2, ⟨#[]⟩, 1, 0, 0, 0⟩, ⟨2, ⟨#[]⟩, 2, 0, 0, 0⟩, ⟨8, ⟨#[]⟩, 0, 1, 2, 0⟩, ⟨9, ⟨#[]⟩, 1, 3, 0, 0⟩, ⟨9, ⟨#[]⟩, 2, 3, 0, 0⟩, ⟨9, ⟨#[]⟩, 2, 4, 0, 0⟩, ⟨9, ⟨#[]⟩, 2, 6, 0, 0⟩, ⟨9, ⟨#[]⟩, 2, 7, 0, 0⟩]) from by decide +kernel]
  rintro e w6 ⟨rfl, h1⟩
  clear H
  have H := hid h1
  clear h1
  go_wp2_with fail
  refine (chain_calls 4 2 (-1) H.out).mono ?_
  rw [show chain6 9 [⟨2, ⟨#[]⟩, 1, 0, 0, 0⟩, ⟨2, ⟨#[]⟩, 2, 0, 0, 0⟩, ⟨8, ⟨#[]⟩, 0, 1, 2, 0⟩, ⟨9, ⟨#[]⟩, 1, 3, 0, 0⟩, ⟨9, ⟨#[]⟩, 2, 3, 0, 0⟩, ⟨9, ⟨#[]⟩, 2, 4, 0, 0⟩, ⟨9, ⟨#[]⟩, 2, 6, 0, 0⟩, ⟨9, ⟨#[]⟩, 2, 7, 0, 0⟩] 4 2 (-1) = (0, 1, [⟨2, ⟨#[]⟩, 1, 0, 0, 0⟩, ⟨2, ⟨#[]⟩, 2, 0, 0, 0⟩, ⟨8, ⟨#[]⟩, 0, 1, 2, 0⟩, ⟨9, ⟨#[]⟩, 1, 3, 0, 0⟩, ⟨9, ⟨#[]⟩, 2, 3, 0, 0⟩, ⟨9, ⟨#[]⟩, 2, 4, 0, 0⟩, ⟨9, ⟨#[]⟩, 2, 6, 0, 0⟩, ⟨9, ⟨#[]⟩, 2, 7, 0, 0⟩]) from by decide +kernel]
  rintro e w7 ⟨rfl, h1⟩
  clear H
  have H := hid h1
  clear h1
  go_wp2_with fail
  refine (chain_calls 99 2 0 H.out).mono ?_
  rw [show chain6 9 [⟨2, ⟨#[]⟩, 1, 0, 0, 0⟩, ⟨2, ⟨#[]⟩, 2, 0, 0, 0⟩, ⟨8, ⟨#[]⟩, 0, 1, 2, 0⟩, ⟨9, ⟨#[]⟩, 1, 3, 0, 0⟩, ⟨9, ⟨#[]⟩, 2, 3, 0, 0⟩, ⟨9, ⟨#[]⟩, 2, 4, 0, 0⟩, ⟨9, ⟨#[]⟩, 2, 6, 0, 0⟩, ⟨9, ⟨#[]⟩, 2, 7, 0, 0⟩] 99 2 0 = (0, 1, [⟨2, ⟨#[]⟩, 1, 0, 0, 0⟩, ⟨2, ⟨#[]⟩, 2, 0, 0, 0⟩, ⟨8, ⟨#[]⟩, 0, 1, 2, 0⟩, ⟨9, ⟨#[]⟩, 1, 3, 0, 0⟩, ⟨9, ⟨#[]⟩, 2, 3, 0, 0⟩, ⟨9, ⟨#[]⟩, 2, 4, 0, 0⟩, ⟨9, ⟨#[]⟩, 2, 6, 0, 0⟩, ⟨9, ⟨#[]⟩, 2, 7, 0, 0⟩]) from by decide +kernel]
  rintro e w8 ⟨rfl, h1⟩
  clear H
  have H := hid h1
  clear h1
  go_wp2_with fail
  refine (chain_calls 4 2 9 H.out).mono ?_
  rw [show chain6 9 [⟨2, ⟨#[]⟩, 1, 0, 0, 0⟩, ⟨2, ⟨#[]⟩, 2, 0, 0, 0⟩, ⟨8, ⟨#[]⟩, 0, 1, 2, 0⟩, ⟨9, ⟨#[]⟩, 1, 3, 0, 0⟩, ⟨9, ⟨#[]⟩, 2, 3, 0, 0⟩, ⟨9, ⟨#[]⟩, 2, 4, 0, 0⟩, ⟨9, ⟨#[]⟩, 2, 6, 0, 0⟩, ⟨9, ⟨#[]⟩, 2, 7, 0, 0⟩] 4 2 9 = (0, 4, [⟨2, ⟨#[]⟩, 1, 0, 0, 0⟩, ⟨2, ⟨#[]⟩, 2, 0, 0, 0⟩, ⟨8, ⟨#[]⟩, 0, 1, 2, 0⟩, ⟨9, ⟨#[]⟩, 1, 3, 0, 0⟩, ⟨9, ⟨#[]⟩, 2, 3, 0, 0⟩, ⟨9, ⟨#[]⟩, 2, 4, 0, 0⟩, ⟨9, ⟨#[]⟩, 2, 6, 0, 0⟩, ⟨9, ⟨#[]⟩, 2, 7, 0, 0⟩, ⟨9, ⟨#[]⟩, 2, 8, 0, 0⟩]) from by decide +kernel]
  rintro e w9 ⟨rfl, h1⟩
  clear H
  have H := hid h1
  clear h1
  go_wp2_with fail
  refine (mix_calls 1 99 H.out).mono ?_
  rw [show mix6 9 [⟨2, ⟨#[]⟩, 1, 0, 0, 0⟩, ⟨2, ⟨#[]⟩, 2, 0, 0, 0⟩, ⟨8, ⟨#[]⟩, 0, 1, 2, 0⟩, ⟨9, ⟨#[]⟩, 1, 3, 0, 0⟩, ⟨9, ⟨#[]⟩, 2, 3, 0, 0⟩, ⟨9, ⟨#[]⟩, 2, 4, 0, 0⟩, ⟨9, ⟨#[]⟩, 2, 6, 0, 0⟩, ⟨9, ⟨#[]⟩, 2, 7, 0, 0⟩, ⟨9, ⟨#[]⟩, 2, 8, 0, 0⟩] 1 99 = (0, 0, 1, [⟨2, ⟨#[]⟩, 1, 0, 0, 0⟩, ⟨2, ⟨#[]⟩, 2, 0, 0, 0⟩, ⟨8, ⟨#[]⟩, 0, 1, 2, 0⟩, ⟨9, ⟨#[]⟩, 1, 3, 0, 0⟩, ⟨9, ⟨#[]⟩, 2, 3, 0, 0⟩, ⟨9, ⟨#[]⟩, 2, 4, 0, 0⟩, ⟨9, ⟨#[]⟩, 2, 6, 0, 0⟩, ⟨9, ⟨#[]⟩, 2, 7, 0, 0⟩, ⟨9, ⟨#[]⟩, 2, 8, 0, 0⟩]) from by decide +kernel]
  rintro e w10 ⟨rfl, h1⟩
  clear H
  have H := hid h1
  clear h1
  go_wp2_with fail
  refine (hash_calls 1 2 H.out).mono ?_
  rw [show put 9 [⟨2, ⟨#[]⟩, 1, 0, 0, 0⟩, ⟨2, ⟨#[]⟩, 2, 0, 0, 0⟩, ⟨8, ⟨#[]⟩, 0, 1, 2, 0⟩, ⟨9, ⟨#[]⟩, 1, 3, 0, 0⟩, ⟨9, ⟨#[]⟩, 2, 3, 0, 0⟩, ⟨9, ⟨#[]⟩, 2, 4, 0, 0⟩, ⟨9, ⟨#[]⟩, 2, 6, 0, 0⟩, ⟨9, ⟨#[]⟩, 2, 7, 0, 0⟩, ⟨9, ⟨#[]⟩, 2, 8, 0, 0⟩] (hasT 1 2) = (3, 0, [⟨2, ⟨#[]⟩, 1, 0, 0, 0⟩, ⟨2, ⟨#[]⟩, 2, 0, 0, 0⟩, ⟨8, ⟨#[]⟩, 0, 1, 2, 0⟩, ⟨9, ⟨#[]⟩, 1, 3, 0, 0⟩, ⟨9, ⟨#[]⟩, 2, 3, 0, 0⟩, ⟨9, ⟨#[]⟩, 2, 4, 0, 0⟩, ⟨9, ⟨#[]⟩, 2, 6, 0, 0⟩, ⟨9, ⟨#[]⟩, 2, 7, 0, 0⟩, ⟨9, ⟨#[]⟩, 2, 8, 0, 0⟩]) from by decide +kernel]
  rintro e w11 ⟨rfl, h1⟩
  clear H
  have H := hid h1
  clear h1
  go_wp2_with fail
  refine (derive_calls 3 1 H.out).mono ?_
  rw [show put 9 [⟨2, ⟨#[]⟩, 1, 0, 0, 0⟩, ⟨2, ⟨#[]⟩, 2, 0, 0, 0⟩, ⟨8, ⟨#[]⟩, 0, 1, 2, 0⟩, ⟨9, ⟨#[]⟩, 1, 3, 0, 0⟩, ⟨9, ⟨#[]⟩, 2, 3, 0, 0⟩, ⟨9, ⟨#[]⟩, 2, 4, 0, 0⟩, ⟨9, ⟨#[]⟩, 2, 6, 0, 0⟩, ⟨9, ⟨#[]⟩, 2, 7, 0, 0⟩, ⟨9, ⟨#[]⟩, 2, 8, 0, 0⟩] (keyT 3 1) = (4, 0, [⟨2, ⟨#[]⟩, 1, 0, 0, 0⟩, ⟨2, ⟨#[]⟩, 2, 0, 0, 0⟩, ⟨8, ⟨#[]⟩, 0, 1, 2, 0⟩, ⟨9, ⟨#[]⟩, 1, 3, 0, 0⟩, ⟨9, ⟨#[]⟩, 2, 3, 0, 0⟩, ⟨9, ⟨#[]⟩, 2, 4, 0, 0⟩, ⟨9, ⟨#[]⟩, 2, 6, 0, 0⟩, ⟨9, ⟨#[]⟩, 2, 7, 0, 0⟩, ⟨9, ⟨#[]⟩, 2, 8, 0, 0⟩]) from by decide +kernel]
  rintro e w12 ⟨rfl, h1⟩
  clear H
  have H := hid h1
  clear h1
  go_wp2_with fail
  go_ret
  exact ⟨rfl, H.out.drop⟩
end Go.Proofs.Ythbailkfhmkfoaa
