/-
  Walks through what the statements share: fixed of layer 3. It takes nothing.
-/
import Derived.Test.YtfhpgcgiogmlgaaDh
namespace Go.Proofs.Ytfhpgcgiogmlgaa
open Go.RowKit

set_option maxRecDepth 100000 in
set_option maxHeartbeats 4000000 in
theorem fixed3_calls {W w : World} {Rs : List Res} (h : Hd W w Rs) :
    Calls Try.prog 38 #[] w fun e w' => e = .returned (.bool true) ∧ Hd W w' Rs := by
  have H := hid h
  clear h
  go_enter Try.func38, Try.ntmps38
  go_wp2_with fail
  refine (new_calls H.out (by decide) (by decide)).mono ?_
  rintro e w1 ⟨b, rfl, h1⟩
  clear H
  have H := hid h1
  clear h1
  go_wp2_with fail
  refine (put_calls _ _ _ _ _ _ H.out).mono ?_
  rw [show put 9 [] ⟨2, ⟨#[]⟩, 1, 0, 0, 0⟩ = (1, 0, [⟨2, ⟨#[]⟩, 1, 0, 0, 0⟩]) from by decide +kernel]
  rintro e w2 ⟨rfl, h1⟩
  clear H
  have H := hid h1
  clear h1
  go_wp2_with fail
  refine (put_calls _ _ _ _ _ _ H.out).mono ?_
  rw [show put 9 [⟨2, ⟨#[]⟩, 1, 0, 0, 0⟩] ⟨2, ⟨#[]⟩, 2, 0, 0, 0⟩ = (2, 0, [⟨2, ⟨#[]⟩, 1, 0, 0, 0⟩, ⟨2, ⟨#[]⟩, 2, 0, 0, 0⟩]) from by decide +kernel]
  rintro e w3 ⟨rfl, h1⟩
  clear H
  have H := hid h1
  clear h1
  go_wp2_with fail
  refine (pub_calls 1 H.out).mono ?_
  rw [show put 9 [⟨2, ⟨#[]⟩, 1, 0, 0, 0⟩, ⟨2, ⟨#[]⟩, 2, 0, 0, 0⟩] (pubT 1) = (3, 0, [⟨2, ⟨#[]⟩, 1, 0, 0, 0⟩, ⟨2, ⟨#[]⟩, 2, 0, 0, 0⟩, ⟨3, ⟨#[]⟩, 0, 1, 0, 0⟩]) from by decide +kernel]
  rintro e w4 ⟨rfl, h1⟩
  clear H
  have H := hid h1
  clear h1
  go_wp2_with fail
  refine (pub_calls 2 H.out).mono ?_
  rw [show put 9 [⟨2, ⟨#[]⟩, 1, 0, 0, 0⟩, ⟨2, ⟨#[]⟩, 2, 0, 0, 0⟩, ⟨3, ⟨#[]⟩, 0, 1, 0, 0⟩] (pubT 2) = (4, 0, [⟨2, ⟨#[]⟩, 1, 0, 0, 0⟩, ⟨2, ⟨#[]⟩, 2, 0, 0, 0⟩, ⟨3, ⟨#[]⟩, 0, 1, 0, 0⟩, ⟨3, ⟨#[]⟩, 0, 2, 0, 0⟩]) from by decide +kernel]
  rintro e w5 ⟨rfl, h1⟩
  clear H
  have H := hid h1
  clear h1
  go_wp2_with fail
  refine (agree_calls 1 4 H.out).mono ?_
  rw [show agree 9 [⟨2, ⟨#[]⟩, 1, 0, 0, 0⟩, ⟨2, ⟨#[]⟩, 2, 0, 0, 0⟩, ⟨3, ⟨#[]⟩, 0, 1, 0, 0⟩, ⟨3, ⟨#[]⟩, 0, 2, 0, 0⟩] 1 4 = (5, 0, [⟨2, ⟨#[]⟩, 1, 0, 0, 0⟩, ⟨2, ⟨#[]⟩, 2, 0, 0, 0⟩, ⟨3, ⟨#[]⟩, 0, 1, 0, 0⟩, ⟨3, ⟨#[]⟩, 0, 2, 0, 0⟩, ⟨4, ⟨#[]⟩, 0, 1, 2, 0⟩]) from by decide +kernel]
  rintro e w6 ⟨rfl, h1⟩
  clear H
  have H := hid h1
  clear h1
  go_wp2_with fail
  refine (agree_calls 2 3 H.out).mono ?_
  rw [show agree 9 [⟨2, ⟨#[]⟩, 1, 0, 0, 0⟩, ⟨2, ⟨#[]⟩, 2, 0, 0, 0⟩, ⟨3, ⟨#[]⟩, 0, 1, 0, 0⟩, ⟨3, ⟨#[]⟩, 0, 2, 0, 0⟩, ⟨4, ⟨#[]⟩, 0, 1, 2, 0⟩] 2 3 = (5, 0, [⟨2, ⟨#[]⟩, 1, 0, 0, 0⟩, ⟨2, ⟨#[]⟩, 2, 0, 0, 0⟩, ⟨3, ⟨#[]⟩, 0, 1, 0, 0⟩, ⟨3, ⟨#[]⟩, 0, 2, 0, 0⟩, ⟨4, ⟨#[]⟩, 0, 1, 2, 0⟩]) from by decide +kernel]
  rintro e w7 ⟨rfl, h1⟩
  clear H
  have H := hid h1
  clear h1
  go_wp2_with fail
  refine (agree_calls 1 2 H.out).mono ?_
  rw [show agree 9 [⟨2, ⟨#[]⟩, 1, 0, 0, 0⟩, ⟨2, ⟨#[]⟩, 2, 0, 0, 0⟩, ⟨3, ⟨#[]⟩, 0, 1, 0, 0⟩, ⟨3, ⟨#[]⟩, 0, 2, 0, 0⟩, ⟨4, ⟨#[]⟩, 0, 1, 2, 0⟩] 1 2 = (0, 1, [⟨2, ⟨#[]⟩, 1, 0, 0, 0⟩, ⟨2, ⟨#[]⟩, 2, 0, 0, 0⟩, ⟨3, ⟨#[]⟩, 0, 1, 0, 0⟩, ⟨3, ⟨#[]⟩, 0, 2, 0, 0⟩, ⟨4, ⟨#[]⟩, 0, 1, 2, 0⟩]) from by decide +kernel]
  rintro e w8 ⟨rfl, h1⟩
  clear H
  have H := hid h1
  clear h1
  go_wp2_with fail
  refine (agree_calls 99 3 H.out).mono ?_
  rw [show agree 9 [⟨2, ⟨#[]⟩, 1, 0, 0, 0⟩, ⟨2, ⟨#[]⟩, 2, 0, 0, 0⟩, ⟨3, ⟨#[]⟩, 0, 1, 0, 0⟩, ⟨3, ⟨#[]⟩, 0, 2, 0, 0⟩, ⟨4, ⟨#[]⟩, 0, 1, 2, 0⟩] 99 3 = (0, 1, [⟨2, ⟨#[]⟩, 1, 0, 0, 0⟩, ⟨2, ⟨#[]⟩, 2, 0, 0, 0⟩, ⟨3, ⟨#[]⟩, 0, 1, 0, 0⟩, ⟨3, ⟨#[]⟩, 0, 2, 0, 0⟩, ⟨4, ⟨#[]⟩, 0, 1, 2, 0⟩]) from by decide +kernel]
  rintro e w9 ⟨rfl, h1⟩
  clear H
  have H := hid h1
  clear h1
  go_wp2_with fail
  refine (pub_calls 99 H.out).mono ?_
  rw [show put 9 [⟨2, ⟨#[]⟩, 1, 0, 0, 0⟩, ⟨2, ⟨#[]⟩, 2, 0, 0, 0⟩, ⟨3, ⟨#[]⟩, 0, 1, 0, 0⟩, ⟨3, ⟨#[]⟩, 0, 2, 0, 0⟩, ⟨4, ⟨#[]⟩, 0, 1, 2, 0⟩] (pubT 99) = (0, 1, [⟨2, ⟨#[]⟩, 1, 0, 0, 0⟩, ⟨2, ⟨#[]⟩, 2, 0, 0, 0⟩, ⟨3, ⟨#[]⟩, 0, 1, 0, 0⟩, ⟨3, ⟨#[]⟩, 0, 2, 0, 0⟩, ⟨4, ⟨#[]⟩, 0, 1, 2, 0⟩]) from by decide +kernel]
  rintro e w10 ⟨rfl, h1⟩
  clear H
  have H := hid h1
  clear h1
  go_wp2_with fail
  refine (is_calls 3 H.out).mono ?_
  rw [show ((getT [⟨2, ⟨#[]⟩, 1, 0, 0, 0⟩, ⟨2, ⟨#[]⟩, 2, 0, 0, 0⟩, ⟨3, ⟨#[]⟩, 0, 1, 0, 0⟩, ⟨3, ⟨#[]⟩, 0, 2, 0, 0⟩, ⟨4, ⟨#[]⟩, 0, 1, 2, 0⟩] 3).k == 3) = true from by decide +kernel]
  rintro e w11 ⟨rfl, h1⟩
  clear H
  have H := hid h1
  clear h1
  go_wp2_with fail
  refine (is_calls 1 H.out).mono ?_
  rw [show ((getT [⟨2, ⟨#[]⟩, 1, 0, 0, 0⟩, ⟨2, ⟨#[]⟩, 2, 0, 0, 0⟩, ⟨3, ⟨#[]⟩, 0, 1, 0, 0⟩, ⟨3, ⟨#[]⟩, 0, 2, 0, 0⟩, ⟨4, ⟨#[]⟩, 0, 1, 2, 0⟩] 1).k == 3) = false from by decide +kernel]
  rintro e w12 ⟨rfl, h1⟩
  clear H
  have H := hid h1
  clear h1
  go_wp2_with fail
  refine (is_calls 0 H.out).mono ?_
  rw [show ((getT [⟨2, ⟨#[]⟩, 1, 0, 0, 0⟩, ⟨2, ⟨#[]⟩, 2, 0, 0, 0⟩, ⟨3, ⟨#[]⟩, 0, 1, 0, 0⟩, ⟨3, ⟨#[]⟩, 0, 2, 0, 0⟩, ⟨4, ⟨#[]⟩, 0, 1, 2, 0⟩] 0).k == 3) = false from by decide +kernel]
  rintro e w13 ⟨rfl, h1⟩
  clear H
  have H := hid h1
  clear h1
  go_wp2_with fail
  go_ret
  exact ⟨rfl, H.out.drop⟩
end Go.Proofs.Ytfhpgcgiogmlgaa
