/-
  Walks through layer 6 of the document: Hash, Derive, Mix. For every store and every names.
-/
import Derived.Test.YtpcfmafokkffgaaHd2
import Derived.Test.YtpcfmafokkffgaaPureL
namespace Go.Proofs.Ytpcfmafokkffgaa
open Go.RowKit


set_option maxRecDepth 100000 in
set_option maxHeartbeats 1000000 in
theorem rderive_calls {W w : World} {Rs : List Res} {b : Nat} {L : List T} {m : Int} (k n : Int) (h : Hd W w (RSto b L m :: Rs)) :
    Calls Try.prog 59 #[.pointer (some ⟨b, 0, none⟩), .int .i64 k, .int .u64 n] w fun e w' => e = .returned (.tuple #[.int .i64 (put m L (keyT k n)).1, .int .i64 (put m L (keyT k n)).2.1]) ∧ Hd W w' (RSto b (put m L (keyT k n)).2.2 m :: Rs) := by
  obtain ⟨r1, r2, L2, hq⟩ : ∃ r1 r2 L2, put m L (keyT k n) = (r1, r2, L2) := ⟨_, _, _, rfl⟩
  rw [hq]
  have Hq := hid hq
  have H := hid h
  clear hq h
  go_enter Try.func59, Try.ntmps59
  go_wp2_with fail
  refine (rput_c 9 ⟨#[]⟩ n k 0 0 Hq (by first | exact H.out | exact H.out.al | exact H.out.al.al | exact H.out.al.al.al | exact H.out.al.al.al.al)).mono ?_
  rintro e w1 ⟨rfl, h1⟩
  replace H := hid h1
  clear h1
  go_wp2_with fail
  go_ret2
  exact ⟨rfl, H.out⟩


theorem rderive_c {W w : World} {Rs : List Res} {b : Nat} {L : List T} {m : Int} (k n : Int) {r1 r2 : Int} {L2 : List T} (hq : Hid (put m L (keyT k n) = (r1, r2, L2))) (h : Hd W w (RSto b L m :: Rs)) :
    Calls Try.prog 59 #[.pointer (some ⟨b, 0, none⟩), .int .i64 k, .int .u64 n] w fun e w' => e = .returned (.tuple #[.int .i64 r1, .int .i64 r2]) ∧ Hd W w' (RSto b L2 m :: Rs) := by
  have := rderive_calls k n h
  rw [hq.out] at this
  exact this


end Go.Proofs.Ytpcfmafokkffgaa
