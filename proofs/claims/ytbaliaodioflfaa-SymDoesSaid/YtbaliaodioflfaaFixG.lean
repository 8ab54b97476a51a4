/-
  Walks through what the statements share: fixed of layer 7. It takes nothing.
-/
import Derived.Test.YtbaliaodioflfaaSymRoom
namespace Go.Proofs.Ytbaliaodioflfaa
open Go.RowKit

set_option maxRecDepth 100000 in
set_option maxHeartbeats 8000000 in
theorem fixed7_calls {W w : World} {Rs : List Res} (h : Hd W w Rs) :
    Calls Try.prog 38 #[] w fun e w' => e = .returned (.bool true) ∧ Hd W w' Rs := by
  have H := hid h
  clear h
  go_enter Try.func38, Try.ntmps38
  go_wp2_with fail
  refine (new_calls H.out (by decide) (by decide)).mono ?_
  rintro e w1 ⟨b, rfl, h1⟩
  clear H
  have H := hid h1
  clear h1
  go_wp2_with fail
  refine (sbegin_calls ⟨#[120]⟩ H.out).mono ?_
  rw [show sBegin 20 [] ⟨#[120]⟩ = (⟨1, 0, 1, 0⟩, 0, [⟨1, ⟨#[120]⟩, 0, 0, 0, 0⟩]) from by decide +kernel]
  dsimp only
  rintro e w2 ⟨rfl, h1⟩
  replace H := hid h1
  clear h1
  go_wp2_with fail
  refine (smix_calls 1 0 1 0 1 H.out.bx).mono ?_
  rw [show sMix 20 [⟨1, ⟨#[120]⟩, 0, 0, 0, 0⟩] ⟨1, 0, 1, 0⟩ 1 = (⟨3, 4, 1, 0⟩, 0, [⟨1, ⟨#[120]⟩, 0, 0, 0, 0⟩, ⟨8, ⟨#[]⟩, 0, 1, 1, 0⟩, ⟨9, ⟨#[]⟩, 1, 2, 0, 0⟩, ⟨9, ⟨#[]⟩, 2, 2, 0, 0⟩]) from by decide +kernel]
  dsimp only
  rintro e w3 ⟨rfl, h1⟩
  replace H := hid h1
  clear h1
  go_wp2_with fail
  refine (sseal_calls 3 4 1 0 1 (by decide) (by decide) H.out.bx).mono ?_
  rw [show sSeal 20 [⟨1, ⟨#[120]⟩, 0, 0, 0, 0⟩, ⟨8, ⟨#[]⟩, 0, 1, 1, 0⟩, ⟨9, ⟨#[]⟩, 1, 2, 0, 0⟩, ⟨9, ⟨#[]⟩, 2, 2, 0, 0⟩] ⟨3, 4, 1, 0⟩ 1 = (⟨3, 4, 6, 1⟩, 5, 0, [⟨1, ⟨#[120]⟩, 0, 0, 0, 0⟩, ⟨8, ⟨#[]⟩, 0, 1, 1, 0⟩, ⟨9, ⟨#[]⟩, 1, 2, 0, 0⟩, ⟨9, ⟨#[]⟩, 2, 2, 0, 0⟩, ⟨10, ⟨#[]⟩, 0, 4, 1, 1⟩, ⟨8, ⟨#[]⟩, 0, 1, 5, 0⟩]) from by decide +kernel]
  dsimp only
  rintro e w4 ⟨rfl, h1⟩
  replace H := hid h1
  clear h1
  have hk := Hd.nth 1 H.out rfl
  have b0 := (cell_of_heap hk 0).trans (show _ = some (.int .i64 3) from rfl)
  have b1 := (cell_of_heap hk 1).trans (show _ = some (.int .i64 4) from rfl)
  have b2 := (cell_of_heap hk 2).trans (show _ = some (.int .i64 1) from rfl)
  have b3 := (cell_of_heap hk 3).trans (show _ = some (.int .u64 0) from rfl)
  have bf := frozen_of_heap hk
  have bl := (Array.getElem?_eq_some_iff.1 hk).1
  clear hk
  go_wp2_with fail
  refine (sopen_calls 3 4 1 0 5 (by decide) (by decide) H.out.bx).mono ?_
  rw [show sOpen 20 [⟨1, ⟨#[120]⟩, 0, 0, 0, 0⟩, ⟨8, ⟨#[]⟩, 0, 1, 1, 0⟩, ⟨9, ⟨#[]⟩, 1, 2, 0, 0⟩, ⟨9, ⟨#[]⟩, 2, 2, 0, 0⟩, ⟨10, ⟨#[]⟩, 0, 4, 1, 1⟩, ⟨8, ⟨#[]⟩, 0, 1, 5, 0⟩] ⟨3, 4, 1, 0⟩ 5 = (⟨3, 4, 6, 1⟩, 1, 0, [⟨1, ⟨#[120]⟩, 0, 0, 0, 0⟩, ⟨8, ⟨#[]⟩, 0, 1, 1, 0⟩, ⟨9, ⟨#[]⟩, 1, 2, 0, 0⟩, ⟨9, ⟨#[]⟩, 2, 2, 0, 0⟩, ⟨10, ⟨#[]⟩, 0, 4, 1, 1⟩, ⟨8, ⟨#[]⟩, 0, 1, 5, 0⟩]) from by decide +kernel]
  dsimp only
  rintro e w5 ⟨rfl, h1⟩
  replace H := hid h1
  clear h1 b0 b1 b2 b3 bf bl
  have hk := Hd.nth 3 H.out rfl
  have a0 := (cell_of_heap hk 0).trans (show _ = some (.int .i64 1) from rfl)
  have a1 := (cell_of_heap hk 1).trans (show _ = some (.int .i64 0) from rfl)
  have a2 := (cell_of_heap hk 2).trans (show _ = some (.int .i64 1) from rfl)
  have a3 := (cell_of_heap hk 3).trans (show _ = some (.int .u64 0) from rfl)
  have af := frozen_of_heap hk
  have al := (Array.getElem?_eq_some_iff.1 hk).1
  clear hk
  go_wp2_with fail
  refine (sseal_calls 1 0 1 0 1 (by decide) (by decide) H.out.bx).mono ?_
  rw [show sSeal 20 [⟨1, ⟨#[120]⟩, 0, 0, 0, 0⟩, ⟨8, ⟨#[]⟩, 0, 1, 1, 0⟩, ⟨9, ⟨#[]⟩, 1, 2, 0, 0⟩, ⟨9, ⟨#[]⟩, 2, 2, 0, 0⟩, ⟨10, ⟨#[]⟩, 0, 4, 1, 1⟩, ⟨8, ⟨#[]⟩, 0, 1, 5, 0⟩] ⟨1, 0, 1, 0⟩ 1 = (⟨0, 0, 0, 0⟩, 0, 7, [⟨1, ⟨#[120]⟩, 0, 0, 0, 0⟩, ⟨8, ⟨#[]⟩, 0, 1, 1, 0⟩, ⟨9, ⟨#[]⟩, 1, 2, 0, 0⟩, ⟨9, ⟨#[]⟩, 2, 2, 0, 0⟩, ⟨10, ⟨#[]⟩, 0, 4, 1, 1⟩, ⟨8, ⟨#[]⟩, 0, 1, 5, 0⟩]) from by decide +kernel]
  dsimp only
  rintro e w6 ⟨rfl, h1⟩
  replace H := hid h1
  clear h1 a0 a1 a2 a3 af al
  have hk := Hd.nth 2 H.out rfl
  have c0 := (cell_of_heap hk 0).trans (show _ = some (.int .i64 3) from rfl)
  have c1 := (cell_of_heap hk 1).trans (show _ = some (.int .i64 4) from rfl)
  have c2 := (cell_of_heap hk 2).trans (show _ = some (.int .i64 6) from rfl)
  have c3 := (cell_of_heap hk 3).trans (show _ = some (.int .u64 1) from rfl)
  have cf := frozen_of_heap hk
  have cl := (Array.getElem?_eq_some_iff.1 hk).1
  clear hk
  go_wp2_with fail
  refine (sopen_calls 3 4 6 1 5 (by decide) (by decide) H.out.bx).mono ?_
  rw [show sOpen 20 [⟨1, ⟨#[120]⟩, 0, 0, 0, 0⟩, ⟨8, ⟨#[]⟩, 0, 1, 1, 0⟩, ⟨9, ⟨#[]⟩, 1, 2, 0, 0⟩, ⟨9, ⟨#[]⟩, 2, 2, 0, 0⟩, ⟨10, ⟨#[]⟩, 0, 4, 1, 1⟩, ⟨8, ⟨#[]⟩, 0, 1, 5, 0⟩] ⟨3, 4, 6, 1⟩ 5 = (⟨0, 0, 0, 0⟩, 0, 9, [⟨1, ⟨#[120]⟩, 0, 0, 0, 0⟩, ⟨8, ⟨#[]⟩, 0, 1, 1, 0⟩, ⟨9, ⟨#[]⟩, 1, 2, 0, 0⟩, ⟨9, ⟨#[]⟩, 2, 2, 0, 0⟩, ⟨10, ⟨#[]⟩, 0, 4, 1, 1⟩, ⟨8, ⟨#[]⟩, 0, 1, 5, 0⟩]) from by decide +kernel]
  dsimp only
  rintro e w7 ⟨rfl, h1⟩
  replace H := hid h1
  clear h1 c0 c1 c2 c3 cf cl
  have hk := Hd.nth 3 H.out rfl
  have c0 := (cell_of_heap hk 0).trans (show _ = some (.int .i64 3) from rfl)
  have c1 := (cell_of_heap hk 1).trans (show _ = some (.int .i64 4) from rfl)
  have c2 := (cell_of_heap hk 2).trans (show _ = some (.int .i64 6) from rfl)
  have c3 := (cell_of_heap hk 3).trans (show _ = some (.int .u64 1) from rfl)
  have cf := frozen_of_heap hk
  have cl := (Array.getElem?_eq_some_iff.1 hk).1
  clear hk
  go_wp2_with fail
  refine (ssplit_calls 3 4 6 1 H.out.bx).mono ?_
  rw [show sSplit 20 [⟨1, ⟨#[120]⟩, 0, 0, 0, 0⟩, ⟨8, ⟨#[]⟩, 0, 1, 1, 0⟩, ⟨9, ⟨#[]⟩, 1, 2, 0, 0⟩, ⟨9, ⟨#[]⟩, 2, 2, 0, 0⟩, ⟨10, ⟨#[]⟩, 0, 4, 1, 1⟩, ⟨8, ⟨#[]⟩, 0, 1, 5, 0⟩] ⟨3, 4, 6, 1⟩ = (9, 10, 0, [⟨1, ⟨#[120]⟩, 0, 0, 0, 0⟩, ⟨8, ⟨#[]⟩, 0, 1, 1, 0⟩, ⟨9, ⟨#[]⟩, 1, 2, 0, 0⟩, ⟨9, ⟨#[]⟩, 2, 2, 0, 0⟩, ⟨10, ⟨#[]⟩, 0, 4, 1, 1⟩, ⟨8, ⟨#[]⟩, 0, 1, 5, 0⟩, ⟨1, ⟨#[]⟩, 0, 0, 0, 0⟩, ⟨8, ⟨#[]⟩, 0, 3, 7, 0⟩, ⟨9, ⟨#[]⟩, 1, 8, 0, 0⟩, ⟨9, ⟨#[]⟩, 2, 8, 0, 0⟩]) from by decide +kernel]
  dsimp only
  rintro e w8 ⟨rfl, h1⟩
  replace H := hid h1
  clear h1 c0 c1 c2 c3 cf cl
  have hk := Hd.nth 3 H.out rfl
  have d0 := (cell_of_heap hk 0).trans (show _ = some (.int .i64 3) from rfl)
  have d1 := (cell_of_heap hk 1).trans (show _ = some (.int .i64 4) from rfl)
  have d2 := (cell_of_heap hk 2).trans (show _ = some (.int .i64 6) from rfl)
  have d3 := (cell_of_heap hk 3).trans (show _ = some (.int .u64 1) from rfl)
  have df := frozen_of_heap hk
  have dl := (Array.getElem?_eq_some_iff.1 hk).1
  clear hk
  go_wp2_with fail
  refine (ssplit_calls 3 4 6 1 H.out).mono ?_
  rw [show sSplit 20 [⟨1, ⟨#[120]⟩, 0, 0, 0, 0⟩, ⟨8, ⟨#[]⟩, 0, 1, 1, 0⟩, ⟨9, ⟨#[]⟩, 1, 2, 0, 0⟩, ⟨9, ⟨#[]⟩, 2, 2, 0, 0⟩, ⟨10, ⟨#[]⟩, 0, 4, 1, 1⟩, ⟨8, ⟨#[]⟩, 0, 1, 5, 0⟩, ⟨1, ⟨#[]⟩, 0, 0, 0, 0⟩, ⟨8, ⟨#[]⟩, 0, 3, 7, 0⟩, ⟨9, ⟨#[]⟩, 1, 8, 0, 0⟩, ⟨9, ⟨#[]⟩, 2, 8, 0, 0⟩] ⟨3, 4, 6, 1⟩ = (9, 10, 0, [⟨1, ⟨#[120]⟩, 0, 0, 0, 0⟩, ⟨8, ⟨#[]⟩, 0, 1, 1, 0⟩, ⟨9, ⟨#[]⟩, 1, 2, 0, 0⟩, ⟨9, ⟨#[]⟩, 2, 2, 0, 0⟩, ⟨10, ⟨#[]⟩, 0, 4, 1, 1⟩, ⟨8, ⟨#[]⟩, 0, 1, 5, 0⟩, ⟨1, ⟨#[]⟩, 0, 0, 0, 0⟩, ⟨8, ⟨#[]⟩, 0, 3, 7, 0⟩, ⟨9, ⟨#[]⟩, 1, 8, 0, 0⟩, ⟨9, ⟨#[]⟩, 2, 8, 0, 0⟩]) from by decide +kernel]
  dsimp only
  rintro e w9 ⟨rfl, h1⟩
  replace H := hid h1
  clear h1 d0 d1 d2 d3 df dl
  have hk := Hd.nth 6 H.out rfl
  have a0 := (cell_of_heap hk 0).trans (show _ = some (.int .i64 1) from rfl)
  have a1 := (cell_of_heap hk 1).trans (show _ = some (.int .i64 0) from rfl)
  have a2 := (cell_of_heap hk 2).trans (show _ = some (.int .i64 1) from rfl)
  have a3 := (cell_of_heap hk 3).trans (show _ = some (.int .u64 0) from rfl)
  have af := frozen_of_heap hk
  have al := (Array.getElem?_eq_some_iff.1 hk).1
  clear hk
  go_wp2_with fail
  refine (shash_calls 1 0 1 0 99 H.out).mono ?_
  rw [show sHash 20 [⟨1, ⟨#[120]⟩, 0, 0, 0, 0⟩, ⟨8, ⟨#[]⟩, 0, 1, 1, 0⟩, ⟨9, ⟨#[]⟩, 1, 2, 0, 0⟩, ⟨9, ⟨#[]⟩, 2, 2, 0, 0⟩, ⟨10, ⟨#[]⟩, 0, 4, 1, 1⟩, ⟨8, ⟨#[]⟩, 0, 1, 5, 0⟩, ⟨1, ⟨#[]⟩, 0, 0, 0, 0⟩, ⟨8, ⟨#[]⟩, 0, 3, 7, 0⟩, ⟨9, ⟨#[]⟩, 1, 8, 0, 0⟩, ⟨9, ⟨#[]⟩, 2, 8, 0, 0⟩] ⟨1, 0, 1, 0⟩ 99 = (⟨0, 0, 0, 0⟩, 1, [⟨1, ⟨#[120]⟩, 0, 0, 0, 0⟩, ⟨8, ⟨#[]⟩, 0, 1, 1, 0⟩, ⟨9, ⟨#[]⟩, 1, 2, 0, 0⟩, ⟨9, ⟨#[]⟩, 2, 2, 0, 0⟩, ⟨10, ⟨#[]⟩, 0, 4, 1, 1⟩, ⟨8, ⟨#[]⟩, 0, 1, 5, 0⟩, ⟨1, ⟨#[]⟩, 0, 0, 0, 0⟩, ⟨8, ⟨#[]⟩, 0, 3, 7, 0⟩, ⟨9, ⟨#[]⟩, 1, 8, 0, 0⟩, ⟨9, ⟨#[]⟩, 2, 8, 0, 0⟩]) from by decide +kernel]
  dsimp only
  rintro e w10 ⟨rfl, h1⟩
  replace H := hid h1
  clear h1 a0 a1 a2 a3 af al
  have hk := Hd.nth 6 H.out rfl
  have a0 := (cell_of_heap hk 0).trans (show _ = some (.int .i64 1) from rfl)
  have a1 := (cell_of_heap hk 1).trans (show _ = some (.int .i64 0) from rfl)
  have a2 := (cell_of_heap hk 2).trans (show _ = some (.int .i64 1) from rfl)
  have a3 := (cell_of_heap hk 3).trans (show _ = some (.int .u64 0) from rfl)
  have af := frozen_of_heap hk
  have al := (Array.getElem?_eq_some_iff.1 hk).1
  clear hk
  have hk := Hd.nth 5 H.out rfl
  have b0 := (cell_of_heap hk 0).trans (show _ = some (.int .i64 3) from rfl)
  have b1 := (cell_of_heap hk 1).trans (show _ = some (.int .i64 4) from rfl)
  have b2 := (cell_of_heap hk 2).trans (show _ = some (.int .i64 1) from rfl)
  have b3 := (cell_of_heap hk 3).trans (show _ = some (.int .u64 0) from rfl)
  have bf := frozen_of_heap hk
  have bl := (Array.getElem?_eq_some_iff.1 hk).1
  clear hk
  have hk := Hd.nth 4 H.out rfl
  have c0 := (cell_of_heap hk 0).trans (show _ = some (.int .i64 3) from rfl)
  have c1 := (cell_of_heap hk 1).trans (show _ = some (.int .i64 4) from rfl)
  have c2 := (cell_of_heap hk 2).trans (show _ = some (.int .i64 6) from rfl)
  have c3 := (cell_of_heap hk 3).trans (show _ = some (.int .u64 1) from rfl)
  have cf := frozen_of_heap hk
  have cl := (Array.getElem?_eq_some_iff.1 hk).1
  clear hk
  have hk := Hd.nth 3 H.out rfl
  have d0 := (cell_of_heap hk 0).trans (show _ = some (.int .i64 3) from rfl)
  have d1 := (cell_of_heap hk 1).trans (show _ = some (.int .i64 4) from rfl)
  have d2 := (cell_of_heap hk 2).trans (show _ = some (.int .i64 6) from rfl)
  have d3 := (cell_of_heap hk 3).trans (show _ = some (.int .u64 1) from rfl)
  have df := frozen_of_heap hk
  have dl := (Array.getElem?_eq_some_iff.1 hk).1
  clear hk
  have q0 := eq_Sy ⟨1, 0, 1, 0⟩ ⟨1, 0, 1, 0⟩
  rw [show decide ((⟨1, 0, 1, 0⟩ : Sy) = ⟨1, 0, 1, 0⟩) = true from rfl] at q0
  dsimp only at q0
  have q1 := eq_Sy ⟨3, 4, 1, 0⟩ ⟨3, 4, 1, 0⟩
  rw [show decide ((⟨3, 4, 1, 0⟩ : Sy) = ⟨3, 4, 1, 0⟩) = true from rfl] at q1
  dsimp only at q1
  have q2 := eq_Sy ⟨3, 4, 6, 1⟩ ⟨3, 4, 6, 1⟩
  rw [show decide ((⟨3, 4, 6, 1⟩ : Sy) = ⟨3, 4, 6, 1⟩) = true from rfl] at q2
  dsimp only at q2
  have q3 := eq_Sy ⟨3, 4, 6, 1⟩ ⟨3, 4, 6, 1⟩
  rw [show decide ((⟨3, 4, 6, 1⟩ : Sy) = ⟨3, 4, 6, 1⟩) = true from rfl] at q3
  dsimp only at q3
  go_wp2_with fail
  go_ret
  exact ⟨rfl, H.out.bx.drop.drop.drop.drop.drop.drop.drop.drop⟩
end Go.Proofs.Ytbaliaodioflfaa
