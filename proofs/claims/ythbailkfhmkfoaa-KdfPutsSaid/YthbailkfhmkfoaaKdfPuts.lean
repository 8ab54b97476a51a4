/-
  KdfPuts returns true, and writes nothing that was there. For every input.
-/
import Derived.Test.YthbailkfhmkfoaaKdfRoom
import Derived.Test.YthbailkfhmkfoaaFixF
import Derived.Test.YthbailkfhmkfoaaArgsC
namespace Go.Proofs.Ythbailkfhmkfoaa
open Go.RowKit

set_option maxRecDepth 100000 in
set_option maxHeartbeats 8000000 in
theorem kdfPuts_walk (ad : Option Addr) (len cap : Nat) (ts : List T) (n0 n1 : Int) (label : Int) (_g0 : IntKind.u64.min ≤ label) (_g1 : label ≤ IntKind.u64.max) (W : World) (hlen : len = ts.length) (hmax : len ≤ maxLen) (hts : TermsIn W ad ts)
    (hb : (0 ≤ n0 ∧ n0 ≤ 255) ∧ (0 ≤ n1 ∧ n1 ≤ 255)) :
    Calls Try.prog 11 #[.slice ad len cap, .agg #[.int .u8 n0, .int .u8 n1], .int .u64 label] W fun e w' => e = .returned (.bool true) ∧ Below W.heap.size W w' := by
  obtain ⟨⟨l0, u0⟩, ⟨l1, u1⟩⟩ := hb
  have Hlen := hid hlen
  have Hts := hid hts
  have Hmax := hid hmax
  clear hts hlen hmax
  go_enter Try.func11, Try.ntmps11
  go_wp2_with fail
  refine (stores_calls ((Hd.refl W).box _) ad len cap ts Hlen.out Hmax.out Hts.out 20 (by decide)).mono ?_
  rintro e w1 ⟨b, b', L, rfl, hg, hl, hd⟩
  have H := hid (Room.of (N := 20) hd (by omega))
  have hbox := hd.third.blk
  have c0 : ∀ x : Later w1, x.w.cell? ⟨W.heap.size, 0, none⟩ = some (.int .u8 n0) := fun x => x.cell (by rw [cell_of_heap hbox]; rfl)
  have c1 : ∀ x : Later w1, x.w.cell? ⟨W.heap.size, 1, none⟩ = some (.int .u8 n1) := fun x => x.cell (by rw [cell_of_heap hbox]; rfl)
  have C0 := hid c0
  have C1 := hid c1
  clear hd hbox hg c0 c1
  go_wp2_with fail
  refine (len_at H.out.hd).mono ?_
  rintro e w' ⟨rfl, rfl⟩
  by_cases hL : L.length = 0
  · have e0 : ((L.length : Int) == 0) = true := by simp [hL]
    have e1 : (L.length == 0) = true := by simp [hL]
    clear hL
    go_wp2_with fail
    refine (fixed6_calls H.out.hd).mono ?_
    rintro e w' ⟨rfl, h5⟩
    have H5 := hid h5
    clear h5
    go_wp2_with fail
    go_ret
    exact ⟨rfl, H5.out.below⟩
  have e0 : ((L.length : Int) == 0) = false := by simpa using hL
  have e1 : (L.length == 0) = false := by simpa using hL
  have hL1 : (1 : Int) ≤ (L.length : Int) := by omega
  have m0 := mod_range n0 hL1
  obtain ⟨x, hx⟩ : ∃ x, x = 1 + n0 % (L.length : Int) := ⟨_, rfl⟩
  have ix : In L x := ⟨by rw [hx]; omega, by rw [hx]; omega⟩
  have Ix := hid ix
  have Hx := hid hx
  have c0 := C0.out
  have m1 := mod_range n1 hL1
  obtain ⟨y, hy⟩ : ∃ x, x = 1 + n1 % (L.length : Int) := ⟨_, rfl⟩
  have iy : In L y := ⟨by rw [hy]; omega, by rw [hy]; omega⟩
  have Iy := hid iy
  have Hy := hid hy
  have c1 := C1.out
  clear hL hx ix C0 hy iy C1
  go_wp2_with fail
  refine wp_region_calm (by kernel_rfl) (by kernel_rfl) ?_
  repeat (go_big_quiet_step ((go_at_call 35; exact Calls.calm_same (len_at (H.out.calm _)))))
  refine wpQuiet_nil ?_
  intro w2 hw2
  obtain ⟨⟨w2, hb2⟩, rfl⟩ := hw2
  replace H := hid (H.out.still hb2)
  rw [show 1 + n0 % (L.length : Int) = x from Hx.out.symm]
  rw [show 1 + n1 % (L.length : Int) = y from Hy.out.symm]
  clear hb2 hl e0 e1 hL1 c0 Hx l0 u0 m0 c1 Hy l1 u1 m1
  go_wp2_with fail
  refine (hash_room H.out (by decide) Ix.out Iy.out).mono ?_
  rintro e w3 ⟨a1, L3, rfl, hat, hext, hroom⟩
  have Aa1 := hid hat
  have E := hid hext
  clear H
  have H := hid hroom
  clear hat hext hroom
  replace Ix := hid (Ix.out.ext E.out)
  replace Iy := hid (Iy.out.ext E.out)
  clear E
  go_wp2_with fail
  refine (derive_room H.out (by decide) Ix.out).mono ?_
  rintro e w4 ⟨b1, L4, rfl, hat, hext, hroom⟩
  have Ab1 := hid hat
  have E := hid hext
  clear H
  have H := hid hroom
  clear hat hext hroom
  replace Aa1 := hid (Aa1.out.ext E.out)
  replace Ix := hid (Ix.out.ext E.out)
  replace Iy := hid (Iy.out.ext E.out)
  clear E
  go_wp2_with fail
  refine (len_at H.out.hd).mono ?_
  rintro e w' ⟨rfl, rfl⟩
  go_wp2_with fail
  refine (hash_known H.out Aa1.out).mono ?_
  rintro e w5 ⟨rfl, hroom⟩
  replace H := hid hroom
  clear hroom
  go_wp2_with fail
  refine (derive_known H.out Ab1.out).mono ?_
  rintro e w6 ⟨rfl, hroom⟩
  replace H := hid hroom
  clear hroom
  go_wp2_with fail
  refine (get_at H.out.hd Aa1.out).mono ?_
  simp only [hasT]
  rintro e w7 ⟨rfl, hb1⟩
  replace H := hid ((H.out.still hb1).box (.cells #[.int .i64 8, .string ⟨#[]⟩, .int .u64 0, .int .i64 x, .int .i64 y, .int .i64 0] 49))
  clear hb1
  go_wp2_with fail
  refine (get_at H.out.hd Ab1.out).mono ?_
  simp only [keyT]
  rintro e w8 ⟨rfl, hb1⟩
  replace H := hid ((H.out.still hb1).box (.cells #[.int .i64 9, .string ⟨#[]⟩, .int .u64 label, .int .i64 x, .int .i64 0, .int .i64 0] 49))
  clear hb1
  have hk0 := H.out.hd.swap.blk
  have d00 := (cell_of_heap hk0 0).trans (show _ = some (.int .i64 9) from rfl)
  have d01 := (cell_of_heap hk0 1).trans (show _ = some (.string ⟨#[]⟩) from rfl)
  have d02 := (cell_of_heap hk0 2).trans (show _ = some (.int .u64 label) from rfl)
  have d03 := (cell_of_heap hk0 3).trans (show _ = some (.int .i64 x) from rfl)
  have d04 := (cell_of_heap hk0 4).trans (show _ = some (.int .i64 0) from rfl)
  have d05 := (cell_of_heap hk0 5).trans (show _ = some (.int .i64 0) from rfl)
  have lt0 := (Array.getElem?_eq_some_iff.1 hk0).1
  clear hk0
  have hk1 := H.out.hd.third.blk
  have d10 := (cell_of_heap hk1 0).trans (show _ = some (.int .i64 8) from rfl)
  have d11 := (cell_of_heap hk1 1).trans (show _ = some (.string ⟨#[]⟩) from rfl)
  have d12 := (cell_of_heap hk1 2).trans (show _ = some (.int .u64 0) from rfl)
  have d13 := (cell_of_heap hk1 3).trans (show _ = some (.int .i64 x) from rfl)
  have d14 := (cell_of_heap hk1 4).trans (show _ = some (.int .i64 y) from rfl)
  have d15 := (cell_of_heap hk1 5).trans (show _ = some (.int .i64 0) from rfl)
  have lt1 := (Array.getElem?_eq_some_iff.1 hk1).1
  clear hk1
  go_wp2_with fail
  refine (len_at H.out.hd).mono ?_
  rintro e w' ⟨rfl, rfl⟩
  go_wp2_with fail
  refine (fixed6_calls H.out.hd).mono ?_
  rintro e w' ⟨rfl, h5⟩
  have H5 := hid h5
  clear h5
  go_wp2_with fail
  go_ret
  exact ⟨rfl, H5.out.below⟩
end Go.Proofs.Ythbailkfhmkfoaa
