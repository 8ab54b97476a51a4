/-
  KemBack returns true, and writes nothing that was there. For every input.
-/
import Derived.Test.YthbailkfhmkfoaaKemRoom
import Derived.Test.YthbailkfhmkfoaaFixD
import Derived.Test.YthbailkfhmkfoaaArgsC
namespace Go.Proofs.Ythbailkfhmkfoaa
open Go.RowKit

set_option maxRecDepth 100000 in
set_option maxHeartbeats 8000000 in
theorem kemBack_walk (ad : Option Addr) (len cap : Nat) (ts : List T) (n0 n1 n2 n3 : Int) (W : World) (hlen : len = ts.length) (hmax : len ≤ maxLen) (hts : TermsIn W ad ts)
    (hb : (0 ≤ n0 ∧ n0 ≤ 255) ∧ (0 ≤ n1 ∧ n1 ≤ 255) ∧ (0 ≤ n2 ∧ n2 ≤ 255) ∧ (0 ≤ n3 ∧ n3 ≤ 255)) :
    Calls Try.prog 4 #[.slice ad len cap, .agg #[.int .u8 n0, .int .u8 n1, .int .u8 n2, .int .u8 n3]] W fun e w' => e = .returned (.bool true) ∧ Below W.heap.size W w' := by
  obtain ⟨⟨l0, u0⟩, ⟨l1, u1⟩, ⟨l2, u2⟩, ⟨l3, u3⟩⟩ := hb
  have Hlen := hid hlen
  have Hts := hid hts
  have Hmax := hid hmax
  clear hts hlen hmax
  go_enter Try.func4, Try.ntmps4
  go_wp2_with fail
  refine (stores_calls ((Hd.refl W).box _) ad len cap ts Hlen.out Hmax.out Hts.out 20 (by decide)).mono ?_
  rintro e w1 ⟨b, b', L, rfl, hg, hl, hd⟩
  have H := hid (Room.of (N := 20) hd (by omega))
  have hbox := hd.third.blk
  have c0 : ∀ x : Later w1, x.w.cell? ⟨W.heap.size, 0, none⟩ = some (.int .u8 n0) := fun x => x.cell (by rw [cell_of_heap hbox]; rfl)
  have c1 : ∀ x : Later w1, x.w.cell? ⟨W.heap.size, 1, none⟩ = some (.int .u8 n1) := fun x => x.cell (by rw [cell_of_heap hbox]; rfl)
  have c2 : ∀ x : Later w1, x.w.cell? ⟨W.heap.size, 2, none⟩ = some (.int .u8 n2) := fun x => x.cell (by rw [cell_of_heap hbox]; rfl)
  have c3 : ∀ x : Later w1, x.w.cell? ⟨W.heap.size, 3, none⟩ = some (.int .u8 n3) := fun x => x.cell (by rw [cell_of_heap hbox]; rfl)
  have C0 := hid c0
  have C1 := hid c1
  have C2 := hid c2
  have C3 := hid c3
  clear hd hbox hg c0 c1 c2 c3
  go_wp2_with fail
  refine (len_at H.out.hd).mono ?_
  rintro e w' ⟨rfl, rfl⟩
  by_cases hL : L.length = 0
  · have e0 : ((L.length : Int) == 0) = true := by simp [hL]
    have e1 : (L.length == 0) = true := by simp [hL]
    clear hL
    go_wp2_with fail
    refine (fixed4_calls H.out.hd).mono ?_
    rintro e w' ⟨rfl, h5⟩
    have H5 := hid h5
    clear h5
    go_wp2_with fail
    go_ret
    exact ⟨rfl, H5.out.below⟩
  have e0 : ((L.length : Int) == 0) = false := by simpa using hL
  have e1 : (L.length == 0) = false := by simpa using hL
  have hL1 : (1 : Int) ≤ (L.length : Int) := by omega
  have m0 := mod_range n0 hL1
  obtain ⟨k, hk⟩ : ∃ x, x = 1 + n0 % (L.length : Int) := ⟨_, rfl⟩
  have ik : In L k := ⟨by rw [hk]; omega, by rw [hk]; omega⟩
  have Ik := hid ik
  have Hk := hid hk
  have c0 := C0.out
  have m1 := mod_range n1 hL1
  obtain ⟨o, ho⟩ : ∃ x, x = 1 + n1 % (L.length : Int) := ⟨_, rfl⟩
  have io : In L o := ⟨by rw [ho]; omega, by rw [ho]; omega⟩
  have Io := hid io
  have Ho := hid ho
  have c1 := C1.out
  have m2 := mod_range n2 hL1
  obtain ⟨x, hx⟩ : ∃ x, x = 1 + n2 % (L.length : Int) := ⟨_, rfl⟩
  have ix : In L x := ⟨by rw [hx]; omega, by rw [hx]; omega⟩
  have Ix := hid ix
  have Hx := hid hx
  have c2 := C2.out
  have m3 := mod_range n3 hL1
  obtain ⟨y, hy⟩ : ∃ x, x = 1 + n3 % (L.length : Int) := ⟨_, rfl⟩
  have iy : In L y := ⟨by rw [hy]; omega, by rw [hy]; omega⟩
  have Iy := hid iy
  have Hy := hid hy
  have c3 := C3.out
  clear hL hk ik C0 ho io C1 hx ix C2 hy iy C3
  go_wp2_with fail
  refine wp_region_calm (by kernel_rfl) (by kernel_rfl) ?_
  repeat (go_big_quiet_step ((go_at_call 35; exact Calls.calm_same (len_at (H.out.calm _)))))
  refine wpQuiet_nil ?_
  intro w2 hw2
  obtain ⟨⟨w2, hb2⟩, rfl⟩ := hw2
  replace H := hid (H.out.still hb2)
  rw [show 1 + n0 % (L.length : Int) = k from Hk.out.symm]
  rw [show 1 + n1 % (L.length : Int) = o from Ho.out.symm]
  rw [show 1 + n2 % (L.length : Int) = x from Hx.out.symm]
  rw [show 1 + n3 % (L.length : Int) = y from Hy.out.symm]
  clear hb2 hl e0 e1 hL1 c0 Hk l0 u0 m0 c1 Ho l1 u1 m1 c2 Hx l2 u2 m2 c3 Hy l3 u3 m3
  go_wp2_with fail
  refine (kpub_room H.out (by decide) Ik.out).mono ?_
  rintro e w3 ⟨p, L3, rfl, hat, hext, hroom⟩
  have Ap := hid hat
  have E := hid hext
  clear H
  have H := hid hroom
  clear hat hext hroom
  replace Ik := hid (Ik.out.ext E.out)
  replace Io := hid (Io.out.ext E.out)
  replace Ix := hid (Ix.out.ext E.out)
  replace Iy := hid (Iy.out.ext E.out)
  clear E
  go_wp2_with fail
  refine (wrap_room H.out (by decide) Ap.out Ix.out).mono ?_
  rintro e w4 ⟨a1, b1, L4, rfl, hat, hat2, hext, hroom⟩
  have Aa1 := hid hat
  have Ab1 := hid hat2
  have E := hid hext
  clear H
  have H := hid hroom
  clear hat hat2 hext hroom
  replace Ap := hid (Ap.out.ext E.out)
  replace Ik := hid (Ik.out.ext E.out)
  replace Io := hid (Io.out.ext E.out)
  replace Ix := hid (Ix.out.ext E.out)
  replace Iy := hid (Iy.out.ext E.out)
  clear E
  go_wp2_with fail
  refine (wrap_room H.out (by decide) Ap.out Iy.out).mono ?_
  rintro e w5 ⟨c1, d1, L5, rfl, hat, hat2, hext, hroom⟩
  have Ac1 := hid hat
  have Ad1 := hid hat2
  have E := hid hext
  clear H
  have H := hid hroom
  clear hat hat2 hext hroom
  replace Ap := hid (Ap.out.ext E.out)
  replace Aa1 := hid (Aa1.out.ext E.out)
  replace Ab1 := hid (Ab1.out.ext E.out)
  replace Ik := hid (Ik.out.ext E.out)
  replace Io := hid (Io.out.ext E.out)
  replace Ix := hid (Ix.out.ext E.out)
  replace Iy := hid (Iy.out.ext E.out)
  clear E
  go_wp2_with fail
  refine (kopen_known H.out Ik.out Aa1.out Ab1.out).mono ?_
  rintro e w6 ⟨rfl, hroom⟩
  replace H := hid hroom
  clear hroom
  have f1 : (a1 == c1) = (x == y) := beq_same ((at_iff H.out.good Aa1.out Ac1.out).trans ⟨fun e => (box_inj.1 e).2, fun e => by rw [e]⟩)
  have f2 : (b1 == d1) = (x == y) := beq_same ((at_iff H.out.good Ab1.out Ad1.out).trans ⟨fun e => (kem_inj.1 e).2, fun e => by rw [e]⟩)
  have f3 : (a1 == b1) = false := by rw [beq_eq_false_iff_ne, ← bne_iff_ne]; exact at_kind Aa1.out Ab1.out (by show (6 : Int) ≠ 7; decide)
  by_cases hok : o = k
  · have f4 : (o == k) = true := by simpa using hok
    have Hok := hid hok
    clear hok
    go_wp2_with fail
    refine (kopen_known H.out Io.out (by rw [Hok.out]; exact Ac1.out) (by rw [Hok.out]; exact Ad1.out)).mono ?_
    rintro e w7 ⟨rfl, hroom⟩
    replace H := hid hroom
    clear hroom
    go_wp2_with fail
    refine (fixed4_calls H.out.hd).mono ?_
    rintro e w' ⟨rfl, h5⟩
    have H5 := hid h5
    clear h5
    go_wp2_with fail
    go_ret
    exact ⟨rfl, H5.out.below⟩
  · have f4 : (o == k) = false := by simpa using hok
    have Hok := hid hok
    clear hok
    go_wp2_with fail
    refine (kopen_bad H.out Io.out Ac1.out (fun h => Hok.out h.2.symm)).mono ?_
    rintro e w8 ⟨rfl, hroom⟩
    replace H := hid hroom
    clear hroom
    go_wp2_with fail
    refine (fixed4_calls H.out.hd).mono ?_
    rintro e w' ⟨rfl, h5⟩
    have H5 := hid h5
    clear h5
    go_wp2_with fail
    go_ret
    exact ⟨rfl, H5.out.below⟩
end Go.Proofs.Ythbailkfhmkfoaa
