/-
  KdfOrder returns true, and writes nothing that was there. For every input.
-/
import Derived.Test.YthbailkfhmkfoaaKdfRoom
import Derived.Test.YthbailkfhmkfoaaFixF
import Derived.Test.YthbailkfhmkfoaaArgsC
namespace Go.Proofs.Ythbailkfhmkfoaa
open Go.RowKit

set_option maxRecDepth 100000 in
set_option maxHeartbeats 8000000 in
theorem kdfOrder_walk (ad : Option Addr) (len cap : Nat) (ts : List T) (n0 n1 : Int) (W : World) (hlen : len = ts.length) (hmax : len ≤ maxLen) (hts : TermsIn W ad ts)
    (hb : (0 ≤ n0 ∧ n0 ≤ 255) ∧ (0 ≤ n1 ∧ n1 ≤ 255)) :
    Calls Try.prog 12 #[.slice ad len cap, .agg #[.int .u8 n0, .int .u8 n1]] W fun e w' => e = .returned (.bool true) ∧ Below W.heap.size W w' := by
  obtain ⟨⟨l0, u0⟩, ⟨l1, u1⟩⟩ := hb
  have Hlen := hid hlen
  have Hts := hid hts
  have Hmax := hid hmax
  clear hts hlen hmax
  go_enter Try.func12, Try.ntmps12
  go_wp2_with fail
  refine (stores_calls ((Hd.refl W).box _) ad len cap ts Hlen.out Hmax.out Hts.out 20 (by decide)).mono ?_
  rintro e w1 ⟨b, b', L, rfl, hg, hl, hd⟩
  have H := hid (Room.of (N := 20) hd (by omega))
  have hbox := hd.third.blk
  have c0 : ∀ x : Later w1, x.w.cell? ⟨W.heap.size, 0, none⟩ = some (.int .u8 n0) := fun x => x.cell (by rw [cell_of_heap hbox]; rfl)
  have c1 : ∀ x : Later w1, x.w.cell? ⟨W.heap.size, 1, none⟩ = some (.int .u8 n1) := fun x => x.cell (by rw [cell_of_heap hbox]; rfl)
  have C0 := hid c0
  have C1 := hid c1
  clear hd hbox hg c0 c1
  go_wp2_with fail
  refine (len_at H.out.hd).mono ?_
  rintro e w' ⟨rfl, rfl⟩
  by_cases hL : L.length = 0
  · have e0 : ((L.length : Int) == 0) = true := by simp [hL]
    have e1 : (L.length == 0) = true := by simp [hL]
    clear hL
    go_wp2_with fail
    refine (fixed6_calls H.out.hd).mono ?_
    rintro e w' ⟨rfl, h5⟩
    have H5 := hid h5
    clear h5
    go_wp2_with fail
    go_ret
    exact ⟨rfl, H5.out.below⟩
  have e0 : ((L.length : Int) == 0) = false := by simpa using hL
  have e1 : (L.length == 0) = false := by simpa using hL
  have hL1 : (1 : Int) ≤ (L.length : Int) := by omega
  have m0 := mod_range n0 hL1
  obtain ⟨x, hx⟩ : ∃ x, x = 1 + n0 % (L.length : Int) := ⟨_, rfl⟩
  have ix : In L x := ⟨by rw [hx]; omega, by rw [hx]; omega⟩
  have Ix := hid ix
  have Hx := hid hx
  have c0 := C0.out
  have m1 := mod_range n1 hL1
  obtain ⟨y, hy⟩ : ∃ x, x = 1 + n1 % (L.length : Int) := ⟨_, rfl⟩
  have iy : In L y := ⟨by rw [hy]; omega, by rw [hy]; omega⟩
  have Iy := hid iy
  have Hy := hid hy
  have c1 := C1.out
  clear hL hx ix C0 hy iy C1
  go_wp2_with fail
  refine wp_region_calm (by kernel_rfl) (by kernel_rfl) ?_
  repeat (go_big_quiet_step ((go_at_call 35; exact Calls.calm_same (len_at (H.out.calm _)))))
  refine wpQuiet_nil ?_
  intro w2 hw2
  obtain ⟨⟨w2, hb2⟩, rfl⟩ := hw2
  replace H := hid (H.out.still hb2)
  rw [show 1 + n0 % (L.length : Int) = x from Hx.out.symm]
  rw [show 1 + n1 % (L.length : Int) = y from Hy.out.symm]
  clear hb2 hl e0 e1 hL1 c0 Hx l0 u0 m0 c1 Hy l1 u1 m1
  go_wp2_with fail
  refine (hash_room H.out (by decide) Ix.out Iy.out).mono ?_
  rintro e w3 ⟨a1, L3, rfl, hat, hext, hroom⟩
  have Aa1 := hid hat
  have E := hid hext
  clear H
  have H := hid hroom
  clear hat hext hroom
  replace Ix := hid (Ix.out.ext E.out)
  replace Iy := hid (Iy.out.ext E.out)
  clear E
  go_wp2_with fail
  refine (hash_room H.out (by decide) Iy.out Ix.out).mono ?_
  rintro e w4 ⟨b1, L4, rfl, hat, hext, hroom⟩
  have Ab1 := hid hat
  have E := hid hext
  clear H
  have H := hid hroom
  clear hat hext hroom
  replace Aa1 := hid (Aa1.out.ext E.out)
  replace Ix := hid (Ix.out.ext E.out)
  replace Iy := hid (Iy.out.ext E.out)
  clear E
  go_wp2_with fail
  refine (mix_room H.out (by decide) Ix.out Iy.out).mono ?_
  rintro e w5 ⟨c1, d1, p, L5, rfl, hat, hat2, hat3, hext, hroom⟩
  have Ac1 := hid hat
  have Ad1 := hid hat2
  have Ap := hid hat3
  have E := hid hext
  clear H
  have H := hid hroom
  clear hat hat2 hat3 hext hroom
  replace Aa1 := hid (Aa1.out.ext E.out)
  replace Ab1 := hid (Ab1.out.ext E.out)
  replace Ix := hid (Ix.out.ext E.out)
  replace Iy := hid (Iy.out.ext E.out)
  clear E
  go_wp2_with fail
  refine (mix_room H.out (by decide) Iy.out Ix.out).mono ?_
  rintro e w6 ⟨u1, v1, q, L6, rfl, hat, hat2, hat3, hext, hroom⟩
  have Au1 := hid hat
  have Av1 := hid hat2
  have Aq := hid hat3
  have E := hid hext
  clear H
  have H := hid hroom
  clear hat hat2 hat3 hext hroom
  replace Aa1 := hid (Aa1.out.ext E.out)
  replace Ab1 := hid (Ab1.out.ext E.out)
  replace Ac1 := hid (Ac1.out.ext E.out)
  replace Ad1 := hid (Ad1.out.ext E.out)
  replace Ap := hid (Ap.out.ext E.out)
  replace Ix := hid (Ix.out.ext E.out)
  replace Iy := hid (Iy.out.ext E.out)
  clear E
  obtain rfl := Ap.out.name H.out.good Aa1.out
  obtain rfl := Aq.out.name H.out.good Ab1.out
  go_wp2_with fail
  refine (derive_known H.out Ac1.out).mono ?_
  rintro e w7 ⟨rfl, hroom⟩
  replace H := hid hroom
  clear hroom
  go_wp2_with fail
  refine (derive_known H.out Ad1.out).mono ?_
  rintro e w8 ⟨rfl, hroom⟩
  replace H := hid hroom
  clear hroom
  have hpq : p = q ↔ x = y := by
    rw [at_iff H.out.good Ap.out Aq.out, has_inj]; constructor
    · exact fun h => h.1
    · exact fun h => ⟨h, h.symm⟩
  have f1 : (p == q) = (x == y) := beq_same hpq
  have f2 : (c1 == u1) = (x == y) := beq_same (by rw [at_iff H.out.good Ac1.out Au1.out, key_inj, ← hpq]; simp)
  have f3 : (d1 == v1) = (x == y) := beq_same (by rw [at_iff H.out.good Ad1.out Av1.out, key_inj, ← hpq]; simp)
  have f4 : (p != c1) = true := at_kind Ap.out Ac1.out (by show (8 : Int) ≠ 9; decide)
  have f5 : (p != d1) = true := at_kind Ap.out Ad1.out (by show (8 : Int) ≠ 9; decide)
  clear hpq
  go_wp2_with fail
  refine (fixed6_calls H.out.hd).mono ?_
  rintro e w' ⟨rfl, h5⟩
  have H5 := hid h5
  clear h5
  go_wp2_with fail
  go_ret
  exact ⟨rfl, H5.out.below⟩
end Go.Proofs.Ythbailkfhmkfoaa
