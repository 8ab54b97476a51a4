/-
  KdfMixes returns true, and writes nothing that was there. For every input.
-/
import Derived.Test.YthbailkfhmkfoaaKdfRoom
import Derived.Test.YthbailkfhmkfoaaFixF
import Derived.Test.YthbailkfhmkfoaaArgsC
namespace Go.Proofs.Ythbailkfhmkfoaa
open Go.RowKit

set_option maxRecDepth 100000 in
set_option maxHeartbeats 8000000 in
theorem kdfMixes_walk (ad : Option Addr) (len cap : Nat) (ts : List T) (n0 n1 n2 n3 : Int) (W : World) (hlen : len = ts.length) (hmax : len ≤ maxLen) (hts : TermsIn W ad ts)
    (hb : (0 ≤ n0 ∧ n0 ≤ 255) ∧ (0 ≤ n1 ∧ n1 ≤ 255) ∧ (0 ≤ n2 ∧ n2 ≤ 255) ∧ (0 ≤ n3 ∧ n3 ≤ 255)) :
    Calls Try.prog 10 #[.slice ad len cap, .agg #[.int .u8 n0, .int .u8 n1, .int .u8 n2, .int .u8 n3]] W fun e w' => e = .returned (.bool true) ∧ Below W.heap.size W w' := by
  obtain ⟨⟨l0, u0⟩, ⟨l1, u1⟩, ⟨l2, u2⟩, ⟨l3, u3⟩⟩ := hb
  have Hlen := hid hlen
  have Hts := hid hts
  have Hmax := hid hmax
  clear hts hlen hmax
  go_enter Try.func10, Try.ntmps10
  go_wp2_with fail
  refine (stores_calls ((Hd.refl W).box _) ad len cap ts Hlen.out Hmax.out Hts.out 20 (by decide)).mono ?_
  rintro e w1 ⟨b, b', L, rfl, hg, hl, hd⟩
  have H := hid (Room.of (N := 20) hd (by omega))
  have hbox := hd.third.blk
  have c0 : ∀ x : Later w1, x.w.cell? ⟨W.heap.size, 0, none⟩ = some (.int .u8 n0) := fun x => x.cell (by rw [cell_of_heap hbox]; rfl)
  have c1 : ∀ x : Later w1, x.w.cell? ⟨W.heap.size, 1, none⟩ = some (.int .u8 n1) := fun x => x.cell (by rw [cell_of_heap hbox]; rfl)
  have c2 : ∀ x : Later w1, x.w.cell? ⟨W.heap.size, 2, none⟩ = some (.int .u8 n2) := fun x => x.cell (by rw [cell_of_heap hbox]; rfl)
  have c3 : ∀ x : Later w1, x.w.cell? ⟨W.heap.size, 3, none⟩ = some (.int .u8 n3) := fun x => x.cell (by rw [cell_of_heap hbox]; rfl)
  have C0 := hid c0
  have C1 := hid c1
  have C2 := hid c2
  have C3 := hid c3
  clear hd hbox hg c0 c1 c2 c3
  go_wp2_with fail
  refine (len_at H.out.hd).mono ?_
  rintro e w' ⟨rfl, rfl⟩
  by_cases hL : L.length = 0
  · have e0 : ((L.length : Int) == 0) = true := by simp [hL]
    have e1 : (L.length == 0) = true := by simp [hL]
    clear hL
    go_wp2_with fail
    refine (fixed6_calls H.out.hd).mono ?_
    rintro e w' ⟨rfl, h5⟩
    have H5 := hid h5
    clear h5
    go_wp2_with fail
    go_ret
    exact ⟨rfl, H5.out.below⟩
  have e0 : ((L.length : Int) == 0) = false := by simpa using hL
  have e1 : (L.length == 0) = false := by simpa using hL
  have hL1 : (1 : Int) ≤ (L.length : Int) := by omega
  have m0 := mod_range n0 hL1
  obtain ⟨k, hk⟩ : ∃ x, x = 1 + n0 % (L.length : Int) := ⟨_, rfl⟩
  have ik : In L k := ⟨by rw [hk]; omega, by rw [hk]; omega⟩
  have Ik := hid ik
  have Hk := hid hk
  have c0 := C0.out
  have m1 := mod_range n1 hL1
  obtain ⟨i, hi⟩ : ∃ x, x = 1 + n1 % (L.length : Int) := ⟨_, rfl⟩
  have ii : In L i := ⟨by rw [hi]; omega, by rw [hi]; omega⟩
  have Ii := hid ii
  have Hi := hid hi
  have c1 := C1.out
  have m2 := mod_range n2 hL1
  obtain ⟨o, ho⟩ : ∃ x, x = 1 + n2 % (L.length : Int) := ⟨_, rfl⟩
  have io : In L o := ⟨by rw [ho]; omega, by rw [ho]; omega⟩
  have Io := hid io
  have Ho := hid ho
  have c2 := C2.out
  have m3 := mod_range n3 hL1
  obtain ⟨j, hj⟩ : ∃ x, x = 1 + n3 % (L.length : Int) := ⟨_, rfl⟩
  have ij : In L j := ⟨by rw [hj]; omega, by rw [hj]; omega⟩
  have Ij := hid ij
  have Hj := hid hj
  have c3 := C3.out
  clear hL hk ik C0 hi ii C1 ho io C2 hj ij C3
  go_wp2_with fail
  refine wp_region_calm (by kernel_rfl) (by kernel_rfl) ?_
  repeat (go_big_quiet_step ((go_at_call 35; exact Calls.calm_same (len_at (H.out.calm _)))))
  refine wpQuiet_nil ?_
  intro w2 hw2
  obtain ⟨⟨w2, hb2⟩, rfl⟩ := hw2
  replace H := hid (H.out.still hb2)
  rw [show 1 + n0 % (L.length : Int) = k from Hk.out.symm]
  rw [show 1 + n1 % (L.length : Int) = i from Hi.out.symm]
  rw [show 1 + n2 % (L.length : Int) = o from Ho.out.symm]
  rw [show 1 + n3 % (L.length : Int) = j from Hj.out.symm]
  clear hb2 hl e0 e1 hL1 c0 Hk l0 u0 m0 c1 Hi l1 u1 m1 c2 Ho l2 u2 m2 c3 Hj l3 u3 m3
  go_wp2_with fail
  refine (mix_room H.out (by decide) Ik.out Ii.out).mono ?_
  rintro e w3 ⟨a1, b1, p, L3, rfl, hat, hat2, hat3, hext, hroom⟩
  have Aa1 := hid hat
  have Ab1 := hid hat2
  have Ap := hid hat3
  have E := hid hext
  clear H
  have H := hid hroom
  clear hat hat2 hat3 hext hroom
  replace Ik := hid (Ik.out.ext E.out)
  replace Ii := hid (Ii.out.ext E.out)
  replace Io := hid (Io.out.ext E.out)
  replace Ij := hid (Ij.out.ext E.out)
  clear E
  go_wp2_with fail
  refine (mix_room H.out (by decide) Io.out Ij.out).mono ?_
  rintro e w4 ⟨c1, d1, q, L4, rfl, hat, hat2, hat3, hext, hroom⟩
  have Ac1 := hid hat
  have Ad1 := hid hat2
  have Aq := hid hat3
  have E := hid hext
  clear H
  have H := hid hroom
  clear hat hat2 hat3 hext hroom
  replace Aa1 := hid (Aa1.out.ext E.out)
  replace Ab1 := hid (Ab1.out.ext E.out)
  replace Ap := hid (Ap.out.ext E.out)
  replace Ik := hid (Ik.out.ext E.out)
  replace Ii := hid (Ii.out.ext E.out)
  replace Io := hid (Io.out.ext E.out)
  replace Ij := hid (Ij.out.ext E.out)
  clear E
  obtain ⟨same, hsame⟩ : ∃ same : Bool, same = (k == o && i == j) := ⟨_, rfl⟩
  have hpq : p = q ↔ same = true := by
    rw [at_iff H.out.good Ap.out Aq.out, has_inj, hsame]; simp
  have f1 : (a1 == c1) = same := by
    rw [Bool.eq_iff_iff, ← hpq, beq_iff_eq, at_iff H.out.good Aa1.out Ac1.out, key_inj]; simp
  have f2 : (b1 == d1) = same := by
    rw [Bool.eq_iff_iff, ← hpq, beq_iff_eq, at_iff H.out.good Ab1.out Ad1.out, key_inj]; simp
  have g1 := Aa1.out.part H.out.good (p := p) (by simp [keyT, T.parts, many])
  have g2 := Ab1.out.part H.out.good (p := p) (by simp [keyT, T.parts, many])
  have g3 := Ap.out.part H.out.good (p := k) (by simp [hasT, T.parts, many])
  have g4 := Ap.out.part H.out.good (p := i) (by simp [hasT, T.parts, many])
  have f3 : (a1 != b1) = true := at_ne Aa1.out Ab1.out (by rw [Ne, key_inj]; simp)
  have f4 : (c1 != d1) = true := at_ne Ac1.out Ad1.out (by rw [Ne, key_inj]; simp)
  have f5 : (a1 != d1) = true := at_ne Aa1.out Ad1.out (by rw [Ne, key_inj]; simp)
  have f6 : (a1 != k) = true := by rw [bne_iff_ne]; omega
  have f7 : (a1 != i) = true := by rw [bne_iff_ne]; omega
  have f8 : (b1 != k) = true := by rw [bne_iff_ne]; omega
  have f9 : (b1 != i) = true := by rw [bne_iff_ne]; omega
  have hs : (k == o && i == j) = same := hsame.symm
  clear hpq hsame g1 g2 g3 g4
  by_cases hko : k = o
  · have f0 : (k == o) = true := by simpa using hko
    rw [f0, Bool.true_and] at hs
    clear hko
    go_wp2_with fail
    refine (fixed6_calls H.out.hd).mono ?_
    rintro e w' ⟨rfl, h5⟩
    have H5 := hid h5
    clear h5
    go_wp2_with fail
    go_ret
    exact ⟨rfl, H5.out.below⟩
  · have f0 : (k == o) = false := by simpa using hko
    rw [f0, Bool.false_and] at hs
    subst hs
    clear hko
    go_wp2_with fail
    refine (fixed6_calls H.out.hd).mono ?_
    rintro e w' ⟨rfl, h5⟩
    have H5 := hid h5
    clear h5
    go_wp2_with fail
    go_ret
    exact ⟨rfl, H5.out.below⟩
end Go.Proofs.Ythbailkfhmkfoaa
