/-
  SymSplits returns true, and writes nothing that was there. For every input.
-/
import Derived.Test.YtbaliaodioflfaaSymRoom
import Derived.Test.YtbaliaodioflfaaFixG
import Derived.Test.YtbaliaodioflfaaArgsC
namespace Go.Proofs.Ytbaliaodioflfaa
open Go.RowKit

set_option maxRecDepth 100000 in
set_option maxHeartbeats 8000000 in
theorem symSplits_walk (ad : Option Addr) (len cap : Nat) (ts : List T) (n0 n1 n2 : Int) (W : World) (hlen : len = ts.length) (hmax : len ≤ maxLen) (hts : TermsIn W ad ts)
    (hb : (0 ≤ n0 ∧ n0 ≤ 255) ∧ (0 ≤ n1 ∧ n1 ≤ 255) ∧ (0 ≤ n2 ∧ n2 ≤ 255)) :
    Calls Try.prog 8 #[.slice ad len cap, .agg #[.int .u8 n0, .int .u8 n1, .int .u8 n2]] W fun e w' => e = .returned (.bool true) ∧ Below W.heap.size W w' := by
  obtain ⟨⟨l0, u0⟩, ⟨l1, u1⟩, ⟨l2, u2⟩⟩ := hb
  have Hlen := hid hlen
  have Hts := hid hts
  have Hmax := hid hmax
  clear hts hlen hmax
  go_enter Try.func8, Try.ntmps8
  go_wp2_with fail
  refine (stores_calls ((Hd.refl W).box _) ad len cap ts Hlen.out Hmax.out Hts.out 20 (by decide)).mono ?_
  rintro e w1 ⟨b, b', L, rfl, hg, hl, hd⟩
  have H := hid (Room.of (N := 20) hd (by omega))
  have hbox := hd.third.blk
  have c0 : ∀ x : Later w1, x.w.cell? ⟨W.heap.size, 0, none⟩ = some (.int .u8 n0) := fun x => x.cell (by rw [cell_of_heap hbox]; rfl)
  have c1 : ∀ x : Later w1, x.w.cell? ⟨W.heap.size, 1, none⟩ = some (.int .u8 n1) := fun x => x.cell (by rw [cell_of_heap hbox]; rfl)
  have c2 : ∀ x : Later w1, x.w.cell? ⟨W.heap.size, 2, none⟩ = some (.int .u8 n2) := fun x => x.cell (by rw [cell_of_heap hbox]; rfl)
  have C0 := hid c0
  have C1 := hid c1
  have C2 := hid c2
  clear hd hbox hg c0 c1 c2
  go_wp2_with fail
  refine (len_at H.out.hd).mono ?_
  rintro e w' ⟨rfl, rfl⟩
  by_cases hL : L.length = 0
  · have e0 : ((L.length : Int) == 0) = true := by simp [hL]
    have e1 : (L.length == 0) = true := by simp [hL]
    clear hL
    go_wp2_with fail
    refine (fixed7_calls H.out.hd).mono ?_
    rintro e w' ⟨rfl, h5⟩
    have H5 := hid h5
    clear h5
    go_wp2_with fail
    go_ret
    exact ⟨rfl, H5.out.below⟩
  have e0 : ((L.length : Int) == 0) = false := by simpa using hL
  have e1 : (L.length == 0) = false := by simpa using hL
  have hL1 : (1 : Int) ≤ (L.length : Int) := by omega
  have m0 := mod_range n0 hL1
  obtain ⟨k, hk⟩ : ∃ x, x = 1 + n0 % (L.length : Int) := ⟨_, rfl⟩
  have ik : In L k := ⟨by rw [hk]; omega, by rw [hk]; omega⟩
  have Ik := hid ik
  have Hk := hid hk
  have c0 := C0.out
  have m1 := mod_range n1 hL1
  obtain ⟨x, hx⟩ : ∃ x, x = 1 + n1 % (L.length : Int) := ⟨_, rfl⟩
  have ix : In L x := ⟨by rw [hx]; omega, by rw [hx]; omega⟩
  have Ix := hid ix
  have Hx := hid hx
  have c1 := C1.out
  have m2 := mod_range n2 hL1
  obtain ⟨y, hy⟩ : ∃ x, x = 1 + n2 % (L.length : Int) := ⟨_, rfl⟩
  have iy : In L y := ⟨by rw [hy]; omega, by rw [hy]; omega⟩
  have Iy := hid iy
  have Hy := hid hy
  have c2 := C2.out
  clear hL hk ik C0 hx ix C1 hy iy C2
  go_wp2_with fail
  refine wp_region_calm (by kernel_rfl) (by kernel_rfl) ?_
  repeat (go_big_quiet_step ((go_at_call 39; exact Calls.calm_same (len_at (H.out.calm _)))))
  refine wpQuiet_nil ?_
  intro w2 hw2
  obtain ⟨⟨w2, hb2⟩, rfl⟩ := hw2
  replace H := hid (H.out.still hb2)
  rw [show 1 + n0 % (L.length : Int) = k from Hk.out.symm]
  rw [show 1 + n1 % (L.length : Int) = x from Hx.out.symm]
  rw [show 1 + n2 % (L.length : Int) = y from Hy.out.symm]
  clear hb2 hl e0 e1 hL1 c0 Hk l0 u0 m0 c1 Hx l1 u1 m1 c2 Hy l2 u2 m2
  go_wp2_with fail
  refine (sbegin_room (s := ⟨#[110, 97, 109, 101]⟩) H.out (by decide) (by decide)).mono ?_
  rintro e w3 ⟨a, L3, rfl, qa, hext, hroom⟩
  have Aa := hid qa
  have E := hid hext
  clear H
  have H := hid hroom
  clear hext hroom qa
  replace Ik := hid (Ik.out.ext E.out)
  replace Ix := hid (Ix.out.ext E.out)
  replace Iy := hid (Iy.out.ext E.out)
  clear E
  go_wp2_with fail
  refine (smix_room (k := 0) (h := a) (n := 0) (H.out.re H.out.hd.bx) (by decide) Aa.out.inn Ik.out).mono ?_
  rintro e w4 ⟨b1, b2, g, L4, rfl, qb1, qb2, qg, hext, hroom⟩
  have Ab1 := hid qb1
  have Ab2 := hid qb2
  have Ag := hid qg
  have E := hid hext
  clear H
  have H := hid hroom
  clear hext hroom qb1 qb2 qg
  replace Aa := hid (Aa.out.ext E.out)
  replace Ik := hid (Ik.out.ext E.out)
  replace Ix := hid (Ix.out.ext E.out)
  replace Iy := hid (Iy.out.ext E.out)
  clear E
  go_wp2_with fail
  refine (smix_room (k := b2) (h := a) (n := 0) (H.out.re H.out.hd.bx) (by decide) Ab1.out.inn Ix.out).mono ?_
  rintro e w5 ⟨c1, c2, gc, L5, rfl, qc1, qc2, qgc, hext, hroom⟩
  have Ac1 := hid qc1
  have Ac2 := hid qc2
  have Agc := hid qgc
  have E := hid hext
  clear H
  have H := hid hroom
  clear hext hroom qc1 qc2 qgc
  replace Aa := hid (Aa.out.ext E.out)
  replace Ab1 := hid (Ab1.out.ext E.out)
  replace Ab2 := hid (Ab2.out.ext E.out)
  replace Ag := hid (Ag.out.ext E.out)
  replace Ik := hid (Ik.out.ext E.out)
  replace Ix := hid (Ix.out.ext E.out)
  replace Iy := hid (Iy.out.ext E.out)
  clear E
  have hk := Hd.nth 1 H.out.hd rfl
  have yb0 := (cell_of_heap hk 0).trans (show _ = some (.int .i64 b1) from rfl)
  have yb1 := (cell_of_heap hk 1).trans (show _ = some (.int .i64 b2) from rfl)
  have yb2 := (cell_of_heap hk 2).trans (show _ = some (.int .i64 a) from rfl)
  have yb3 := (cell_of_heap hk 3).trans (show _ = some (.int .u64 0) from rfl)
  have ybf := frozen_of_heap hk
  have ybl := (Array.getElem?_eq_some_iff.1 hk).1
  clear hk
  go_wp2_with fail
  refine (smix_room (k := b2) (h := a) (n := 0) (H.out.re H.out.hd.bx) (by decide) Ab1.out.inn Iy.out).mono ?_
  rintro e w6 ⟨d1, d2, gd, L6, rfl, qd1, qd2, qgd, hext, hroom⟩
  have Ad1 := hid qd1
  have Ad2 := hid qd2
  have Agd := hid qgd
  have E := hid hext
  clear H yb0 yb1 yb2 yb3 ybf ybl
  have H := hid hroom
  clear hext hroom qd1 qd2 qgd
  replace Aa := hid (Aa.out.ext E.out)
  replace Ab1 := hid (Ab1.out.ext E.out)
  replace Ab2 := hid (Ab2.out.ext E.out)
  replace Ag := hid (Ag.out.ext E.out)
  replace Ac1 := hid (Ac1.out.ext E.out)
  replace Ac2 := hid (Ac2.out.ext E.out)
  replace Agc := hid (Agc.out.ext E.out)
  replace Ik := hid (Ik.out.ext E.out)
  replace Ix := hid (Ix.out.ext E.out)
  replace Iy := hid (Iy.out.ext E.out)
  clear E
  have hk := Hd.nth 1 H.out.hd rfl
  have yc0 := (cell_of_heap hk 0).trans (show _ = some (.int .i64 c1) from rfl)
  have yc1 := (cell_of_heap hk 1).trans (show _ = some (.int .i64 c2) from rfl)
  have yc2 := (cell_of_heap hk 2).trans (show _ = some (.int .i64 a) from rfl)
  have yc3 := (cell_of_heap hk 3).trans (show _ = some (.int .u64 0) from rfl)
  have ycf := frozen_of_heap hk
  have ycl := (Array.getElem?_eq_some_iff.1 hk).1
  clear hk
  go_wp2_with fail
  refine (ssplit_room (k := c2) (h := a) (n := 0) (H.out.re H.out.hd.bx) (by decide) Ac1.out.inn).mono ?_
  rintro e w7 ⟨u, v, gu, t1, L7, rfl, qu, qv, qgu, qt1, hext, hroom⟩
  have Au := hid qu
  have Av := hid qv
  have Agu := hid qgu
  have At1 := hid qt1
  have E := hid hext
  clear H yc0 yc1 yc2 yc3 ycf ycl
  have H := hid hroom
  clear hext hroom qu qv qgu qt1
  replace Aa := hid (Aa.out.ext E.out)
  replace Ab1 := hid (Ab1.out.ext E.out)
  replace Ab2 := hid (Ab2.out.ext E.out)
  replace Ag := hid (Ag.out.ext E.out)
  replace Ac1 := hid (Ac1.out.ext E.out)
  replace Ac2 := hid (Ac2.out.ext E.out)
  replace Agc := hid (Agc.out.ext E.out)
  replace Ad1 := hid (Ad1.out.ext E.out)
  replace Ad2 := hid (Ad2.out.ext E.out)
  replace Agd := hid (Agd.out.ext E.out)
  replace Ik := hid (Ik.out.ext E.out)
  replace Ix := hid (Ix.out.ext E.out)
  replace Iy := hid (Iy.out.ext E.out)
  clear E
  have hk := Hd.nth 1 H.out.hd rfl
  have yd0 := (cell_of_heap hk 0).trans (show _ = some (.int .i64 d1) from rfl)
  have yd1 := (cell_of_heap hk 1).trans (show _ = some (.int .i64 d2) from rfl)
  have yd2 := (cell_of_heap hk 2).trans (show _ = some (.int .i64 a) from rfl)
  have yd3 := (cell_of_heap hk 3).trans (show _ = some (.int .u64 0) from rfl)
  have ydf := frozen_of_heap hk
  have ydl := (Array.getElem?_eq_some_iff.1 hk).1
  clear hk
  go_wp2_with fail
  refine (ssplit_room (k := d2) (h := a) (n := 0) H.out (by decide) Ad1.out.inn).mono ?_
  rintro e w8 ⟨ww, o, gw, t2, L8, rfl, qww, qo, qgw, qt2, hext, hroom⟩
  have Aww := hid qww
  have Ao := hid qo
  have Agw := hid qgw
  have At2 := hid qt2
  have E := hid hext
  clear H yd0 yd1 yd2 yd3 ydf ydl
  have H := hid hroom
  clear hext hroom qww qo qgw qt2
  replace Aa := hid (Aa.out.ext E.out)
  replace Ab1 := hid (Ab1.out.ext E.out)
  replace Ab2 := hid (Ab2.out.ext E.out)
  replace Ag := hid (Ag.out.ext E.out)
  replace Ac1 := hid (Ac1.out.ext E.out)
  replace Ac2 := hid (Ac2.out.ext E.out)
  replace Agc := hid (Agc.out.ext E.out)
  replace Ad1 := hid (Ad1.out.ext E.out)
  replace Ad2 := hid (Ad2.out.ext E.out)
  replace Agd := hid (Agd.out.ext E.out)
  replace Au := hid (Au.out.ext E.out)
  replace Av := hid (Av.out.ext E.out)
  replace Agu := hid (Agu.out.ext E.out)
  replace At1 := hid (At1.out.ext E.out)
  replace Ik := hid (Ik.out.ext E.out)
  replace Ix := hid (Ix.out.ext E.out)
  replace Iy := hid (Iy.out.ext E.out)
  clear E
  have hk := Hd.nth 2 H.out.hd rfl
  have yc0 := (cell_of_heap hk 0).trans (show _ = some (.int .i64 c1) from rfl)
  have yc1 := (cell_of_heap hk 1).trans (show _ = some (.int .i64 c2) from rfl)
  have yc2 := (cell_of_heap hk 2).trans (show _ = some (.int .i64 a) from rfl)
  have yc3 := (cell_of_heap hk 3).trans (show _ = some (.int .u64 0) from rfl)
  have ycf := frozen_of_heap hk
  have ycl := (Array.getElem?_eq_some_iff.1 hk).1
  clear hk
  go_wp2_with fail
  refine (ssplit_known (k := c2) (h := a) (n := 0) H.out Au.out Av.out Agu.out At1.out).mono ?_
  rintro e w9 ⟨rfl, hroom⟩
  clear H yc0 yc1 yc2 yc3 ycf ycl
  have H := hid hroom
  clear hroom
  have hk := Hd.nth 2 H.out.hd rfl
  have yc0 := (cell_of_heap hk 0).trans (show _ = some (.int .i64 c1) from rfl)
  have yc1 := (cell_of_heap hk 1).trans (show _ = some (.int .i64 c2) from rfl)
  have yc2 := (cell_of_heap hk 2).trans (show _ = some (.int .i64 a) from rfl)
  have yc3 := (cell_of_heap hk 3).trans (show _ = some (.int .u64 0) from rfl)
  have ycf := frozen_of_heap hk
  have ycl := (Array.getElem?_eq_some_iff.1 hk).1
  clear hk
  obtain rfl := At1.out.name H.out.good At2.out
  clear At2
  have h1 : gc = gd ↔ x = y := by
    rw [at_iff H.out.good Agc.out Agd.out, has_inj]; simp
  have h2 : c1 = d1 ↔ x = y := by
    rw [at_iff H.out.good Ac1.out Ad1.out, key_inj, ← h1]; simp
  have h3 : gu = gw ↔ x = y := by
    rw [at_iff H.out.good Agu.out Agw.out, has_inj, ← h2]; simp
  have f1 : (u == ww) = (x == y) := beq_same (by rw [at_iff H.out.good Au.out Aww.out, key_inj, ← h3]; simp)
  have f2 : (v == o) = (x == y) := beq_same (by rw [at_iff H.out.good Av.out Ao.out, key_inj, ← h3]; simp)
  have f3 : (u != v) = true := at_ne Au.out Av.out (by rw [Ne, key_inj]; simp)
  have f4 : (u != o) = true := at_ne Au.out Ao.out (by rw [Ne, key_inj]; simp)
  have p1 := Au.out.part H.out.good (p := gu) (by simp [keyT, T.parts, many])
  have p2 := Agu.out.part H.out.good (p := c1) (by simp [hasT, T.parts, many])
  have p3 := Av.out.part H.out.good (p := gu) (by simp [keyT, T.parts, many])
  have n1 : gu ≠ gc := fun e => by
    subst e; have h5 := Agu.out.same Agc.out; rw [has_inj] at h5; have p4 := Ac1.out.part H.out.good (p := gu) (by simp [keyT, T.parts, many]); omega
  have f5 : (u != c1) = true := by rw [bne_iff_ne]; omega
  have f7 : (v != c1) = true := by rw [bne_iff_ne]; omega
  have f6 : (u != c2) = true := at_ne Au.out Ac2.out (by rw [Ne, key_inj]; rintro ⟨h, _⟩; simp_all)
  have f8 : (v != c2) = true := at_ne Av.out Ac2.out (by rw [Ne, key_inj]; rintro ⟨h, _⟩; simp_all)
  clear h1 h2 h3 p1 p2 p3 n1
  go_wp2_with fail
  refine (fixed7_calls H.out.hd).mono ?_
  rintro e w' ⟨rfl, h5⟩
  have H5 := hid h5
  clear h5
  go_wp2_with fail
  go_ret
  exact ⟨rfl, H5.out.below⟩
end Go.Proofs.Ytbaliaodioflfaa
