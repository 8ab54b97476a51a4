/-
  SymApart returns true, and writes nothing that was there. For every input.
-/
import Derived.Test.YtbaliaodioflfaaSymRoom
import Derived.Test.YtbaliaodioflfaaFixG
import Derived.Test.YtbaliaodioflfaaArgsC
namespace Go.Proofs.Ytbaliaodioflfaa
open Go.RowKit

set_option maxRecDepth 100000 in
set_option maxHeartbeats 8000000 in
theorem symApart_walk (ad : Option Addr) (len cap : Nat) (ts : List T) (n0 n1 n2 n3 : Int) (W : World) (hlen : len = ts.length) (hmax : len ≤ maxLen) (hts : TermsIn W ad ts)
    (hb : (0 ≤ n0 ∧ n0 ≤ 255) ∧ (0 ≤ n1 ∧ n1 ≤ 255) ∧ (0 ≤ n2 ∧ n2 ≤ 255) ∧ (0 ≤ n3 ∧ n3 ≤ 255)) :
    Calls Try.prog 5 #[.slice ad len cap, .agg #[.int .u8 n0, .int .u8 n1, .int .u8 n2, .int .u8 n3]] W fun e w' => e = .returned (.bool true) ∧ Below W.heap.size W w' := by
  obtain ⟨⟨l0, u0⟩, ⟨l1, u1⟩, ⟨l2, u2⟩, ⟨l3, u3⟩⟩ := hb
  have Hlen := hid hlen
  have Hts := hid hts
  have Hmax := hid hmax
  clear hts hlen hmax
  go_enter Try.func5, Try.ntmps5
  go_wp2_with fail
  refine (stores_calls ((Hd.refl W).box _) ad len cap ts Hlen.out Hmax.out Hts.out 20 (by decide)).mono ?_
  rintro e w1 ⟨b, b', L, rfl, hg, hl, hd⟩
  have H := hid (Room.of (N := 20) hd (by omega))
  have hbox := hd.third.blk
  have c0 : ∀ x : Later w1, x.w.cell? ⟨W.heap.size, 0, none⟩ = some (.int .u8 n0) := fun x => x.cell (by rw [cell_of_heap hbox]; rfl)
  have c1 : ∀ x : Later w1, x.w.cell? ⟨W.heap.size, 1, none⟩ = some (.int .u8 n1) := fun x => x.cell (by rw [cell_of_heap hbox]; rfl)
  have c2 : ∀ x : Later w1, x.w.cell? ⟨W.heap.size, 2, none⟩ = some (.int .u8 n2) := fun x => x.cell (by rw [cell_of_heap hbox]; rfl)
  have c3 : ∀ x : Later w1, x.w.cell? ⟨W.heap.size, 3, none⟩ = some (.int .u8 n3) := fun x => x.cell (by rw [cell_of_heap hbox]; rfl)
  have C0 := hid c0
  have C1 := hid c1
  have C2 := hid c2
  have C3 := hid c3
  clear hd hbox hg c0 c1 c2 c3
  go_wp2_with fail
  refine (len_at H.out.hd).mono ?_
  rintro e w' ⟨rfl, rfl⟩
  by_cases hL : L.length = 0
  · have e0 : ((L.length : Int) == 0) = true := by simp [hL]
    have e1 : (L.length == 0) = true := by simp [hL]
    clear hL
    go_wp2_with fail
    refine (fixed7_calls H.out.hd).mono ?_
    rintro e w' ⟨rfl, h5⟩
    have H5 := hid h5
    clear h5
    go_wp2_with fail
    go_ret
    exact ⟨rfl, H5.out.below⟩
  have e0 : ((L.length : Int) == 0) = false := by simpa using hL
  have e1 : (L.length == 0) = false := by simpa using hL
  have hL1 : (1 : Int) ≤ (L.length : Int) := by omega
  have m0 := mod_range n0 hL1
  obtain ⟨k, hk⟩ : ∃ x, x = 1 + n0 % (L.length : Int) := ⟨_, rfl⟩
  have ik : In L k := ⟨by rw [hk]; omega, by rw [hk]; omega⟩
  have Ik := hid ik
  have Hk := hid hk
  have c0 := C0.out
  have m1 := mod_range n1 hL1
  obtain ⟨x, hx⟩ : ∃ x, x = 1 + n1 % (L.length : Int) := ⟨_, rfl⟩
  have ix : In L x := ⟨by rw [hx]; omega, by rw [hx]; omega⟩
  have Ix := hid ix
  have Hx := hid hx
  have c1 := C1.out
  have m2 := mod_range n2 hL1
  obtain ⟨y, hy⟩ : ∃ x, x = 1 + n2 % (L.length : Int) := ⟨_, rfl⟩
  have iy : In L y := ⟨by rw [hy]; omega, by rw [hy]; omega⟩
  have Iy := hid iy
  have Hy := hid hy
  have c2 := C2.out
  have m3 := mod_range n3 hL1
  obtain ⟨p, hp⟩ : ∃ x, x = 1 + n3 % (L.length : Int) := ⟨_, rfl⟩
  have ip : In L p := ⟨by rw [hp]; omega, by rw [hp]; omega⟩
  have Ip := hid ip
  have Hp := hid hp
  have c3 := C3.out
  clear hL hk ik C0 hx ix C1 hy iy C2 hp ip C3
  go_wp2_with fail
  refine wp_region_calm (by kernel_rfl) (by kernel_rfl) ?_
  repeat (go_big_quiet_step ((go_at_call 39; exact Calls.calm_same (len_at (H.out.calm _)))))
  refine wpQuiet_nil ?_
  intro w2 hw2
  obtain ⟨⟨w2, hb2⟩, rfl⟩ := hw2
  replace H := hid (H.out.still hb2)
  rw [show 1 + n0 % (L.length : Int) = k from Hk.out.symm]
  rw [show 1 + n1 % (L.length : Int) = x from Hx.out.symm]
  rw [show 1 + n2 % (L.length : Int) = y from Hy.out.symm]
  rw [show 1 + n3 % (L.length : Int) = p from Hp.out.symm]
  clear hb2 hl e0 e1 hL1 c0 Hk l0 u0 m0 c1 Hx l1 u1 m1 c2 Hy l2 u2 m2 c3 Hp l3 u3 m3
  go_wp2_with fail
  refine (sbegin_room (s := ⟨#[110, 97, 109, 101]⟩) H.out (by decide) (by decide)).mono ?_
  rintro e w3 ⟨a, L3, rfl, qa, hext, hroom⟩
  have Aa := hid qa
  have E := hid hext
  clear H
  have H := hid hroom
  clear hext hroom qa
  replace Ik := hid (Ik.out.ext E.out)
  replace Ix := hid (Ix.out.ext E.out)
  replace Iy := hid (Iy.out.ext E.out)
  replace Ip := hid (Ip.out.ext E.out)
  clear E
  go_wp2_with fail
  refine (smix_room (k := 0) (h := a) (n := 0) (H.out.re H.out.hd.bx) (by decide) Aa.out.inn Ik.out).mono ?_
  rintro e w4 ⟨b1, b2, g, L4, rfl, qb1, qb2, qg, hext, hroom⟩
  have Ab1 := hid qb1
  have Ab2 := hid qb2
  have Ag := hid qg
  have E := hid hext
  clear H
  have H := hid hroom
  clear hext hroom qb1 qb2 qg
  replace Aa := hid (Aa.out.ext E.out)
  replace Ik := hid (Ik.out.ext E.out)
  replace Ix := hid (Ix.out.ext E.out)
  replace Iy := hid (Iy.out.ext E.out)
  replace Ip := hid (Ip.out.ext E.out)
  clear E
  go_wp2_with fail
  refine (shash_room (ck := b1) (k := b2) (n := 0) (H.out.re H.out.hd.bx) (by decide) Aa.out.inn Ix.out).mono ?_
  rintro e w5 ⟨c1, L5, rfl, qc1, hext, hroom⟩
  have Ac1 := hid qc1
  have E := hid hext
  clear H
  have H := hid hroom
  clear hext hroom qc1
  replace Aa := hid (Aa.out.ext E.out)
  replace Ab1 := hid (Ab1.out.ext E.out)
  replace Ab2 := hid (Ab2.out.ext E.out)
  replace Ag := hid (Ag.out.ext E.out)
  replace Ik := hid (Ik.out.ext E.out)
  replace Ix := hid (Ix.out.ext E.out)
  replace Iy := hid (Iy.out.ext E.out)
  replace Ip := hid (Ip.out.ext E.out)
  clear E
  have hk := Hd.nth 1 H.out.hd rfl
  have yb0 := (cell_of_heap hk 0).trans (show _ = some (.int .i64 b1) from rfl)
  have yb1 := (cell_of_heap hk 1).trans (show _ = some (.int .i64 b2) from rfl)
  have yb2 := (cell_of_heap hk 2).trans (show _ = some (.int .i64 a) from rfl)
  have yb3 := (cell_of_heap hk 3).trans (show _ = some (.int .u64 0) from rfl)
  have ybf := frozen_of_heap hk
  have ybl := (Array.getElem?_eq_some_iff.1 hk).1
  clear hk
  go_wp2_with fail
  refine (shash_room (ck := b1) (k := b2) (n := 0) (H.out.re H.out.hd.bx) (by decide) Aa.out.inn Iy.out).mono ?_
  rintro e w6 ⟨d1, L6, rfl, qd1, hext, hroom⟩
  have Ad1 := hid qd1
  have E := hid hext
  clear H yb0 yb1 yb2 yb3 ybf ybl
  have H := hid hroom
  clear hext hroom qd1
  replace Aa := hid (Aa.out.ext E.out)
  replace Ab1 := hid (Ab1.out.ext E.out)
  replace Ab2 := hid (Ab2.out.ext E.out)
  replace Ag := hid (Ag.out.ext E.out)
  replace Ac1 := hid (Ac1.out.ext E.out)
  replace Ik := hid (Ik.out.ext E.out)
  replace Ix := hid (Ix.out.ext E.out)
  replace Iy := hid (Iy.out.ext E.out)
  replace Ip := hid (Ip.out.ext E.out)
  clear E
  have hk := Hd.nth 2 H.out.hd rfl
  have yb0 := (cell_of_heap hk 0).trans (show _ = some (.int .i64 b1) from rfl)
  have yb1 := (cell_of_heap hk 1).trans (show _ = some (.int .i64 b2) from rfl)
  have yb2 := (cell_of_heap hk 2).trans (show _ = some (.int .i64 a) from rfl)
  have yb3 := (cell_of_heap hk 3).trans (show _ = some (.int .u64 0) from rfl)
  have ybf := frozen_of_heap hk
  have ybl := (Array.getElem?_eq_some_iff.1 hk).1
  clear hk
  go_wp2_with fail
  refine (smix_room (k := b2) (h := a) (n := 0) (H.out.re H.out.hd.bx) (by decide) Ab1.out.inn Ix.out).mono ?_
  rintro e w7 ⟨u1, u2, gu, L7, rfl, qu1, qu2, qgu, hext, hroom⟩
  have Au1 := hid qu1
  have Au2 := hid qu2
  have Agu := hid qgu
  have E := hid hext
  clear H yb0 yb1 yb2 yb3 ybf ybl
  have H := hid hroom
  clear hext hroom qu1 qu2 qgu
  replace Aa := hid (Aa.out.ext E.out)
  replace Ab1 := hid (Ab1.out.ext E.out)
  replace Ab2 := hid (Ab2.out.ext E.out)
  replace Ag := hid (Ag.out.ext E.out)
  replace Ac1 := hid (Ac1.out.ext E.out)
  replace Ad1 := hid (Ad1.out.ext E.out)
  replace Ik := hid (Ik.out.ext E.out)
  replace Ix := hid (Ix.out.ext E.out)
  replace Iy := hid (Iy.out.ext E.out)
  replace Ip := hid (Ip.out.ext E.out)
  clear E
  have hk := Hd.nth 3 H.out.hd rfl
  have yb0 := (cell_of_heap hk 0).trans (show _ = some (.int .i64 b1) from rfl)
  have yb1 := (cell_of_heap hk 1).trans (show _ = some (.int .i64 b2) from rfl)
  have yb2 := (cell_of_heap hk 2).trans (show _ = some (.int .i64 a) from rfl)
  have yb3 := (cell_of_heap hk 3).trans (show _ = some (.int .u64 0) from rfl)
  have ybf := frozen_of_heap hk
  have ybl := (Array.getElem?_eq_some_iff.1 hk).1
  clear hk
  go_wp2_with fail
  refine (smix_room (k := b2) (h := a) (n := 0) (H.out.re H.out.hd.bx) (by decide) Ab1.out.inn Iy.out).mono ?_
  rintro e w8 ⟨v1, v2, gv, L8, rfl, qv1, qv2, qgv, hext, hroom⟩
  have Av1 := hid qv1
  have Av2 := hid qv2
  have Agv := hid qgv
  have E := hid hext
  clear H yb0 yb1 yb2 yb3 ybf ybl
  have H := hid hroom
  clear hext hroom qv1 qv2 qgv
  replace Aa := hid (Aa.out.ext E.out)
  replace Ab1 := hid (Ab1.out.ext E.out)
  replace Ab2 := hid (Ab2.out.ext E.out)
  replace Ag := hid (Ag.out.ext E.out)
  replace Ac1 := hid (Ac1.out.ext E.out)
  replace Ad1 := hid (Ad1.out.ext E.out)
  replace Au1 := hid (Au1.out.ext E.out)
  replace Au2 := hid (Au2.out.ext E.out)
  replace Agu := hid (Agu.out.ext E.out)
  replace Ik := hid (Ik.out.ext E.out)
  replace Ix := hid (Ix.out.ext E.out)
  replace Iy := hid (Iy.out.ext E.out)
  replace Ip := hid (Ip.out.ext E.out)
  clear E
  have hk := Hd.nth 3 H.out.hd rfl
  have yc0 := (cell_of_heap hk 0).trans (show _ = some (.int .i64 b1) from rfl)
  have yc1 := (cell_of_heap hk 1).trans (show _ = some (.int .i64 b2) from rfl)
  have yc2 := (cell_of_heap hk 2).trans (show _ = some (.int .i64 c1) from rfl)
  have yc3 := (cell_of_heap hk 3).trans (show _ = some (.int .u64 0) from rfl)
  have ycf := frozen_of_heap hk
  have ycl := (Array.getElem?_eq_some_iff.1 hk).1
  clear hk
  go_wp2_with fail
  refine (sseal_room (ck := b1) (n := 0) 1 rfl (by decide) (by decide) (H.out.re H.out.hd.bx) (by decide) Ab2.out.inn Ac1.out.inn Ip.out).mono ?_
  rintro e w9 ⟨mm, c2, L9, rfl, qmm, qc2, hext, hroom⟩
  have Amm := hid qmm
  have Ac2 := hid qc2
  have E := hid hext
  clear H yc0 yc1 yc2 yc3 ycf ycl
  have H := hid hroom
  clear hext hroom qmm qc2
  replace Aa := hid (Aa.out.ext E.out)
  replace Ab1 := hid (Ab1.out.ext E.out)
  replace Ab2 := hid (Ab2.out.ext E.out)
  replace Ag := hid (Ag.out.ext E.out)
  replace Ac1 := hid (Ac1.out.ext E.out)
  replace Ad1 := hid (Ad1.out.ext E.out)
  replace Au1 := hid (Au1.out.ext E.out)
  replace Au2 := hid (Au2.out.ext E.out)
  replace Agu := hid (Agu.out.ext E.out)
  replace Av1 := hid (Av1.out.ext E.out)
  replace Av2 := hid (Av2.out.ext E.out)
  replace Agv := hid (Agv.out.ext E.out)
  replace Ik := hid (Ik.out.ext E.out)
  replace Ix := hid (Ix.out.ext E.out)
  replace Iy := hid (Iy.out.ext E.out)
  replace Ip := hid (Ip.out.ext E.out)
  clear E
  by_cases hxy : x = y
  · skip
    have f0 : (x == y) = true := by simpa using hxy
    obtain rfl := hxy
    obtain rfl := Ac1.out.name H.out.good Ad1.out
    obtain rfl := Agu.out.name H.out.good Agv.out
    obtain rfl := Au1.out.name H.out.good Av1.out
    obtain rfl := Au2.out.name H.out.good Av2.out
    clear Ad1 Agv Av1 Av2 Iy
    have hk := Hd.nth 3 H.out.hd rfl
    have yd0 := (cell_of_heap hk 0).trans (show _ = some (.int .i64 b1) from rfl)
    have yd1 := (cell_of_heap hk 1).trans (show _ = some (.int .i64 b2) from rfl)
    have yd2 := (cell_of_heap hk 2).trans (show _ = some (.int .i64 c1) from rfl)
    have yd3 := (cell_of_heap hk 3).trans (show _ = some (.int .u64 0) from rfl)
    have ydf := frozen_of_heap hk
    have ydl := (Array.getElem?_eq_some_iff.1 hk).1
    clear hk
    go_wp2_with fail
    refine (sopen_known (ck := b1) (n := 0) 1 rfl (by decide) (by decide) (H.out.re H.out.hd.bx) Ab2.out.inn Ac1.out.inn Amm.out Ac2.out).mono ?_
    rintro e w10 ⟨rfl, hroom⟩
    clear H yd0 yd1 yd2 yd3 ydf ydl
    have H := hid hroom
    clear hroom
    have hk := Hd.nth 3 H.out.hd rfl
    have yu0 := (cell_of_heap hk 0).trans (show _ = some (.int .i64 u1) from rfl)
    have yu1 := (cell_of_heap hk 1).trans (show _ = some (.int .i64 u2) from rfl)
    have yu2 := (cell_of_heap hk 2).trans (show _ = some (.int .i64 a) from rfl)
    have yu3 := (cell_of_heap hk 3).trans (show _ = some (.int .u64 0) from rfl)
    have yuf := frozen_of_heap hk
    have yul := (Array.getElem?_eq_some_iff.1 hk).1
    clear hk
    go_wp2_with fail
    refine (sseal_room (ck := u1) (n := 0) 1 rfl (by decide) (by decide) (H.out.re H.out.hd.bx) (by decide) Au2.out.inn Aa.out.inn Ip.out).mono ?_
    rintro e w11 ⟨ww, e2, L11, rfl, qww, qe2, hext, hroom⟩
    have Aww := hid qww
    have Ae2 := hid qe2
    have E := hid hext
    clear H yu0 yu1 yu2 yu3 yuf yul
    have H := hid hroom
    clear hext hroom qww qe2
    replace Aa := hid (Aa.out.ext E.out)
    replace Ab1 := hid (Ab1.out.ext E.out)
    replace Ab2 := hid (Ab2.out.ext E.out)
    replace Ag := hid (Ag.out.ext E.out)
    replace Ac1 := hid (Ac1.out.ext E.out)
    replace Au1 := hid (Au1.out.ext E.out)
    replace Au2 := hid (Au2.out.ext E.out)
    replace Agu := hid (Agu.out.ext E.out)
    replace Amm := hid (Amm.out.ext E.out)
    replace Ac2 := hid (Ac2.out.ext E.out)
    replace Ik := hid (Ik.out.ext E.out)
    replace Ix := hid (Ix.out.ext E.out)
    replace Ip := hid (Ip.out.ext E.out)
    clear E
    have hk := Hd.nth 3 H.out.hd rfl
    have yv0 := (cell_of_heap hk 0).trans (show _ = some (.int .i64 u1) from rfl)
    have yv1 := (cell_of_heap hk 1).trans (show _ = some (.int .i64 u2) from rfl)
    have yv2 := (cell_of_heap hk 2).trans (show _ = some (.int .i64 a) from rfl)
    have yv3 := (cell_of_heap hk 3).trans (show _ = some (.int .u64 0) from rfl)
    have yvf := frozen_of_heap hk
    have yvl := (Array.getElem?_eq_some_iff.1 hk).1
    clear hk
    go_wp2_with fail
    refine (sopen_known (ck := u1) (n := 0) 1 rfl (by decide) (by decide) (H.out.re H.out.hd.bx) Au2.out.inn Aa.out.inn Aww.out Ae2.out).mono ?_
    rintro e w12 ⟨rfl, hroom⟩
    clear H yv0 yv1 yv2 yv3 yvf yvl
    have H := hid hroom
    clear hroom
    go_wp2_with fail
    refine (fixed7_calls (H.out.re H.out.hd.bx).hd).mono ?_
    rintro e w' ⟨rfl, h5⟩
    have H5 := hid h5
    clear h5
    go_wp2_with fail
    go_ret
    exact ⟨rfl, H5.out.below⟩
  · skip
    have f0 : (x == y) = false := by simpa using hxy
    have n1 : c1 ≠ d1 := fun e => hxy (by subst e; have := Ac1.out.same Ad1.out; rw [has_inj] at this; exact this.2)
    have n2 : u2 ≠ v2 := fun e => hxy (by subst e; have h1 := Au2.out.same Av2.out; rw [key_inj] at h1; have h2 : gu = gv := h1.2; subst h2; have := Agu.out.same Agv.out; rw [has_inj] at this; exact this.2)
    clear hxy
    have N1 := hid n1
    have N2 := hid n2
    clear n1 n2
    have hk := Hd.nth 3 H.out.hd rfl
    have yd0 := (cell_of_heap hk 0).trans (show _ = some (.int .i64 b1) from rfl)
    have yd1 := (cell_of_heap hk 1).trans (show _ = some (.int .i64 b2) from rfl)
    have yd2 := (cell_of_heap hk 2).trans (show _ = some (.int .i64 d1) from rfl)
    have yd3 := (cell_of_heap hk 3).trans (show _ = some (.int .u64 0) from rfl)
    have ydf := frozen_of_heap hk
    have ydl := (Array.getElem?_eq_some_iff.1 hk).1
    clear hk
    go_wp2_with fail
    refine (sopen_bad (ck := b1) (n := 0) (by decide) (by decide) (H.out.re H.out.hd.bx) Ab2.out.inn Ad1.out.inn Amm.out (fun h => N1.out h.2.2.2)).mono ?_
    rintro e w10 ⟨rfl, hroom⟩
    clear H yd0 yd1 yd2 yd3 ydf ydl
    have H := hid hroom
    clear hroom
    have hk := Hd.nth 3 H.out.hd rfl
    have yu0 := (cell_of_heap hk 0).trans (show _ = some (.int .i64 u1) from rfl)
    have yu1 := (cell_of_heap hk 1).trans (show _ = some (.int .i64 u2) from rfl)
    have yu2 := (cell_of_heap hk 2).trans (show _ = some (.int .i64 a) from rfl)
    have yu3 := (cell_of_heap hk 3).trans (show _ = some (.int .u64 0) from rfl)
    have yuf := frozen_of_heap hk
    have yul := (Array.getElem?_eq_some_iff.1 hk).1
    clear hk
    go_wp2_with fail
    refine (sseal_room (ck := u1) (n := 0) 1 rfl (by decide) (by decide) (H.out.re H.out.hd.bx) (by decide) Au2.out.inn Aa.out.inn Ip.out).mono ?_
    rintro e w11 ⟨ww, e2, L11, rfl, qww, qe2, hext, hroom⟩
    have Aww := hid qww
    have Ae2 := hid qe2
    have E := hid hext
    clear H yu0 yu1 yu2 yu3 yuf yul
    have H := hid hroom
    clear hext hroom qww qe2
    replace Aa := hid (Aa.out.ext E.out)
    replace Ab1 := hid (Ab1.out.ext E.out)
    replace Ab2 := hid (Ab2.out.ext E.out)
    replace Ag := hid (Ag.out.ext E.out)
    replace Ac1 := hid (Ac1.out.ext E.out)
    replace Ad1 := hid (Ad1.out.ext E.out)
    replace Au1 := hid (Au1.out.ext E.out)
    replace Au2 := hid (Au2.out.ext E.out)
    replace Agu := hid (Agu.out.ext E.out)
    replace Av1 := hid (Av1.out.ext E.out)
    replace Av2 := hid (Av2.out.ext E.out)
    replace Agv := hid (Agv.out.ext E.out)
    replace Amm := hid (Amm.out.ext E.out)
    replace Ac2 := hid (Ac2.out.ext E.out)
    replace Ik := hid (Ik.out.ext E.out)
    replace Ix := hid (Ix.out.ext E.out)
    replace Iy := hid (Iy.out.ext E.out)
    replace Ip := hid (Ip.out.ext E.out)
    clear E
    have hk := Hd.nth 3 H.out.hd rfl
    have yv0 := (cell_of_heap hk 0).trans (show _ = some (.int .i64 v1) from rfl)
    have yv1 := (cell_of_heap hk 1).trans (show _ = some (.int .i64 v2) from rfl)
    have yv2 := (cell_of_heap hk 2).trans (show _ = some (.int .i64 a) from rfl)
    have yv3 := (cell_of_heap hk 3).trans (show _ = some (.int .u64 0) from rfl)
    have yvf := frozen_of_heap hk
    have yvl := (Array.getElem?_eq_some_iff.1 hk).1
    clear hk
    go_wp2_with fail
    refine (sopen_bad (ck := v1) (n := 0) (by decide) (by decide) (H.out.re H.out.hd.bx) Av2.out.inn Aa.out.inn Aww.out (fun h => N2.out h.2.1)).mono ?_
    rintro e w12 ⟨rfl, hroom⟩
    clear H yv0 yv1 yv2 yv3 yvf yvl
    have H := hid hroom
    clear hroom
    go_wp2_with fail
    refine (fixed7_calls (H.out.re H.out.hd.bx).hd).mono ?_
    rintro e w' ⟨rfl, h5⟩
    have H5 := hid h5
    clear h5
    go_wp2_with fail
    go_ret
    exact ⟨rfl, H5.out.below⟩
end Go.Proofs.Ytbaliaodioflfaa
