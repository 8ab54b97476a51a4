/-
  SymOnce returns true, and writes nothing that was there. For every input.
-/
import Derived.Test.YtbaliaodioflfaaSymRoom
import Derived.Test.YtbaliaodioflfaaFixG
import Derived.Test.YtbaliaodioflfaaArgsC
namespace Go.Proofs.Ytbaliaodioflfaa
open Go.RowKit

set_option maxRecDepth 100000 in
set_option maxHeartbeats 8000000 in
theorem symOnce_walk (ad : Option Addr) (len cap : Nat) (ts : List T) (n0 n1 n2 : Int) (W : World) (hlen : len = ts.length) (hmax : len ≤ maxLen) (hts : TermsIn W ad ts)
    (hb : (0 ≤ n0 ∧ n0 ≤ 255) ∧ (0 ≤ n1 ∧ n1 ≤ 255) ∧ (0 ≤ n2 ∧ n2 ≤ 255)) :
    Calls Try.prog 7 #[.slice ad len cap, .agg #[.int .u8 n0, .int .u8 n1, .int .u8 n2]] W fun e w' => e = .returned (.bool true) ∧ Below W.heap.size W w' := by
  obtain ⟨⟨l0, u0⟩, ⟨l1, u1⟩, ⟨l2, u2⟩⟩ := hb
  have Hlen := hid hlen
  have Hts := hid hts
  have Hmax := hid hmax
  clear hts hlen hmax
  go_enter Try.func7, Try.ntmps7
  go_wp2_with fail
  refine (stores_calls ((Hd.refl W).box _) ad len cap ts Hlen.out Hmax.out Hts.out 20 (by decide)).mono ?_
  rintro e w1 ⟨b, b', L, rfl, hg, hl, hd⟩
  have H := hid (Room.of (N := 20) hd (by omega))
  have hbox := hd.third.blk
  have c0 : ∀ x : Later w1, x.w.cell? ⟨W.heap.size, 0, none⟩ = some (.int .u8 n0) := fun x => x.cell (by rw [cell_of_heap hbox]; rfl)
  have c1 : ∀ x : Later w1, x.w.cell? ⟨W.heap.size, 1, none⟩ = some (.int .u8 n1) := fun x => x.cell (by rw [cell_of_heap hbox]; rfl)
  have c2 : ∀ x : Later w1, x.w.cell? ⟨W.heap.size, 2, none⟩ = some (.int .u8 n2) := fun x => x.cell (by rw [cell_of_heap hbox]; rfl)
  have C0 := hid c0
  have C1 := hid c1
  have C2 := hid c2
  clear hd hbox hg c0 c1 c2
  go_wp2_with fail
  refine (len_at H.out.hd).mono ?_
  rintro e w' ⟨rfl, rfl⟩
  by_cases hL : L.length = 0
  · have e0 : ((L.length : Int) == 0) = true := by simp [hL]
    have e1 : (L.length == 0) = true := by simp [hL]
    clear hL
    go_wp2_with fail
    refine (fixed7_calls H.out.hd).mono ?_
    rintro e w' ⟨rfl, h5⟩
    have H5 := hid h5
    clear h5
    go_wp2_with fail
    go_ret
    exact ⟨rfl, H5.out.below⟩
  have e0 : ((L.length : Int) == 0) = false := by simpa using hL
  have e1 : (L.length == 0) = false := by simpa using hL
  have hL1 : (1 : Int) ≤ (L.length : Int) := by omega
  have m0 := mod_range n0 hL1
  obtain ⟨k, hk⟩ : ∃ x, x = 1 + n0 % (L.length : Int) := ⟨_, rfl⟩
  have ik : In L k := ⟨by rw [hk]; omega, by rw [hk]; omega⟩
  have Ik := hid ik
  have Hk := hid hk
  have c0 := C0.out
  have m1 := mod_range n1 hL1
  obtain ⟨p, hp⟩ : ∃ x, x = 1 + n1 % (L.length : Int) := ⟨_, rfl⟩
  have ip : In L p := ⟨by rw [hp]; omega, by rw [hp]; omega⟩
  have Ip := hid ip
  have Hp := hid hp
  have c1 := C1.out
  have m2 := mod_range n2 hL1
  obtain ⟨q, hq⟩ : ∃ x, x = 1 + n2 % (L.length : Int) := ⟨_, rfl⟩
  have iq : In L q := ⟨by rw [hq]; omega, by rw [hq]; omega⟩
  have Iq := hid iq
  have Hq := hid hq
  have c2 := C2.out
  clear hL hk ik C0 hp ip C1 hq iq C2
  go_wp2_with fail
  refine wp_region_calm (by kernel_rfl) (by kernel_rfl) ?_
  repeat (go_big_quiet_step ((go_at_call 39; exact Calls.calm_same (len_at (H.out.calm _)))))
  refine wpQuiet_nil ?_
  intro w2 hw2
  obtain ⟨⟨w2, hb2⟩, rfl⟩ := hw2
  replace H := hid (H.out.still hb2)
  rw [show 1 + n0 % (L.length : Int) = k from Hk.out.symm]
  rw [show 1 + n1 % (L.length : Int) = p from Hp.out.symm]
  rw [show 1 + n2 % (L.length : Int) = q from Hq.out.symm]
  clear hb2 hl e0 e1 hL1 c0 Hk l0 u0 m0 c1 Hp l1 u1 m1 c2 Hq l2 u2 m2
  go_wp2_with fail
  refine (sbegin_room (s := ⟨#[110, 97, 109, 101]⟩) H.out (by decide) (by decide)).mono ?_
  rintro e w3 ⟨a, L3, rfl, qa, hext, hroom⟩
  have Aa := hid qa
  have E := hid hext
  clear H
  have H := hid hroom
  clear hext hroom qa
  replace Ik := hid (Ik.out.ext E.out)
  replace Ip := hid (Ip.out.ext E.out)
  replace Iq := hid (Iq.out.ext E.out)
  clear E
  go_wp2_with fail
  refine (smix_room (k := 0) (h := a) (n := 0) (H.out.re H.out.hd.bx) (by decide) Aa.out.inn Ik.out).mono ?_
  rintro e w4 ⟨b1, b2, g, L4, rfl, qb1, qb2, qg, hext, hroom⟩
  have Ab1 := hid qb1
  have Ab2 := hid qb2
  have Ag := hid qg
  have E := hid hext
  clear H
  have H := hid hroom
  clear hext hroom qb1 qb2 qg
  replace Aa := hid (Aa.out.ext E.out)
  replace Ik := hid (Ik.out.ext E.out)
  replace Ip := hid (Ip.out.ext E.out)
  replace Iq := hid (Iq.out.ext E.out)
  clear E
  go_wp2_with fail
  refine (sseal_room (ck := b1) (n := 0) 1 rfl (by decide) (by decide) (H.out.re H.out.hd.bx) (by decide) Ab2.out.inn Aa.out.inn Ip.out).mono ?_
  rintro e w5 ⟨x, c1, L5, rfl, qx, qc1, hext, hroom⟩
  have Ax := hid qx
  have Ac1 := hid qc1
  have E := hid hext
  clear H
  have H := hid hroom
  clear hext hroom qx qc1
  replace Aa := hid (Aa.out.ext E.out)
  replace Ab1 := hid (Ab1.out.ext E.out)
  replace Ab2 := hid (Ab2.out.ext E.out)
  replace Ag := hid (Ag.out.ext E.out)
  replace Ik := hid (Ik.out.ext E.out)
  replace Ip := hid (Ip.out.ext E.out)
  replace Iq := hid (Iq.out.ext E.out)
  clear E
  go_wp2_with fail
  refine (sseal_room (ck := b1) (n := 1) 2 rfl (by decide) (by decide) (H.out.re H.out.hd.bx) (by decide) Ab2.out.inn Ac1.out.inn Iq.out).mono ?_
  rintro e w6 ⟨y, d1, L6, rfl, qy, qd1, hext, hroom⟩
  have Ay := hid qy
  have Ad1 := hid qd1
  have E := hid hext
  clear H
  have H := hid hroom
  clear hext hroom qy qd1
  replace Aa := hid (Aa.out.ext E.out)
  replace Ab1 := hid (Ab1.out.ext E.out)
  replace Ab2 := hid (Ab2.out.ext E.out)
  replace Ag := hid (Ag.out.ext E.out)
  replace Ax := hid (Ax.out.ext E.out)
  replace Ac1 := hid (Ac1.out.ext E.out)
  replace Ik := hid (Ik.out.ext E.out)
  replace Ip := hid (Ip.out.ext E.out)
  replace Iq := hid (Iq.out.ext E.out)
  clear E
  have f1 : (x == y) = false := by
    rw [beq_eq_false_iff_ne]; intro e; subst e; have := Ax.out.same Ay.out; rw [sea_inj] at this; exact absurd this.1 (by decide)
  have hk := Hd.nth 2 H.out.hd rfl
  have yb0 := (cell_of_heap hk 0).trans (show _ = some (.int .i64 b1) from rfl)
  have yb1 := (cell_of_heap hk 1).trans (show _ = some (.int .i64 b2) from rfl)
  have yb2 := (cell_of_heap hk 2).trans (show _ = some (.int .i64 a) from rfl)
  have yb3 := (cell_of_heap hk 3).trans (show _ = some (.int .u64 0) from rfl)
  have ybf := frozen_of_heap hk
  have ybl := (Array.getElem?_eq_some_iff.1 hk).1
  clear hk
  go_wp2_with fail
  refine (sopen_bad (ck := b1) (n := 0) (by decide) (by decide) (H.out.re H.out.hd.bx) Ab2.out.inn Aa.out.inn Ay.out (by simp [seaT])).mono ?_
  rintro e w7 ⟨rfl, hroom⟩
  clear H yb0 yb1 yb2 yb3 ybf ybl
  have H := hid hroom
  clear hroom
  have hk := Hd.nth 3 H.out.hd rfl
  have yb0 := (cell_of_heap hk 0).trans (show _ = some (.int .i64 b1) from rfl)
  have yb1 := (cell_of_heap hk 1).trans (show _ = some (.int .i64 b2) from rfl)
  have yb2 := (cell_of_heap hk 2).trans (show _ = some (.int .i64 a) from rfl)
  have yb3 := (cell_of_heap hk 3).trans (show _ = some (.int .u64 0) from rfl)
  have ybf := frozen_of_heap hk
  have ybl := (Array.getElem?_eq_some_iff.1 hk).1
  clear hk
  go_wp2_with fail
  refine (sopen_known (ck := b1) (n := 0) 1 rfl (by decide) (by decide) (H.out.re H.out.hd.bx) Ab2.out.inn Aa.out.inn Ax.out Ac1.out).mono ?_
  rintro e w8 ⟨rfl, hroom⟩
  clear H yb0 yb1 yb2 yb3 ybf ybl
  have H := hid hroom
  clear hroom
  go_wp2_with fail
  refine (sopen_bad (ck := b1) (n := 1) (by decide) (by decide) (H.out.re H.out.hd.bx) Ab2.out.inn Ac1.out.inn Ax.out (by simp [seaT])).mono ?_
  rintro e w9 ⟨rfl, hroom⟩
  clear H
  have H := hid hroom
  clear hroom
  have hk := Hd.nth 1 H.out.hd rfl
  have yu0 := (cell_of_heap hk 0).trans (show _ = some (.int .i64 b1) from rfl)
  have yu1 := (cell_of_heap hk 1).trans (show _ = some (.int .i64 b2) from rfl)
  have yu2 := (cell_of_heap hk 2).trans (show _ = some (.int .i64 c1) from rfl)
  have yu3 := (cell_of_heap hk 3).trans (show _ = some (.int .u64 1) from rfl)
  have yuf := frozen_of_heap hk
  have yul := (Array.getElem?_eq_some_iff.1 hk).1
  clear hk
  go_wp2_with fail
  refine (sopen_known (ck := b1) (n := 1) 2 rfl (by decide) (by decide) (H.out.re H.out.hd.bx) Ab2.out.inn Ac1.out.inn Ay.out Ad1.out).mono ?_
  rintro e w10 ⟨rfl, hroom⟩
  clear H yu0 yu1 yu2 yu3 yuf yul
  have H := hid hroom
  clear hroom
  go_wp2_with fail
  refine (sopen_bad (ck := b1) (n := 2) (by decide) (by decide) (H.out.re H.out.hd.bx) Ab2.out.inn Ad1.out.inn Ay.out (by simp [seaT])).mono ?_
  rintro e w11 ⟨rfl, hroom⟩
  clear H
  have H := hid hroom
  clear hroom
  have hk := Hd.nth 3 H.out.hd rfl
  have yu0 := (cell_of_heap hk 0).trans (show _ = some (.int .i64 b1) from rfl)
  have yu1 := (cell_of_heap hk 1).trans (show _ = some (.int .i64 b2) from rfl)
  have yu2 := (cell_of_heap hk 2).trans (show _ = some (.int .i64 c1) from rfl)
  have yu3 := (cell_of_heap hk 3).trans (show _ = some (.int .u64 1) from rfl)
  have yuf := frozen_of_heap hk
  have yul := (Array.getElem?_eq_some_iff.1 hk).1
  clear hk
  have hk := Hd.nth 6 H.out.hd rfl
  have yc0 := (cell_of_heap hk 0).trans (show _ = some (.int .i64 b1) from rfl)
  have yc1 := (cell_of_heap hk 1).trans (show _ = some (.int .i64 b2) from rfl)
  have yc2 := (cell_of_heap hk 2).trans (show _ = some (.int .i64 c1) from rfl)
  have yc3 := (cell_of_heap hk 3).trans (show _ = some (.int .u64 1) from rfl)
  have ycf := frozen_of_heap hk
  have ycl := (Array.getElem?_eq_some_iff.1 hk).1
  clear hk
  have hk := Hd.nth 1 H.out.hd rfl
  have yw0 := (cell_of_heap hk 0).trans (show _ = some (.int .i64 b1) from rfl)
  have yw1 := (cell_of_heap hk 1).trans (show _ = some (.int .i64 b2) from rfl)
  have yw2 := (cell_of_heap hk 2).trans (show _ = some (.int .i64 d1) from rfl)
  have yw3 := (cell_of_heap hk 3).trans (show _ = some (.int .u64 2) from rfl)
  have ywf := frozen_of_heap hk
  have ywl := (Array.getElem?_eq_some_iff.1 hk).1
  clear hk
  have hk := Hd.nth 5 H.out.hd rfl
  have yd0 := (cell_of_heap hk 0).trans (show _ = some (.int .i64 b1) from rfl)
  have yd1 := (cell_of_heap hk 1).trans (show _ = some (.int .i64 b2) from rfl)
  have yd2 := (cell_of_heap hk 2).trans (show _ = some (.int .i64 d1) from rfl)
  have yd3 := (cell_of_heap hk 3).trans (show _ = some (.int .u64 2) from rfl)
  have ydf := frozen_of_heap hk
  have ydl := (Array.getElem?_eq_some_iff.1 hk).1
  clear hk
  have e0 := eq_Sy ⟨b1, b2, c1, 1⟩ ⟨b1, b2, c1, 1⟩
  rw [show decide ((⟨b1, b2, c1, 1⟩ : Sy) = ⟨b1, b2, c1, 1⟩) = true from decide_eq_true rfl] at e0
  dsimp only at e0
  have e1 := eq_Sy ⟨b1, b2, d1, 2⟩ ⟨b1, b2, d1, 2⟩
  rw [show decide ((⟨b1, b2, d1, 2⟩ : Sy) = ⟨b1, b2, d1, 2⟩) = true from decide_eq_true rfl] at e1
  dsimp only at e1
  go_wp2_with fail
  refine (fixed7_calls (H.out.re H.out.hd.bx).hd).mono ?_
  rintro e w' ⟨rfl, h5⟩
  have H5 := hid h5
  clear h5
  go_wp2_with fail
  go_ret
  exact ⟨rfl, H5.out.below⟩
end Go.Proofs.Ytbaliaodioflfaa
