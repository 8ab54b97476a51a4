/-
  AeadOpens returns true, and writes nothing that was there. For every input.
-/
import Derived.Test.YthbailkfhmkfoaaAeadPut
import Derived.Test.YthbailkfhmkfoaaFixE
import Derived.Test.YthbailkfhmkfoaaArgsC
namespace Go.Proofs.Ythbailkfhmkfoaa
open Go.RowKit

set_option maxRecDepth 100000 in
set_option maxHeartbeats 64000000 in
theorem aeadOpens_walk (ad : Option Addr) (len cap : Nat) (ts : List T) (x0 x1 x2 x3 y0 y1 y2 y3 : Int) (W : World) (hlen : len = ts.length) (hmax : len ≤ maxLen) (hts : TermsIn W ad ts)
    (hbx : (0 ≤ x0 ∧ x0 ≤ 255) ∧ (0 ≤ x1 ∧ x1 ≤ 255) ∧ (0 ≤ x2 ∧ x2 ≤ 255) ∧ (0 ≤ x3 ∧ x3 ≤ 255)) (hby : (0 ≤ y0 ∧ y0 ≤ 255) ∧ (0 ≤ y1 ∧ y1 ≤ 255) ∧ (0 ≤ y2 ∧ y2 ≤ 255) ∧ (0 ≤ y3 ∧ y3 ≤ 255)) :
    Calls Try.prog 18 #[.slice ad len cap, .agg #[.int .u8 x0, .int .u8 x1, .int .u8 x2, .int .u8 x3], .agg #[.int .u8 y0, .int .u8 y1, .int .u8 y2, .int .u8 y3]] W fun e w' => e = .returned (.bool true) ∧ Below W.heap.size W w' := by
  obtain ⟨hx0, hx1, hx2, hx3⟩ := hbx
  obtain ⟨hy0, hy1, hy2, hy3⟩ := hby
  have Hx0 := hid hx0
  have Hx1 := hid hx1
  have Hx2 := hid hx2
  have Hx3 := hid hx3
  have Hy0 := hid hy0
  have Hy1 := hid hy1
  have Hy2 := hid hy2
  have Hy3 := hid hy3
  clear hx0 hx1 hx2 hx3 hy0 hy1 hy2 hy3
  have Hlen := hid hlen
  have Hts := hid hts
  have Hmax := hid hmax
  clear hts hlen hmax
  go_enter Try.func18, Try.ntmps18
  go_wp2_with fail
  refine (stores_calls (((Hd.refl W).box _).box _) ad len cap ts Hlen.out Hmax.out Hts.out 20 (by decide)).mono ?_
  rintro e w1 ⟨b, b', L, rfl, hg, hl, hd⟩
  rw [show (W.alloc (.cells #[.int .u8 x0, .int .u8 x1, .int .u8 x2, .int .u8 x3] 41 (0, 0))).heap.size = W.heap.size + 1 from by simp] at hd
  have H := hid (Room.of (N := 20) hd (by omega))
  clear hd hg
  go_wp2_with fail
  refine (len_at H.out.hd).mono ?_
  rintro e w' ⟨rfl, rfl⟩
  by_cases hL : L.length = 0
  · have e0 : ((L.length : Int) == 0) = true := by simp [hL]
    have e1 : (L.length == 0) = true := by simp [hL]
    clear hL
    go_wp2_with fail
    refine (fixed5_calls H.out.hd).mono ?_
    rintro e w' ⟨rfl, h5⟩
    have H5 := hid h5
    clear h5
    go_wp2_with fail
    go_ret
    exact ⟨rfl, H5.out.below⟩
  have e0 : ((L.length : Int) == 0) = false := by simpa using hL
  have e1 : (L.length == 0) = false := by simpa using hL
  have hL1 : (1 : Int) ≤ (L.length : Int) := by omega
  clear hL
  rcases put_or (m := 1000) (fourT x0 x1 x2 x3) H.out.good (by have := H.out.len; omega) with hq | ⟨ra, Lx, hq, hat, hext, hg2, hl2⟩
  · skip
    have Hqx := hid hq
    clear hq
    have hkx := H.out.hd.fourth.blk
    have hky := H.out.hd.third.blk
    have cx0 := (cell_of_heap hkx 0).trans (show _ = some (.int .u8 x0) from rfl)
    have cx1 := (cell_of_heap hkx 1).trans (show _ = some (.int .u8 x1) from rfl)
    have cx2 := (cell_of_heap hkx 2).trans (show _ = some (.int .u8 x2) from rfl)
    have cx3 := (cell_of_heap hkx 3).trans (show _ = some (.int .u8 x3) from rfl)
    have ltx := (Array.getElem?_eq_some_iff.1 hkx).1
    have cy0 := (cell_of_heap hky 0).trans (show _ = some (.int .u8 y0) from rfl)
    have cy1 := (cell_of_heap hky 1).trans (show _ = some (.int .u8 y1) from rfl)
    have cy2 := (cell_of_heap hky 2).trans (show _ = some (.int .u8 y2) from rfl)
    have cy3 := (cell_of_heap hky 3).trans (show _ = some (.int .u8 y3) from rfl)
    have lty := (Array.getElem?_eq_some_iff.1 hky).1
    clear hkx hky
    go_wp2_with fail
    refine (put5_calls x0 x1 x2 x3 Hx0.out Hx1.out Hx2.out Hx3.out Hqx H.out.hd).mono ?_
    rintro e w2 ⟨rfl, h1⟩
    replace H := hid (Room.of (N := 22) h1 (by first | omega | (have := Hlx.out; omega) | (have := Hly.out; omega)))
    clear h1
    clear ltx lty cx0 cx1 cx2 cx3 cy0 cy1 cy2 cy3
    go_wp2_with fail
    refine (len_at H.out.hd).mono ?_
    rintro e w' ⟨rfl, rfl⟩
    have hL2 : (1 : Int) ≤ (L.length : Int) := by omega
    have hlb : (L.length : Int) ≤ 1000 := by have := H.out.len; omega
    have f0 : decide ((L.length : Int) < 1) = false := by simp; omega
    have hbox := H.out.hd.third.blk
    have c0 : ∀ x : Later w2, x.w.cell? ⟨W.heap.size + 1, 0, none⟩ = some (.int .u8 y0) := fun x => x.cell (by rw [cell_of_heap hbox]; rfl)
    obtain ⟨y0l, y0u⟩ := Hy0.out
    have c1 : ∀ x : Later w2, x.w.cell? ⟨W.heap.size + 1, 1, none⟩ = some (.int .u8 y1) := fun x => x.cell (by rw [cell_of_heap hbox]; rfl)
    obtain ⟨y1l, y1u⟩ := Hy1.out
    have c2 : ∀ x : Later w2, x.w.cell? ⟨W.heap.size + 1, 2, none⟩ = some (.int .u8 y2) := fun x => x.cell (by rw [cell_of_heap hbox]; rfl)
    obtain ⟨y2l, y2u⟩ := Hy2.out
    have c3 : ∀ x : Later w2, x.w.cell? ⟨W.heap.size + 1, 3, none⟩ = some (.int .u8 y3) := fun x => x.cell (by rw [cell_of_heap hbox]; rfl)
    obtain ⟨y3l, y3u⟩ := Hy3.out
    clear hbox
    have m0 := mod_range y0 hL2
    obtain ⟨k, hk⟩ : ∃ x, x = 1 + y0 % (L.length : Int) := ⟨_, rfl⟩
    have ik : In L k := ⟨by rw [hk]; omega, by rw [hk]; omega⟩
    have Ik := hid ik
    have Hk := hid hk
    have m1 := mod_range y1 hL2
    obtain ⟨q, hq⟩ : ∃ x, x = 1 + y1 % (L.length : Int) := ⟨_, rfl⟩
    have iq : In L q := ⟨by rw [hq]; omega, by rw [hq]; omega⟩
    have Iq := hid iq
    have Hq := hid hq
    have m2 := mod_range y2 hL2
    obtain ⟨c, hc⟩ : ∃ x, x = 1 + y2 % (L.length : Int) := ⟨_, rfl⟩
    have ic : In L c := ⟨by rw [hc]; omega, by rw [hc]; omega⟩
    have Ic := hid ic
    have Hc := hid hc
    have m3 : 0 ≤ y3 % 4 ∧ y3 % 4 < 4 := by omega
    obtain ⟨m3l, m3u⟩ := m3
    clear hk ik hq iq hc ic
    go_wp2_with fail
    refine wp_region_calm (by kernel_rfl) (by kernel_rfl) ?_
    repeat (go_big_quiet_step (fail))
    refine wpQuiet_nil ?_
    intro wz hwz
    obtain ⟨⟨wz, hbz⟩, rfl⟩ := hwz
    replace H := hid (H.out.still hbz)
    rw [show 1 + y0 % (L.length : Int) = k from Hk.out.symm]
    rw [show 1 + y1 % (L.length : Int) = q from Hq.out.symm]
    rw [show 1 + y2 % (L.length : Int) = c from Hc.out.symm]
    obtain ⟨n, hn⟩ : ∃ n, y3 % 4 = n := ⟨_, rfl⟩
    rw [hn]
    clear hbz c0 c1 c2 c3 Hk m0 Hq m1 Hc m2 m3l m3u hn hL2 f0 hlb
    obtain ⟨t, ht⟩ := Ic.out.term
    have Aty := hid ht
    clear ht
    obtain ⟨tk, ts, tn, ta, tb, tc⟩ := t
    go_wp2_with fail
    refine (get_at H.out.hd Aty.out).mono ?_
    dsimp only
    rintro e w6 ⟨rfl, hb1⟩
    replace H := hid ((H.out.still hb1).box (.cells #[.int .i64 tk, .string ts, .int .u64 tn, .int .i64 ta, .int .i64 tb, .int .i64 tc] 49))
    clear hb1
    go_wp2_with fail
    by_cases e0 : tk = 10
    case neg =>
      have g0 : (tk == 10) = false := by simpa using e0
      have En := hid e0
      clear e0
      refine (aopen_bad H.out Ik.out Iq.out Aty.out (fun h => En.out h.1)).mono ?_
      rintro e w7 ⟨rfl, hroom⟩
      replace H := hid hroom
      clear hroom
      have hk0 := H.out.hd.swap.blk
      have d0 := (cell_of_heap hk0 0).trans (show _ = some (.int .i64 tk) from rfl)
      have d1 := (cell_of_heap hk0 1).trans (show _ = some (.string ts) from rfl)
      have d2 := (cell_of_heap hk0 2).trans (show _ = some (.int .u64 tn) from rfl)
      have d3 := (cell_of_heap hk0 3).trans (show _ = some (.int .i64 ta) from rfl)
      have d4 := (cell_of_heap hk0 4).trans (show _ = some (.int .i64 tb) from rfl)
      have d5 := (cell_of_heap hk0 5).trans (show _ = some (.int .i64 tc) from rfl)
      have ltd := (Array.getElem?_eq_some_iff.1 hk0).1
      clear hk0
      go_wp2_with fail
      refine (len_at H.out.hd).mono ?_
      rintro e w' ⟨rfl, rfl⟩
      go_wp2_with fail
      refine (fixed5_calls H.out.hd).mono ?_
      rintro e w' ⟨rfl, h5⟩
      have H5 := hid h5
      clear h5
      go_wp2_with fail
      go_ret
      exact ⟨rfl, H5.out.below⟩
    have g0 : (tk == 10) = true := by simpa using e0
    have En0 := hid e0
    clear e0
    by_cases e1 : ta = k
    case neg =>
      have g1 : (ta == k) = false := by simpa using e1
      have En := hid e1
      clear e1
      refine (aopen_bad H.out Ik.out Iq.out Aty.out (fun h => En.out h.2.1)).mono ?_
      rintro e w7 ⟨rfl, hroom⟩
      replace H := hid hroom
      clear hroom
      have hk0 := H.out.hd.swap.blk
      have d0 := (cell_of_heap hk0 0).trans (show _ = some (.int .i64 tk) from rfl)
      have d1 := (cell_of_heap hk0 1).trans (show _ = some (.string ts) from rfl)
      have d2 := (cell_of_heap hk0 2).trans (show _ = some (.int .u64 tn) from rfl)
      have d3 := (cell_of_heap hk0 3).trans (show _ = some (.int .i64 ta) from rfl)
      have d4 := (cell_of_heap hk0 4).trans (show _ = some (.int .i64 tb) from rfl)
      have d5 := (cell_of_heap hk0 5).trans (show _ = some (.int .i64 tc) from rfl)
      have ltd := (Array.getElem?_eq_some_iff.1 hk0).1
      clear hk0
      go_wp2_with fail
      refine (len_at H.out.hd).mono ?_
      rintro e w' ⟨rfl, rfl⟩
      go_wp2_with fail
      refine (fixed5_calls H.out.hd).mono ?_
      rintro e w' ⟨rfl, h5⟩
      have H5 := hid h5
      clear h5
      go_wp2_with fail
      go_ret
      exact ⟨rfl, H5.out.below⟩
    have g1 : (ta == k) = true := by simpa using e1
    have En1 := hid e1
    clear e1
    by_cases e2 : tn = n
    case neg =>
      have g2 : (tn == n) = false := by simpa using e2
      have En := hid e2
      clear e2
      refine (aopen_bad H.out Ik.out Iq.out Aty.out (fun h => En.out h.2.2.1)).mono ?_
      rintro e w7 ⟨rfl, hroom⟩
      replace H := hid hroom
      clear hroom
      have hk0 := H.out.hd.swap.blk
      have d0 := (cell_of_heap hk0 0).trans (show _ = some (.int .i64 tk) from rfl)
      have d1 := (cell_of_heap hk0 1).trans (show _ = some (.string ts) from rfl)
      have d2 := (cell_of_heap hk0 2).trans (show _ = some (.int .u64 tn) from rfl)
      have d3 := (cell_of_heap hk0 3).trans (show _ = some (.int .i64 ta) from rfl)
      have d4 := (cell_of_heap hk0 4).trans (show _ = some (.int .i64 tb) from rfl)
      have d5 := (cell_of_heap hk0 5).trans (show _ = some (.int .i64 tc) from rfl)
      have ltd := (Array.getElem?_eq_some_iff.1 hk0).1
      clear hk0
      go_wp2_with fail
      refine (len_at H.out.hd).mono ?_
      rintro e w' ⟨rfl, rfl⟩
      go_wp2_with fail
      refine (fixed5_calls H.out.hd).mono ?_
      rintro e w' ⟨rfl, h5⟩
      have H5 := hid h5
      clear h5
      go_wp2_with fail
      go_ret
      exact ⟨rfl, H5.out.below⟩
    have g2 : (tn == n) = true := by simpa using e2
    have En2 := hid e2
    clear e2
    by_cases e3 : tb = q
    case neg =>
      have g3 : (tb == q) = false := by simpa using e3
      have En := hid e3
      clear e3
      refine (aopen_bad H.out Ik.out Iq.out Aty.out (fun h => En.out h.2.2.2)).mono ?_
      rintro e w7 ⟨rfl, hroom⟩
      replace H := hid hroom
      clear hroom
      have hk0 := H.out.hd.swap.blk
      have d0 := (cell_of_heap hk0 0).trans (show _ = some (.int .i64 tk) from rfl)
      have d1 := (cell_of_heap hk0 1).trans (show _ = some (.string ts) from rfl)
      have d2 := (cell_of_heap hk0 2).trans (show _ = some (.int .u64 tn) from rfl)
      have d3 := (cell_of_heap hk0 3).trans (show _ = some (.int .i64 ta) from rfl)
      have d4 := (cell_of_heap hk0 4).trans (show _ = some (.int .i64 tb) from rfl)
      have d5 := (cell_of_heap hk0 5).trans (show _ = some (.int .i64 tc) from rfl)
      have ltd := (Array.getElem?_eq_some_iff.1 hk0).1
      clear hk0
      go_wp2_with fail
      refine (len_at H.out.hd).mono ?_
      rintro e w' ⟨rfl, rfl⟩
      go_wp2_with fail
      refine (fixed5_calls H.out.hd).mono ?_
      rintro e w' ⟨rfl, h5⟩
      have H5 := hid h5
      clear h5
      go_wp2_with fail
      go_ret
      exact ⟨rfl, H5.out.below⟩
    have g3 : (tb == q) = true := by simpa using e3
    have En3 := hid e3
    clear e3
    have hAs : At L c (seaT k n q tc) := by
      have hm := (Aty.out.may H.out.good).2.2.1
      have ha := Aty.out
      simp only [T.only, many] at hm
      have h1 := En0.out
      have h2 := En1.out
      have h3 := En2.out
      have h4 := En3.out
      subst h1 h2 h3 h4
      have hs : ts = ⟨#[]⟩ := by simpa using congrArg T.s hm
      subst hs
      exact ha
    have Aas := hid hAs
    clear hAs
    refine (aopen_ok H.out Ik.out Iq.out Aas.out).mono ?_
    rintro e w7 ⟨rfl, hroom⟩
    replace H := hid hroom
    clear hroom
    have hk0 := H.out.hd.swap.blk
    have d0 := (cell_of_heap hk0 0).trans (show _ = some (.int .i64 tk) from rfl)
    have d1 := (cell_of_heap hk0 1).trans (show _ = some (.string ts) from rfl)
    have d2 := (cell_of_heap hk0 2).trans (show _ = some (.int .u64 tn) from rfl)
    have d3 := (cell_of_heap hk0 3).trans (show _ = some (.int .i64 ta) from rfl)
    have d4 := (cell_of_heap hk0 4).trans (show _ = some (.int .i64 tb) from rfl)
    have d5 := (cell_of_heap hk0 5).trans (show _ = some (.int .i64 tc) from rfl)
    have ltd := (Array.getElem?_eq_some_iff.1 hk0).1
    clear hk0
    go_wp2_with fail
    refine (len_at H.out.hd).mono ?_
    rintro e w' ⟨rfl, rfl⟩
    go_wp2_with fail
    refine (fixed5_calls H.out.hd).mono ?_
    rintro e w' ⟨rfl, h5⟩
    have H5 := hid h5
    clear h5
    go_wp2_with fail
    go_ret
    exact ⟨rfl, H5.out.below⟩
  · skip
    have Hqx := hid hq
    have Ax := hid hat
    have Ex := hid hext
    have Hlx := hid hl2
    have Hkx := hid (put_known (m := 1000) hg2 hat)
    have rx1 := hat.lo
    clear hq hat hext hl2 hg2
    have hkx := H.out.hd.fourth.blk
    have hky := H.out.hd.third.blk
    have cx0 := (cell_of_heap hkx 0).trans (show _ = some (.int .u8 x0) from rfl)
    have cx1 := (cell_of_heap hkx 1).trans (show _ = some (.int .u8 x1) from rfl)
    have cx2 := (cell_of_heap hkx 2).trans (show _ = some (.int .u8 x2) from rfl)
    have cx3 := (cell_of_heap hkx 3).trans (show _ = some (.int .u8 x3) from rfl)
    have ltx := (Array.getElem?_eq_some_iff.1 hkx).1
    have cy0 := (cell_of_heap hky 0).trans (show _ = some (.int .u8 y0) from rfl)
    have cy1 := (cell_of_heap hky 1).trans (show _ = some (.int .u8 y1) from rfl)
    have cy2 := (cell_of_heap hky 2).trans (show _ = some (.int .u8 y2) from rfl)
    have cy3 := (cell_of_heap hky 3).trans (show _ = some (.int .u8 y3) from rfl)
    have lty := (Array.getElem?_eq_some_iff.1 hky).1
    clear hkx hky
    go_wp2_with fail
    refine (put5_calls x0 x1 x2 x3 Hx0.out Hx1.out Hx2.out Hx3.out Hqx H.out.hd).mono ?_
    rintro e w2 ⟨rfl, h1⟩
    replace H := hid (Room.of (N := 22) h1 (by first | omega | (have := Hlx.out; omega) | (have := Hly.out; omega)))
    clear h1
    clear ltx lty cx0 cx1 cx2 cx3 cy0 cy1 cy2 cy3
    go_wp2_with fail
    refine (len_at H.out.hd).mono ?_
    rintro e w' ⟨rfl, rfl⟩
    have hL2 : (1 : Int) ≤ (Lx.length : Int) := by have := Ax.out.lo; have := Ax.out.hi; omega
    have hlb : (Lx.length : Int) ≤ 1000 := by have := H.out.len; omega
    have f0 : decide ((Lx.length : Int) < 1) = false := by simp; omega
    have hbox := H.out.hd.third.blk
    have c0 : ∀ x : Later w2, x.w.cell? ⟨W.heap.size + 1, 0, none⟩ = some (.int .u8 y0) := fun x => x.cell (by rw [cell_of_heap hbox]; rfl)
    obtain ⟨y0l, y0u⟩ := Hy0.out
    have c1 : ∀ x : Later w2, x.w.cell? ⟨W.heap.size + 1, 1, none⟩ = some (.int .u8 y1) := fun x => x.cell (by rw [cell_of_heap hbox]; rfl)
    obtain ⟨y1l, y1u⟩ := Hy1.out
    have c2 : ∀ x : Later w2, x.w.cell? ⟨W.heap.size + 1, 2, none⟩ = some (.int .u8 y2) := fun x => x.cell (by rw [cell_of_heap hbox]; rfl)
    obtain ⟨y2l, y2u⟩ := Hy2.out
    have c3 : ∀ x : Later w2, x.w.cell? ⟨W.heap.size + 1, 3, none⟩ = some (.int .u8 y3) := fun x => x.cell (by rw [cell_of_heap hbox]; rfl)
    obtain ⟨y3l, y3u⟩ := Hy3.out
    clear hbox
    have m0 := mod_range y0 hL2
    obtain ⟨k, hk⟩ : ∃ x, x = 1 + y0 % (Lx.length : Int) := ⟨_, rfl⟩
    have ik : In Lx k := ⟨by rw [hk]; omega, by rw [hk]; omega⟩
    have Ik := hid ik
    have Hk := hid hk
    have m1 := mod_range y1 hL2
    obtain ⟨q, hq⟩ : ∃ x, x = 1 + y1 % (Lx.length : Int) := ⟨_, rfl⟩
    have iq : In Lx q := ⟨by rw [hq]; omega, by rw [hq]; omega⟩
    have Iq := hid iq
    have Hq := hid hq
    have m2 := mod_range y2 hL2
    obtain ⟨c, hc⟩ : ∃ x, x = 1 + y2 % (Lx.length : Int) := ⟨_, rfl⟩
    have ic : In Lx c := ⟨by rw [hc]; omega, by rw [hc]; omega⟩
    have Ic := hid ic
    have Hc := hid hc
    have m3 : 0 ≤ y3 % 4 ∧ y3 % 4 < 4 := by omega
    obtain ⟨m3l, m3u⟩ := m3
    clear hk ik hq iq hc ic
    go_wp2_with fail
    refine wp_region_calm (by kernel_rfl) (by kernel_rfl) ?_
    repeat (go_big_quiet_step (fail))
    refine wpQuiet_nil ?_
    intro wz hwz
    obtain ⟨⟨wz, hbz⟩, rfl⟩ := hwz
    replace H := hid (H.out.still hbz)
    rw [show 1 + y0 % (Lx.length : Int) = k from Hk.out.symm]
    rw [show 1 + y1 % (Lx.length : Int) = q from Hq.out.symm]
    rw [show 1 + y2 % (Lx.length : Int) = c from Hc.out.symm]
    obtain ⟨n, hn⟩ : ∃ n, y3 % 4 = n := ⟨_, rfl⟩
    rw [hn]
    clear hbz c0 c1 c2 c3 Hk m0 Hq m1 Hc m2 m3l m3u hn hL2 f0 hlb
    obtain ⟨t, ht⟩ := Ic.out.term
    have Aty := hid ht
    clear ht
    obtain ⟨tk, ts, tn, ta, tb, tc⟩ := t
    go_wp2_with fail
    refine (get_at H.out.hd Aty.out).mono ?_
    dsimp only
    rintro e w6 ⟨rfl, hb1⟩
    replace H := hid ((H.out.still hb1).box (.cells #[.int .i64 tk, .string ts, .int .u64 tn, .int .i64 ta, .int .i64 tb, .int .i64 tc] 49))
    clear hb1
    go_wp2_with fail
    by_cases e0 : tk = 10
    case neg =>
      have g0 : (tk == 10) = false := by simpa using e0
      have En := hid e0
      clear e0
      refine (aopen_bad H.out Ik.out Iq.out Aty.out (fun h => En.out h.1)).mono ?_
      rintro e w7 ⟨rfl, hroom⟩
      replace H := hid hroom
      clear hroom
      have hk0 := H.out.hd.swap.blk
      have d0 := (cell_of_heap hk0 0).trans (show _ = some (.int .i64 tk) from rfl)
      have d1 := (cell_of_heap hk0 1).trans (show _ = some (.string ts) from rfl)
      have d2 := (cell_of_heap hk0 2).trans (show _ = some (.int .u64 tn) from rfl)
      have d3 := (cell_of_heap hk0 3).trans (show _ = some (.int .i64 ta) from rfl)
      have d4 := (cell_of_heap hk0 4).trans (show _ = some (.int .i64 tb) from rfl)
      have d5 := (cell_of_heap hk0 5).trans (show _ = some (.int .i64 tc) from rfl)
      have ltd := (Array.getElem?_eq_some_iff.1 hk0).1
      clear hk0
      go_wp2_with fail
      refine (len_at H.out.hd).mono ?_
      rintro e w' ⟨rfl, rfl⟩
      go_wp2_with fail
      refine (fixed5_calls H.out.hd).mono ?_
      rintro e w' ⟨rfl, h5⟩
      have H5 := hid h5
      clear h5
      go_wp2_with fail
      go_ret
      exact ⟨rfl, H5.out.below⟩
    have g0 : (tk == 10) = true := by simpa using e0
    have En0 := hid e0
    clear e0
    by_cases e1 : ta = k
    case neg =>
      have g1 : (ta == k) = false := by simpa using e1
      have En := hid e1
      clear e1
      refine (aopen_bad H.out Ik.out Iq.out Aty.out (fun h => En.out h.2.1)).mono ?_
      rintro e w7 ⟨rfl, hroom⟩
      replace H := hid hroom
      clear hroom
      have hk0 := H.out.hd.swap.blk
      have d0 := (cell_of_heap hk0 0).trans (show _ = some (.int .i64 tk) from rfl)
      have d1 := (cell_of_heap hk0 1).trans (show _ = some (.string ts) from rfl)
      have d2 := (cell_of_heap hk0 2).trans (show _ = some (.int .u64 tn) from rfl)
      have d3 := (cell_of_heap hk0 3).trans (show _ = some (.int .i64 ta) from rfl)
      have d4 := (cell_of_heap hk0 4).trans (show _ = some (.int .i64 tb) from rfl)
      have d5 := (cell_of_heap hk0 5).trans (show _ = some (.int .i64 tc) from rfl)
      have ltd := (Array.getElem?_eq_some_iff.1 hk0).1
      clear hk0
      go_wp2_with fail
      refine (len_at H.out.hd).mono ?_
      rintro e w' ⟨rfl, rfl⟩
      go_wp2_with fail
      refine (fixed5_calls H.out.hd).mono ?_
      rintro e w' ⟨rfl, h5⟩
      have H5 := hid h5
      clear h5
      go_wp2_with fail
      go_ret
      exact ⟨rfl, H5.out.below⟩
    have g1 : (ta == k) = true := by simpa using e1
    have En1 := hid e1
    clear e1
    by_cases e2 : tn = n
    case neg =>
      have g2 : (tn == n) = false := by simpa using e2
      have En := hid e2
      clear e2
      refine (aopen_bad H.out Ik.out Iq.out Aty.out (fun h => En.out h.2.2.1)).mono ?_
      rintro e w7 ⟨rfl, hroom⟩
      replace H := hid hroom
      clear hroom
      have hk0 := H.out.hd.swap.blk
      have d0 := (cell_of_heap hk0 0).trans (show _ = some (.int .i64 tk) from rfl)
      have d1 := (cell_of_heap hk0 1).trans (show _ = some (.string ts) from rfl)
      have d2 := (cell_of_heap hk0 2).trans (show _ = some (.int .u64 tn) from rfl)
      have d3 := (cell_of_heap hk0 3).trans (show _ = some (.int .i64 ta) from rfl)
      have d4 := (cell_of_heap hk0 4).trans (show _ = some (.int .i64 tb) from rfl)
      have d5 := (cell_of_heap hk0 5).trans (show _ = some (.int .i64 tc) from rfl)
      have ltd := (Array.getElem?_eq_some_iff.1 hk0).1
      clear hk0
      go_wp2_with fail
      refine (len_at H.out.hd).mono ?_
      rintro e w' ⟨rfl, rfl⟩
      go_wp2_with fail
      refine (fixed5_calls H.out.hd).mono ?_
      rintro e w' ⟨rfl, h5⟩
      have H5 := hid h5
      clear h5
      go_wp2_with fail
      go_ret
      exact ⟨rfl, H5.out.below⟩
    have g2 : (tn == n) = true := by simpa using e2
    have En2 := hid e2
    clear e2
    by_cases e3 : tb = q
    case neg =>
      have g3 : (tb == q) = false := by simpa using e3
      have En := hid e3
      clear e3
      refine (aopen_bad H.out Ik.out Iq.out Aty.out (fun h => En.out h.2.2.2)).mono ?_
      rintro e w7 ⟨rfl, hroom⟩
      replace H := hid hroom
      clear hroom
      have hk0 := H.out.hd.swap.blk
      have d0 := (cell_of_heap hk0 0).trans (show _ = some (.int .i64 tk) from rfl)
      have d1 := (cell_of_heap hk0 1).trans (show _ = some (.string ts) from rfl)
      have d2 := (cell_of_heap hk0 2).trans (show _ = some (.int .u64 tn) from rfl)
      have d3 := (cell_of_heap hk0 3).trans (show _ = some (.int .i64 ta) from rfl)
      have d4 := (cell_of_heap hk0 4).trans (show _ = some (.int .i64 tb) from rfl)
      have d5 := (cell_of_heap hk0 5).trans (show _ = some (.int .i64 tc) from rfl)
      have ltd := (Array.getElem?_eq_some_iff.1 hk0).1
      clear hk0
      go_wp2_with fail
      refine (len_at H.out.hd).mono ?_
      rintro e w' ⟨rfl, rfl⟩
      go_wp2_with fail
      refine (fixed5_calls H.out.hd).mono ?_
      rintro e w' ⟨rfl, h5⟩
      have H5 := hid h5
      clear h5
      go_wp2_with fail
      go_ret
      exact ⟨rfl, H5.out.below⟩
    have g3 : (tb == q) = true := by simpa using e3
    have En3 := hid e3
    clear e3
    have hAs : At Lx c (seaT k n q tc) := by
      have hm := (Aty.out.may H.out.good).2.2.1
      have ha := Aty.out
      simp only [T.only, many] at hm
      have h1 := En0.out
      have h2 := En1.out
      have h3 := En2.out
      have h4 := En3.out
      subst h1 h2 h3 h4
      have hs : ts = ⟨#[]⟩ := by simpa using congrArg T.s hm
      subst hs
      exact ha
    have Aas := hid hAs
    clear hAs
    refine (aopen_ok H.out Ik.out Iq.out Aas.out).mono ?_
    rintro e w7 ⟨rfl, hroom⟩
    replace H := hid hroom
    clear hroom
    have hk0 := H.out.hd.swap.blk
    have d0 := (cell_of_heap hk0 0).trans (show _ = some (.int .i64 tk) from rfl)
    have d1 := (cell_of_heap hk0 1).trans (show _ = some (.string ts) from rfl)
    have d2 := (cell_of_heap hk0 2).trans (show _ = some (.int .u64 tn) from rfl)
    have d3 := (cell_of_heap hk0 3).trans (show _ = some (.int .i64 ta) from rfl)
    have d4 := (cell_of_heap hk0 4).trans (show _ = some (.int .i64 tb) from rfl)
    have d5 := (cell_of_heap hk0 5).trans (show _ = some (.int .i64 tc) from rfl)
    have ltd := (Array.getElem?_eq_some_iff.1 hk0).1
    clear hk0
    go_wp2_with fail
    refine (len_at H.out.hd).mono ?_
    rintro e w' ⟨rfl, rfl⟩
    go_wp2_with fail
    refine (fixed5_calls H.out.hd).mono ?_
    rintro e w' ⟨rfl, h5⟩
    have H5 := hid h5
    clear h5
    go_wp2_with fail
    go_ret
    exact ⟨rfl, H5.out.below⟩
end Go.Proofs.Ythbailkfhmkfoaa
