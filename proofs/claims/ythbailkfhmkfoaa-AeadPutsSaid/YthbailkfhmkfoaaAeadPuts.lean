/-
  AeadPuts returns true, and writes nothing that was there. For every input.
-/
import Derived.Test.YthbailkfhmkfoaaAeadPut
import Derived.Test.YthbailkfhmkfoaaFixE
import Derived.Test.YthbailkfhmkfoaaArgsC
namespace Go.Proofs.Ythbailkfhmkfoaa
open Go.RowKit
theorem fourT_iff {x0 x1 x2 x3 y0 y1 y2 y3 : Int} : fourT x0 x1 x2 x3 = fourT y0 y1 y2 y3 ↔ ((((x3 % 4 == y3 % 4) && (x0 % 20 == y0 % 20)) && (x1 % 20 == y1 % 20)) && (x2 % 20 == y2 % 20)) = true := by
  simp only [fourT, sea_inj, Bool.and_eq_true, beq_iff_eq]
  constructor
  · rintro ⟨h1, h2, h3, h4⟩; refine ⟨⟨⟨h1, ?_⟩, ?_⟩, ?_⟩ <;> omega
  · rintro ⟨⟨⟨h1, h2⟩, h3⟩, h4⟩; refine ⟨h1, ?_, ?_, ?_⟩ <;> omega

set_option maxRecDepth 100000 in
set_option maxHeartbeats 64000000 in
theorem aeadPuts_walk (ad : Option Addr) (len cap : Nat) (ts : List T) (x0 x1 x2 x3 y0 y1 y2 y3 : Int) (W : World) (hlen : len = ts.length) (hmax : len ≤ maxLen) (hts : TermsIn W ad ts)
    (hbx : (0 ≤ x0 ∧ x0 ≤ 255) ∧ (0 ≤ x1 ∧ x1 ≤ 255) ∧ (0 ≤ x2 ∧ x2 ≤ 255) ∧ (0 ≤ x3 ∧ x3 ≤ 255)) (hby : (0 ≤ y0 ∧ y0 ≤ 255) ∧ (0 ≤ y1 ∧ y1 ≤ 255) ∧ (0 ≤ y2 ∧ y2 ≤ 255) ∧ (0 ≤ y3 ∧ y3 ≤ 255)) :
    Calls Try.prog 17 #[.slice ad len cap, .agg #[.int .u8 x0, .int .u8 x1, .int .u8 x2, .int .u8 x3], .agg #[.int .u8 y0, .int .u8 y1, .int .u8 y2, .int .u8 y3]] W fun e w' => e = .returned (.bool true) ∧ Below W.heap.size W w' := by
  obtain ⟨hx0, hx1, hx2, hx3⟩ := hbx
  obtain ⟨hy0, hy1, hy2, hy3⟩ := hby
  have Hx0 := hid hx0
  have Hx1 := hid hx1
  have Hx2 := hid hx2
  have Hx3 := hid hx3
  have Hy0 := hid hy0
  have Hy1 := hid hy1
  have Hy2 := hid hy2
  have Hy3 := hid hy3
  clear hx0 hx1 hx2 hx3 hy0 hy1 hy2 hy3
  have Hlen := hid hlen
  have Hts := hid hts
  have Hmax := hid hmax
  clear hts hlen hmax
  go_enter Try.func17, Try.ntmps17
  go_wp2_with fail
  refine (stores_calls (((Hd.refl W).box _).box _) ad len cap ts Hlen.out Hmax.out Hts.out 20 (by decide)).mono ?_
  rintro e w1 ⟨b, b', L, rfl, hg, hl, hd⟩
  rw [show (W.alloc (.cells #[.int .u8 x0, .int .u8 x1, .int .u8 x2, .int .u8 x3] 41 (0, 0))).heap.size = W.heap.size + 1 from by simp] at hd
  have H := hid (Room.of (N := 20) hd (by omega))
  clear hd hg
  go_wp2_with fail
  refine (len_at H.out.hd).mono ?_
  rintro e w' ⟨rfl, rfl⟩
  by_cases hL : L.length = 0
  · have e0 : ((L.length : Int) == 0) = true := by simp [hL]
    have e1 : (L.length == 0) = true := by simp [hL]
    clear hL
    go_wp2_with fail
    refine (fixed5_calls H.out.hd).mono ?_
    rintro e w' ⟨rfl, h5⟩
    have H5 := hid h5
    clear h5
    go_wp2_with fail
    go_ret
    exact ⟨rfl, H5.out.below⟩
  have e0 : ((L.length : Int) == 0) = false := by simpa using hL
  have e1 : (L.length == 0) = false := by simpa using hL
  have hL1 : (1 : Int) ≤ (L.length : Int) := by omega
  clear hL
  rcases put_or (m := 1000) (fourT x0 x1 x2 x3) H.out.good (by have := H.out.len; omega) with hq | ⟨ra, Lx, hq, hat, hext, hg2, hl2⟩
  · skip
    have Hqx := hid hq
    clear hq
    have hkx := H.out.hd.fourth.blk
    have hky := H.out.hd.third.blk
    have cx0 := (cell_of_heap hkx 0).trans (show _ = some (.int .u8 x0) from rfl)
    have cx1 := (cell_of_heap hkx 1).trans (show _ = some (.int .u8 x1) from rfl)
    have cx2 := (cell_of_heap hkx 2).trans (show _ = some (.int .u8 x2) from rfl)
    have cx3 := (cell_of_heap hkx 3).trans (show _ = some (.int .u8 x3) from rfl)
    have ltx := (Array.getElem?_eq_some_iff.1 hkx).1
    have cy0 := (cell_of_heap hky 0).trans (show _ = some (.int .u8 y0) from rfl)
    have cy1 := (cell_of_heap hky 1).trans (show _ = some (.int .u8 y1) from rfl)
    have cy2 := (cell_of_heap hky 2).trans (show _ = some (.int .u8 y2) from rfl)
    have cy3 := (cell_of_heap hky 3).trans (show _ = some (.int .u8 y3) from rfl)
    have lty := (Array.getElem?_eq_some_iff.1 hky).1
    clear hkx hky
    go_wp2_with fail
    refine (put5_calls x0 x1 x2 x3 Hx0.out Hx1.out Hx2.out Hx3.out Hqx H.out.hd).mono ?_
    rintro e w2 ⟨rfl, h1⟩
    replace H := hid (Room.of (N := 22) h1 (by first | omega | (have := Hlx.out; omega) | (have := Hly.out; omega) | (have := Hlx.out; have := Hly.out; omega)))
    clear h1
    clear ltx lty cx0 cx1 cx2 cx3 cy0 cy1 cy2 cy3
    go_wp2_with fail
    refine (len_at H.out.hd).mono ?_
    rintro e w' ⟨rfl, rfl⟩
    have hkx := H.out.hd.fourth.blk
    have hky := H.out.hd.third.blk
    have cx0 := (cell_of_heap hkx 0).trans (show _ = some (.int .u8 x0) from rfl)
    have cx1 := (cell_of_heap hkx 1).trans (show _ = some (.int .u8 x1) from rfl)
    have cx2 := (cell_of_heap hkx 2).trans (show _ = some (.int .u8 x2) from rfl)
    have cx3 := (cell_of_heap hkx 3).trans (show _ = some (.int .u8 x3) from rfl)
    have ltx := (Array.getElem?_eq_some_iff.1 hkx).1
    have cy0 := (cell_of_heap hky 0).trans (show _ = some (.int .u8 y0) from rfl)
    have cy1 := (cell_of_heap hky 1).trans (show _ = some (.int .u8 y1) from rfl)
    have cy2 := (cell_of_heap hky 2).trans (show _ = some (.int .u8 y2) from rfl)
    have cy3 := (cell_of_heap hky 3).trans (show _ = some (.int .u8 y3) from rfl)
    have lty := (Array.getElem?_eq_some_iff.1 hky).1
    clear hkx hky
    go_wp2_with fail
    refine (put5_calls x0 x1 x2 x3 Hx0.out Hx1.out Hx2.out Hx3.out Hqx H.out.hd).mono ?_
    rintro e w3 ⟨rfl, h1⟩
    replace H := hid (Room.of (N := 22) h1 (by first | omega | (have := Hlx.out; omega) | (have := Hly.out; omega) | (have := Hlx.out; have := Hly.out; omega)))
    clear h1
    clear ltx lty cx0 cx1 cx2 cx3 cy0 cy1 cy2 cy3
    go_wp2_with fail
    refine (len_at H.out.hd).mono ?_
    rintro e w' ⟨rfl, rfl⟩
    rcases put_or (m := 1000) (fourT y0 y1 y2 y3) H.out.good (by have := H.out.len; omega) with hq | ⟨rc, Ly, hq, hat, hext, hg2, hl2⟩
    · skip
      have Hqy := hid hq
      clear hq
      have hkx := H.out.hd.fourth.blk
      have hky := H.out.hd.third.blk
      have cx0 := (cell_of_heap hkx 0).trans (show _ = some (.int .u8 x0) from rfl)
      have cx1 := (cell_of_heap hkx 1).trans (show _ = some (.int .u8 x1) from rfl)
      have cx2 := (cell_of_heap hkx 2).trans (show _ = some (.int .u8 x2) from rfl)
      have cx3 := (cell_of_heap hkx 3).trans (show _ = some (.int .u8 x3) from rfl)
      have ltx := (Array.getElem?_eq_some_iff.1 hkx).1
      have cy0 := (cell_of_heap hky 0).trans (show _ = some (.int .u8 y0) from rfl)
      have cy1 := (cell_of_heap hky 1).trans (show _ = some (.int .u8 y1) from rfl)
      have cy2 := (cell_of_heap hky 2).trans (show _ = some (.int .u8 y2) from rfl)
      have cy3 := (cell_of_heap hky 3).trans (show _ = some (.int .u8 y3) from rfl)
      have lty := (Array.getElem?_eq_some_iff.1 hky).1
      clear hkx hky
      go_wp2_with fail
      refine (put5_calls y0 y1 y2 y3 Hy0.out Hy1.out Hy2.out Hy3.out Hqy H.out.hd).mono ?_
      rintro e w4 ⟨rfl, h1⟩
      replace H := hid (Room.of (N := 22) h1 (by first | omega | (have := Hlx.out; omega) | (have := Hly.out; omega) | (have := Hlx.out; have := Hly.out; omega)))
      clear h1
      clear ltx lty cx0 cx1 cx2 cx3 cy0 cy1 cy2 cy3
      have hkx := H.out.hd.fourth.blk
      have hky := H.out.hd.third.blk
      have cx0 := (cell_of_heap hkx 0).trans (show _ = some (.int .u8 x0) from rfl)
      have cx1 := (cell_of_heap hkx 1).trans (show _ = some (.int .u8 x1) from rfl)
      have cx2 := (cell_of_heap hkx 2).trans (show _ = some (.int .u8 x2) from rfl)
      have cx3 := (cell_of_heap hkx 3).trans (show _ = some (.int .u8 x3) from rfl)
      have ltx := (Array.getElem?_eq_some_iff.1 hkx).1
      have cy0 := (cell_of_heap hky 0).trans (show _ = some (.int .u8 y0) from rfl)
      have cy1 := (cell_of_heap hky 1).trans (show _ = some (.int .u8 y1) from rfl)
      have cy2 := (cell_of_heap hky 2).trans (show _ = some (.int .u8 y2) from rfl)
      have cy3 := (cell_of_heap hky 3).trans (show _ = some (.int .u8 y3) from rfl)
      have lty := (Array.getElem?_eq_some_iff.1 hky).1
      clear hkx hky
      obtain ⟨x0l, x0u⟩ := Hx0.out
      obtain ⟨x1l, x1u⟩ := Hx1.out
      obtain ⟨x2l, x2u⟩ := Hx2.out
      obtain ⟨x3l, x3u⟩ := Hx3.out
      obtain ⟨y0l, y0u⟩ := Hy0.out
      obtain ⟨y1l, y1u⟩ := Hy1.out
      obtain ⟨y2l, y2u⟩ := Hy2.out
      obtain ⟨y3l, y3u⟩ := Hy3.out
      go_wp2_with fail
      clear ltx lty cx0 cx1 cx2 cx3 cy0 cy1 cy2 cy3
      go_loopw [17, 18] (fun s i wr => Hid (Below w4.heap.size w4 wr) ∧ ((i = .int .i64 0 ∧ s = .bool ((x3 % 4 == y3 % 4))) ∨ (i = .int .i64 1 ∧ s = .bool (((x3 % 4 == y3 % 4) && (x0 % 20 == y0 % 20)))) ∨ (i = .int .i64 2 ∧ s = .bool ((((x3 % 4 == y3 % 4) && (x0 % 20 == y0 % 20)) && (x1 % 20 == y1 % 20)))) ∨ (i = .int .i64 3 ∧ s = .bool (((((x3 % 4 == y3 % 4) && (x0 % 20 == y0 % 20)) && (x1 % 20 == y1 % 20)) && (x2 % 20 == y2 % 20)))))) (fun _ i _ => 3 - (intOf i).toNat)
      case atStart => exact ⟨hid (Below.refl _ _), .inl ⟨rfl, rfl⟩⟩
      case round =>
        obtain ⟨Hb, ⟨rfl, rfl⟩ | ⟨rfl, rfl⟩ | ⟨rfl, rfl⟩ | ⟨rfl, rfl⟩⟩ := hrel
        · skip
          have hkx := (H.out.hd.still Hb.out).fourth.blk
          have hky := (H.out.hd.still Hb.out).third.blk
          have cx : ∀ x : Later wr, x.w.cell? ⟨W.heap.size, 0, none⟩ = some (.int .u8 x0) := fun x => x.cell (by rw [cell_of_heap hkx]; rfl)
          have cy : ∀ x : Later wr, x.w.cell? ⟨W.heap.size + 1, 0, none⟩ = some (.int .u8 y0) := fun x => x.cell (by rw [cell_of_heap hky]; rfl)
          clear hkx hky
          generalize hs : (x3 % 4 == y3 % 4) = s at *
          obtain ⟨q, hq9⟩ : ∃ q, (x0 % 20 == y0 % 20) = q := ⟨_, rfl⟩
          have Hq9 := hid hq9
          have Hs9 := hid hs
          clear hs
          rcases s with _ | _
          · skip
            clear hq9
            go_wp2_with fail
            refine wp_region_calm (by kernel_rfl) (by kernel_rfl) ?_
            repeat (go_big_quiet_step (fail))
            refine wpQuiet_nil ?_
            intro w8 hw8
            obtain ⟨⟨w8, hb8⟩, rfl⟩ := hw8
            clear cx cy
            go_wp2_with fail
            go_roundw
            case rel => exact ⟨hid (Hb.out.trans (hb8.mono Hb.out.size)), .inr (.inl ⟨rfl, by first | rfl | (simp; done) | (simp [Hq9.out]; done)⟩)⟩
            case measure => simp [intOf]
          · skip
            go_wp2_with fail
            refine wp_region_calm (by kernel_rfl) (by kernel_rfl) ?_
            repeat (go_big_quiet_step (fail))
            refine wpQuiet_nil ?_
            intro w8 hw8
            obtain ⟨⟨w8, hb8⟩, rfl⟩ := hw8
            clear cx cy hq9
            go_wp2_with fail
            go_roundw
            case rel => exact ⟨hid (Hb.out.trans (hb8.mono Hb.out.size)), .inr (.inl ⟨rfl, by first | rfl | (simp; done) | (simp [Hq9.out]; done)⟩)⟩
            case measure => simp [intOf]
        · skip
          have hkx := (H.out.hd.still Hb.out).fourth.blk
          have hky := (H.out.hd.still Hb.out).third.blk
          have cx : ∀ x : Later wr, x.w.cell? ⟨W.heap.size, 1, none⟩ = some (.int .u8 x1) := fun x => x.cell (by rw [cell_of_heap hkx]; rfl)
          have cy : ∀ x : Later wr, x.w.cell? ⟨W.heap.size + 1, 1, none⟩ = some (.int .u8 y1) := fun x => x.cell (by rw [cell_of_heap hky]; rfl)
          clear hkx hky
          generalize hs : ((x3 % 4 == y3 % 4) && (x0 % 20 == y0 % 20)) = s at *
          obtain ⟨q, hq9⟩ : ∃ q, (x1 % 20 == y1 % 20) = q := ⟨_, rfl⟩
          have Hq9 := hid hq9
          have Hs9 := hid hs
          clear hs
          rcases s with _ | _
          · skip
            clear hq9
            go_wp2_with fail
            refine wp_region_calm (by kernel_rfl) (by kernel_rfl) ?_
            repeat (go_big_quiet_step (fail))
            refine wpQuiet_nil ?_
            intro w8 hw8
            obtain ⟨⟨w8, hb8⟩, rfl⟩ := hw8
            clear cx cy
            go_wp2_with fail
            go_roundw
            case rel => exact ⟨hid (Hb.out.trans (hb8.mono Hb.out.size)), .inr (.inr (.inl ⟨rfl, by first | rfl | (simp; done) | (simp [Hq9.out]; done)⟩))⟩
            case measure => simp [intOf]
          · skip
            go_wp2_with fail
            refine wp_region_calm (by kernel_rfl) (by kernel_rfl) ?_
            repeat (go_big_quiet_step (fail))
            refine wpQuiet_nil ?_
            intro w8 hw8
            obtain ⟨⟨w8, hb8⟩, rfl⟩ := hw8
            clear cx cy hq9
            go_wp2_with fail
            go_roundw
            case rel => exact ⟨hid (Hb.out.trans (hb8.mono Hb.out.size)), .inr (.inr (.inl ⟨rfl, by first | rfl | (simp; done) | (simp [Hq9.out]; done)⟩))⟩
            case measure => simp [intOf]
        · skip
          have hkx := (H.out.hd.still Hb.out).fourth.blk
          have hky := (H.out.hd.still Hb.out).third.blk
          have cx : ∀ x : Later wr, x.w.cell? ⟨W.heap.size, 2, none⟩ = some (.int .u8 x2) := fun x => x.cell (by rw [cell_of_heap hkx]; rfl)
          have cy : ∀ x : Later wr, x.w.cell? ⟨W.heap.size + 1, 2, none⟩ = some (.int .u8 y2) := fun x => x.cell (by rw [cell_of_heap hky]; rfl)
          clear hkx hky
          generalize hs : (((x3 % 4 == y3 % 4) && (x0 % 20 == y0 % 20)) && (x1 % 20 == y1 % 20)) = s at *
          obtain ⟨q, hq9⟩ : ∃ q, (x2 % 20 == y2 % 20) = q := ⟨_, rfl⟩
          have Hq9 := hid hq9
          have Hs9 := hid hs
          clear hs
          rcases s with _ | _
          · skip
            clear hq9
            go_wp2_with fail
            refine wp_region_calm (by kernel_rfl) (by kernel_rfl) ?_
            repeat (go_big_quiet_step (fail))
            refine wpQuiet_nil ?_
            intro w8 hw8
            obtain ⟨⟨w8, hb8⟩, rfl⟩ := hw8
            clear cx cy
            go_wp2_with fail
            go_roundw
            case rel => exact ⟨hid (Hb.out.trans (hb8.mono Hb.out.size)), .inr (.inr (.inr (⟨rfl, by first | rfl | (simp; done) | (simp [Hq9.out]; done)⟩)))⟩
            case measure => simp [intOf]
          · skip
            go_wp2_with fail
            refine wp_region_calm (by kernel_rfl) (by kernel_rfl) ?_
            repeat (go_big_quiet_step (fail))
            refine wpQuiet_nil ?_
            intro w8 hw8
            obtain ⟨⟨w8, hb8⟩, rfl⟩ := hw8
            clear cx cy hq9
            go_wp2_with fail
            go_roundw
            case rel => exact ⟨hid (Hb.out.trans (hb8.mono Hb.out.size)), .inr (.inr (.inr (⟨rfl, by first | rfl | (simp; done) | (simp [Hq9.out]; done)⟩)))⟩
            case measure => simp [intOf]
        · skip
          replace H := hid (H.out.still Hb.out)
          clear Hb
          have hkx := H.out.hd.fourth.blk
          have hky := H.out.hd.third.blk
          have cx0 := (cell_of_heap hkx 0).trans (show _ = some (.int .u8 x0) from rfl)
          have cx1 := (cell_of_heap hkx 1).trans (show _ = some (.int .u8 x1) from rfl)
          have cx2 := (cell_of_heap hkx 2).trans (show _ = some (.int .u8 x2) from rfl)
          have cx3 := (cell_of_heap hkx 3).trans (show _ = some (.int .u8 x3) from rfl)
          have ltx := (Array.getElem?_eq_some_iff.1 hkx).1
          have cy0 := (cell_of_heap hky 0).trans (show _ = some (.int .u8 y0) from rfl)
          have cy1 := (cell_of_heap hky 1).trans (show _ = some (.int .u8 y1) from rfl)
          have cy2 := (cell_of_heap hky 2).trans (show _ = some (.int .u8 y2) from rfl)
          have cy3 := (cell_of_heap hky 3).trans (show _ = some (.int .u8 y3) from rfl)
          have lty := (Array.getElem?_eq_some_iff.1 hky).1
          clear hkx hky
          go_wp2_with fail
          refine (get_c 0 H.out.hd).mono ?_
          rw [(getT_out (L := L) (x := 0) (.inl (by decide))).1, (getT_out (L := L) (x := 0) (.inl (by decide))).2]
          simp only [T.val, zeroT]
          rintro e w9 ⟨rfl, h1⟩
          replace H := hid (Room.of (N := 22) h1 (by have := H.out.len; omega))
          clear h1 ltx lty cx0 cx1 cx2 cx3 cy0 cy1 cy2 cy3
          go_wp2_with fail
          refine (fixed5_calls (by first | exact Hd.al H.out.hd | exact H.out.hd)).mono ?_
          rintro e w' ⟨rfl, h5⟩
          have H5 := hid h5
          clear h5
          go_wp2_with fail
          go_ret
          exact ⟨rfl, H5.out.below⟩
    · skip
      have Hqy := hid hq
      have Ay := hid hat
      have Ey := hid hext
      have Hly := hid hl2
      have Hky := hid (put_known (m := 1000) hg2 hat)
      have ry1 := hat.lo
      clear hq hat hext hl2 hg2
      have hkx := H.out.hd.fourth.blk
      have hky := H.out.hd.third.blk
      have cx0 := (cell_of_heap hkx 0).trans (show _ = some (.int .u8 x0) from rfl)
      have cx1 := (cell_of_heap hkx 1).trans (show _ = some (.int .u8 x1) from rfl)
      have cx2 := (cell_of_heap hkx 2).trans (show _ = some (.int .u8 x2) from rfl)
      have cx3 := (cell_of_heap hkx 3).trans (show _ = some (.int .u8 x3) from rfl)
      have ltx := (Array.getElem?_eq_some_iff.1 hkx).1
      have cy0 := (cell_of_heap hky 0).trans (show _ = some (.int .u8 y0) from rfl)
      have cy1 := (cell_of_heap hky 1).trans (show _ = some (.int .u8 y1) from rfl)
      have cy2 := (cell_of_heap hky 2).trans (show _ = some (.int .u8 y2) from rfl)
      have cy3 := (cell_of_heap hky 3).trans (show _ = some (.int .u8 y3) from rfl)
      have lty := (Array.getElem?_eq_some_iff.1 hky).1
      clear hkx hky
      go_wp2_with fail
      refine (put5_calls y0 y1 y2 y3 Hy0.out Hy1.out Hy2.out Hy3.out Hqy H.out.hd).mono ?_
      rintro e w5 ⟨rfl, h1⟩
      replace H := hid (Room.of (N := 22) h1 (by first | omega | (have := Hlx.out; omega) | (have := Hly.out; omega) | (have := Hlx.out; have := Hly.out; omega)))
      clear h1
      clear ltx lty cx0 cx1 cx2 cx3 cy0 cy1 cy2 cy3
      have hkx := H.out.hd.fourth.blk
      have hky := H.out.hd.third.blk
      have cx0 := (cell_of_heap hkx 0).trans (show _ = some (.int .u8 x0) from rfl)
      have cx1 := (cell_of_heap hkx 1).trans (show _ = some (.int .u8 x1) from rfl)
      have cx2 := (cell_of_heap hkx 2).trans (show _ = some (.int .u8 x2) from rfl)
      have cx3 := (cell_of_heap hkx 3).trans (show _ = some (.int .u8 x3) from rfl)
      have ltx := (Array.getElem?_eq_some_iff.1 hkx).1
      have cy0 := (cell_of_heap hky 0).trans (show _ = some (.int .u8 y0) from rfl)
      have cy1 := (cell_of_heap hky 1).trans (show _ = some (.int .u8 y1) from rfl)
      have cy2 := (cell_of_heap hky 2).trans (show _ = some (.int .u8 y2) from rfl)
      have cy3 := (cell_of_heap hky 3).trans (show _ = some (.int .u8 y3) from rfl)
      have lty := (Array.getElem?_eq_some_iff.1 hky).1
      clear hkx hky
      obtain ⟨x0l, x0u⟩ := Hx0.out
      obtain ⟨x1l, x1u⟩ := Hx1.out
      obtain ⟨x2l, x2u⟩ := Hx2.out
      obtain ⟨x3l, x3u⟩ := Hx3.out
      obtain ⟨y0l, y0u⟩ := Hy0.out
      obtain ⟨y1l, y1u⟩ := Hy1.out
      obtain ⟨y2l, y2u⟩ := Hy2.out
      obtain ⟨y3l, y3u⟩ := Hy3.out
      go_wp2_with fail
      clear ltx lty cx0 cx1 cx2 cx3 cy0 cy1 cy2 cy3
      go_loopw [17, 18] (fun s i wr => Hid (Below w5.heap.size w5 wr) ∧ ((i = .int .i64 0 ∧ s = .bool ((x3 % 4 == y3 % 4))) ∨ (i = .int .i64 1 ∧ s = .bool (((x3 % 4 == y3 % 4) && (x0 % 20 == y0 % 20)))) ∨ (i = .int .i64 2 ∧ s = .bool ((((x3 % 4 == y3 % 4) && (x0 % 20 == y0 % 20)) && (x1 % 20 == y1 % 20)))) ∨ (i = .int .i64 3 ∧ s = .bool (((((x3 % 4 == y3 % 4) && (x0 % 20 == y0 % 20)) && (x1 % 20 == y1 % 20)) && (x2 % 20 == y2 % 20)))))) (fun _ i _ => 3 - (intOf i).toNat)
      case atStart => exact ⟨hid (Below.refl _ _), .inl ⟨rfl, rfl⟩⟩
      case round =>
        obtain ⟨Hb, ⟨rfl, rfl⟩ | ⟨rfl, rfl⟩ | ⟨rfl, rfl⟩ | ⟨rfl, rfl⟩⟩ := hrel
        · skip
          have hkx := (H.out.hd.still Hb.out).fourth.blk
          have hky := (H.out.hd.still Hb.out).third.blk
          have cx : ∀ x : Later wr, x.w.cell? ⟨W.heap.size, 0, none⟩ = some (.int .u8 x0) := fun x => x.cell (by rw [cell_of_heap hkx]; rfl)
          have cy : ∀ x : Later wr, x.w.cell? ⟨W.heap.size + 1, 0, none⟩ = some (.int .u8 y0) := fun x => x.cell (by rw [cell_of_heap hky]; rfl)
          clear hkx hky
          generalize hs : (x3 % 4 == y3 % 4) = s at *
          obtain ⟨q, hq9⟩ : ∃ q, (x0 % 20 == y0 % 20) = q := ⟨_, rfl⟩
          have Hq9 := hid hq9
          have Hs9 := hid hs
          clear hs
          rcases s with _ | _
          · skip
            clear hq9
            go_wp2_with fail
            refine wp_region_calm (by kernel_rfl) (by kernel_rfl) ?_
            repeat (go_big_quiet_step (fail))
            refine wpQuiet_nil ?_
            intro w8 hw8
            obtain ⟨⟨w8, hb8⟩, rfl⟩ := hw8
            clear cx cy
            go_wp2_with fail
            go_roundw
            case rel => exact ⟨hid (Hb.out.trans (hb8.mono Hb.out.size)), .inr (.inl ⟨rfl, by first | rfl | (simp; done) | (simp [Hq9.out]; done)⟩)⟩
            case measure => simp [intOf]
          · skip
            go_wp2_with fail
            refine wp_region_calm (by kernel_rfl) (by kernel_rfl) ?_
            repeat (go_big_quiet_step (fail))
            refine wpQuiet_nil ?_
            intro w8 hw8
            obtain ⟨⟨w8, hb8⟩, rfl⟩ := hw8
            clear cx cy hq9
            go_wp2_with fail
            go_roundw
            case rel => exact ⟨hid (Hb.out.trans (hb8.mono Hb.out.size)), .inr (.inl ⟨rfl, by first | rfl | (simp; done) | (simp [Hq9.out]; done)⟩)⟩
            case measure => simp [intOf]
        · skip
          have hkx := (H.out.hd.still Hb.out).fourth.blk
          have hky := (H.out.hd.still Hb.out).third.blk
          have cx : ∀ x : Later wr, x.w.cell? ⟨W.heap.size, 1, none⟩ = some (.int .u8 x1) := fun x => x.cell (by rw [cell_of_heap hkx]; rfl)
          have cy : ∀ x : Later wr, x.w.cell? ⟨W.heap.size + 1, 1, none⟩ = some (.int .u8 y1) := fun x => x.cell (by rw [cell_of_heap hky]; rfl)
          clear hkx hky
          generalize hs : ((x3 % 4 == y3 % 4) && (x0 % 20 == y0 % 20)) = s at *
          obtain ⟨q, hq9⟩ : ∃ q, (x1 % 20 == y1 % 20) = q := ⟨_, rfl⟩
          have Hq9 := hid hq9
          have Hs9 := hid hs
          clear hs
          rcases s with _ | _
          · skip
            clear hq9
            go_wp2_with fail
            refine wp_region_calm (by kernel_rfl) (by kernel_rfl) ?_
            repeat (go_big_quiet_step (fail))
            refine wpQuiet_nil ?_
            intro w8 hw8
            obtain ⟨⟨w8, hb8⟩, rfl⟩ := hw8
            clear cx cy
            go_wp2_with fail
            go_roundw
            case rel => exact ⟨hid (Hb.out.trans (hb8.mono Hb.out.size)), .inr (.inr (.inl ⟨rfl, by first | rfl | (simp; done) | (simp [Hq9.out]; done)⟩))⟩
            case measure => simp [intOf]
          · skip
            go_wp2_with fail
            refine wp_region_calm (by kernel_rfl) (by kernel_rfl) ?_
            repeat (go_big_quiet_step (fail))
            refine wpQuiet_nil ?_
            intro w8 hw8
            obtain ⟨⟨w8, hb8⟩, rfl⟩ := hw8
            clear cx cy hq9
            go_wp2_with fail
            go_roundw
            case rel => exact ⟨hid (Hb.out.trans (hb8.mono Hb.out.size)), .inr (.inr (.inl ⟨rfl, by first | rfl | (simp; done) | (simp [Hq9.out]; done)⟩))⟩
            case measure => simp [intOf]
        · skip
          have hkx := (H.out.hd.still Hb.out).fourth.blk
          have hky := (H.out.hd.still Hb.out).third.blk
          have cx : ∀ x : Later wr, x.w.cell? ⟨W.heap.size, 2, none⟩ = some (.int .u8 x2) := fun x => x.cell (by rw [cell_of_heap hkx]; rfl)
          have cy : ∀ x : Later wr, x.w.cell? ⟨W.heap.size + 1, 2, none⟩ = some (.int .u8 y2) := fun x => x.cell (by rw [cell_of_heap hky]; rfl)
          clear hkx hky
          generalize hs : (((x3 % 4 == y3 % 4) && (x0 % 20 == y0 % 20)) && (x1 % 20 == y1 % 20)) = s at *
          obtain ⟨q, hq9⟩ : ∃ q, (x2 % 20 == y2 % 20) = q := ⟨_, rfl⟩
          have Hq9 := hid hq9
          have Hs9 := hid hs
          clear hs
          rcases s with _ | _
          · skip
            clear hq9
            go_wp2_with fail
            refine wp_region_calm (by kernel_rfl) (by kernel_rfl) ?_
            repeat (go_big_quiet_step (fail))
            refine wpQuiet_nil ?_
            intro w8 hw8
            obtain ⟨⟨w8, hb8⟩, rfl⟩ := hw8
            clear cx cy
            go_wp2_with fail
            go_roundw
            case rel => exact ⟨hid (Hb.out.trans (hb8.mono Hb.out.size)), .inr (.inr (.inr (⟨rfl, by first | rfl | (simp; done) | (simp [Hq9.out]; done)⟩)))⟩
            case measure => simp [intOf]
          · skip
            go_wp2_with fail
            refine wp_region_calm (by kernel_rfl) (by kernel_rfl) ?_
            repeat (go_big_quiet_step (fail))
            refine wpQuiet_nil ?_
            intro w8 hw8
            obtain ⟨⟨w8, hb8⟩, rfl⟩ := hw8
            clear cx cy hq9
            go_wp2_with fail
            go_roundw
            case rel => exact ⟨hid (Hb.out.trans (hb8.mono Hb.out.size)), .inr (.inr (.inr (⟨rfl, by first | rfl | (simp; done) | (simp [Hq9.out]; done)⟩)))⟩
            case measure => simp [intOf]
        · skip
          replace H := hid (H.out.still Hb.out)
          clear Hb
          have hkx := H.out.hd.fourth.blk
          have hky := H.out.hd.third.blk
          have cx0 := (cell_of_heap hkx 0).trans (show _ = some (.int .u8 x0) from rfl)
          have cx1 := (cell_of_heap hkx 1).trans (show _ = some (.int .u8 x1) from rfl)
          have cx2 := (cell_of_heap hkx 2).trans (show _ = some (.int .u8 x2) from rfl)
          have cx3 := (cell_of_heap hkx 3).trans (show _ = some (.int .u8 x3) from rfl)
          have ltx := (Array.getElem?_eq_some_iff.1 hkx).1
          have cy0 := (cell_of_heap hky 0).trans (show _ = some (.int .u8 y0) from rfl)
          have cy1 := (cell_of_heap hky 1).trans (show _ = some (.int .u8 y1) from rfl)
          have cy2 := (cell_of_heap hky 2).trans (show _ = some (.int .u8 y2) from rfl)
          have cy3 := (cell_of_heap hky 3).trans (show _ = some (.int .u8 y3) from rfl)
          have lty := (Array.getElem?_eq_some_iff.1 hky).1
          clear hkx hky
          go_wp2_with fail
          refine (get_c 0 H.out.hd).mono ?_
          rw [(getT_out (L := Ly) (x := 0) (.inl (by decide))).1, (getT_out (L := Ly) (x := 0) (.inl (by decide))).2]
          simp only [T.val, zeroT]
          rintro e w9 ⟨rfl, h1⟩
          replace H := hid (Room.of (N := 22) h1 (by have := H.out.len; omega))
          clear h1 ltx lty cx0 cx1 cx2 cx3 cy0 cy1 cy2 cy3
          go_wp2_with fail
          refine (fixed5_calls (by first | exact Hd.al H.out.hd | exact H.out.hd)).mono ?_
          rintro e w' ⟨rfl, h5⟩
          have H5 := hid h5
          clear h5
          go_wp2_with fail
          go_ret
          exact ⟨rfl, H5.out.below⟩
  · skip
    have Hqx := hid hq
    have Ax := hid hat
    have Ex := hid hext
    have Hlx := hid hl2
    have Hkx := hid (put_known (m := 1000) hg2 hat)
    have rx1 := hat.lo
    clear hq hat hext hl2 hg2
    have hkx := H.out.hd.fourth.blk
    have hky := H.out.hd.third.blk
    have cx0 := (cell_of_heap hkx 0).trans (show _ = some (.int .u8 x0) from rfl)
    have cx1 := (cell_of_heap hkx 1).trans (show _ = some (.int .u8 x1) from rfl)
    have cx2 := (cell_of_heap hkx 2).trans (show _ = some (.int .u8 x2) from rfl)
    have cx3 := (cell_of_heap hkx 3).trans (show _ = some (.int .u8 x3) from rfl)
    have ltx := (Array.getElem?_eq_some_iff.1 hkx).1
    have cy0 := (cell_of_heap hky 0).trans (show _ = some (.int .u8 y0) from rfl)
    have cy1 := (cell_of_heap hky 1).trans (show _ = some (.int .u8 y1) from rfl)
    have cy2 := (cell_of_heap hky 2).trans (show _ = some (.int .u8 y2) from rfl)
    have cy3 := (cell_of_heap hky 3).trans (show _ = some (.int .u8 y3) from rfl)
    have lty := (Array.getElem?_eq_some_iff.1 hky).1
    clear hkx hky
    go_wp2_with fail
    refine (put5_calls x0 x1 x2 x3 Hx0.out Hx1.out Hx2.out Hx3.out Hqx H.out.hd).mono ?_
    rintro e w6 ⟨rfl, h1⟩
    replace H := hid (Room.of (N := 22) h1 (by first | omega | (have := Hlx.out; omega) | (have := Hly.out; omega) | (have := Hlx.out; have := Hly.out; omega)))
    clear h1
    clear ltx lty cx0 cx1 cx2 cx3 cy0 cy1 cy2 cy3
    go_wp2_with fail
    refine (len_at H.out.hd).mono ?_
    rintro e w' ⟨rfl, rfl⟩
    have hkx := H.out.hd.fourth.blk
    have hky := H.out.hd.third.blk
    have cx0 := (cell_of_heap hkx 0).trans (show _ = some (.int .u8 x0) from rfl)
    have cx1 := (cell_of_heap hkx 1).trans (show _ = some (.int .u8 x1) from rfl)
    have cx2 := (cell_of_heap hkx 2).trans (show _ = some (.int .u8 x2) from rfl)
    have cx3 := (cell_of_heap hkx 3).trans (show _ = some (.int .u8 x3) from rfl)
    have ltx := (Array.getElem?_eq_some_iff.1 hkx).1
    have cy0 := (cell_of_heap hky 0).trans (show _ = some (.int .u8 y0) from rfl)
    have cy1 := (cell_of_heap hky 1).trans (show _ = some (.int .u8 y1) from rfl)
    have cy2 := (cell_of_heap hky 2).trans (show _ = some (.int .u8 y2) from rfl)
    have cy3 := (cell_of_heap hky 3).trans (show _ = some (.int .u8 y3) from rfl)
    have lty := (Array.getElem?_eq_some_iff.1 hky).1
    clear hkx hky
    go_wp2_with fail
    refine (put5_calls x0 x1 x2 x3 Hx0.out Hx1.out Hx2.out Hx3.out Hkx H.out.hd).mono ?_
    rintro e w7 ⟨rfl, h1⟩
    replace H := hid (Room.of (N := 22) h1 (by first | omega | (have := Hlx.out; omega) | (have := Hly.out; omega) | (have := Hlx.out; have := Hly.out; omega)))
    clear h1
    clear ltx lty cx0 cx1 cx2 cx3 cy0 cy1 cy2 cy3
    go_wp2_with fail
    refine (len_at H.out.hd).mono ?_
    rintro e w' ⟨rfl, rfl⟩
    rcases put_or (m := 1000) (fourT y0 y1 y2 y3) H.out.good (by have := H.out.len; omega) with hq | ⟨rc, Ly, hq, hat, hext, hg2, hl2⟩
    · skip
      have Hqy := hid hq
      clear hq
      have hkx := H.out.hd.fourth.blk
      have hky := H.out.hd.third.blk
      have cx0 := (cell_of_heap hkx 0).trans (show _ = some (.int .u8 x0) from rfl)
      have cx1 := (cell_of_heap hkx 1).trans (show _ = some (.int .u8 x1) from rfl)
      have cx2 := (cell_of_heap hkx 2).trans (show _ = some (.int .u8 x2) from rfl)
      have cx3 := (cell_of_heap hkx 3).trans (show _ = some (.int .u8 x3) from rfl)
      have ltx := (Array.getElem?_eq_some_iff.1 hkx).1
      have cy0 := (cell_of_heap hky 0).trans (show _ = some (.int .u8 y0) from rfl)
      have cy1 := (cell_of_heap hky 1).trans (show _ = some (.int .u8 y1) from rfl)
      have cy2 := (cell_of_heap hky 2).trans (show _ = some (.int .u8 y2) from rfl)
      have cy3 := (cell_of_heap hky 3).trans (show _ = some (.int .u8 y3) from rfl)
      have lty := (Array.getElem?_eq_some_iff.1 hky).1
      clear hkx hky
      go_wp2_with fail
      refine (put5_calls y0 y1 y2 y3 Hy0.out Hy1.out Hy2.out Hy3.out Hqy H.out.hd).mono ?_
      rintro e w8 ⟨rfl, h1⟩
      replace H := hid (Room.of (N := 22) h1 (by first | omega | (have := Hlx.out; omega) | (have := Hly.out; omega) | (have := Hlx.out; have := Hly.out; omega)))
      clear h1
      clear ltx lty cx0 cx1 cx2 cx3 cy0 cy1 cy2 cy3
      have hkx := H.out.hd.fourth.blk
      have hky := H.out.hd.third.blk
      have cx0 := (cell_of_heap hkx 0).trans (show _ = some (.int .u8 x0) from rfl)
      have cx1 := (cell_of_heap hkx 1).trans (show _ = some (.int .u8 x1) from rfl)
      have cx2 := (cell_of_heap hkx 2).trans (show _ = some (.int .u8 x2) from rfl)
      have cx3 := (cell_of_heap hkx 3).trans (show _ = some (.int .u8 x3) from rfl)
      have ltx := (Array.getElem?_eq_some_iff.1 hkx).1
      have cy0 := (cell_of_heap hky 0).trans (show _ = some (.int .u8 y0) from rfl)
      have cy1 := (cell_of_heap hky 1).trans (show _ = some (.int .u8 y1) from rfl)
      have cy2 := (cell_of_heap hky 2).trans (show _ = some (.int .u8 y2) from rfl)
      have cy3 := (cell_of_heap hky 3).trans (show _ = some (.int .u8 y3) from rfl)
      have lty := (Array.getElem?_eq_some_iff.1 hky).1
      clear hkx hky
      obtain ⟨x0l, x0u⟩ := Hx0.out
      obtain ⟨x1l, x1u⟩ := Hx1.out
      obtain ⟨x2l, x2u⟩ := Hx2.out
      obtain ⟨x3l, x3u⟩ := Hx3.out
      obtain ⟨y0l, y0u⟩ := Hy0.out
      obtain ⟨y1l, y1u⟩ := Hy1.out
      obtain ⟨y2l, y2u⟩ := Hy2.out
      obtain ⟨y3l, y3u⟩ := Hy3.out
      go_wp2_with fail
      clear ltx lty cx0 cx1 cx2 cx3 cy0 cy1 cy2 cy3
      go_loopw [17, 18] (fun s i wr => Hid (Below w8.heap.size w8 wr) ∧ ((i = .int .i64 0 ∧ s = .bool ((x3 % 4 == y3 % 4))) ∨ (i = .int .i64 1 ∧ s = .bool (((x3 % 4 == y3 % 4) && (x0 % 20 == y0 % 20)))) ∨ (i = .int .i64 2 ∧ s = .bool ((((x3 % 4 == y3 % 4) && (x0 % 20 == y0 % 20)) && (x1 % 20 == y1 % 20)))) ∨ (i = .int .i64 3 ∧ s = .bool (((((x3 % 4 == y3 % 4) && (x0 % 20 == y0 % 20)) && (x1 % 20 == y1 % 20)) && (x2 % 20 == y2 % 20)))))) (fun _ i _ => 3 - (intOf i).toNat)
      case atStart => exact ⟨hid (Below.refl _ _), .inl ⟨rfl, rfl⟩⟩
      case round =>
        obtain ⟨Hb, ⟨rfl, rfl⟩ | ⟨rfl, rfl⟩ | ⟨rfl, rfl⟩ | ⟨rfl, rfl⟩⟩ := hrel
        · skip
          have hkx := (H.out.hd.still Hb.out).fourth.blk
          have hky := (H.out.hd.still Hb.out).third.blk
          have cx : ∀ x : Later wr, x.w.cell? ⟨W.heap.size, 0, none⟩ = some (.int .u8 x0) := fun x => x.cell (by rw [cell_of_heap hkx]; rfl)
          have cy : ∀ x : Later wr, x.w.cell? ⟨W.heap.size + 1, 0, none⟩ = some (.int .u8 y0) := fun x => x.cell (by rw [cell_of_heap hky]; rfl)
          clear hkx hky
          generalize hs : (x3 % 4 == y3 % 4) = s at *
          obtain ⟨q, hq9⟩ : ∃ q, (x0 % 20 == y0 % 20) = q := ⟨_, rfl⟩
          have Hq9 := hid hq9
          have Hs9 := hid hs
          clear hs
          rcases s with _ | _
          · skip
            clear hq9
            go_wp2_with fail
            refine wp_region_calm (by kernel_rfl) (by kernel_rfl) ?_
            repeat (go_big_quiet_step (fail))
            refine wpQuiet_nil ?_
            intro w8 hw8
            obtain ⟨⟨w8, hb8⟩, rfl⟩ := hw8
            clear cx cy
            go_wp2_with fail
            go_roundw
            case rel => exact ⟨hid (Hb.out.trans (hb8.mono Hb.out.size)), .inr (.inl ⟨rfl, by first | rfl | (simp; done) | (simp [Hq9.out]; done)⟩)⟩
            case measure => simp [intOf]
          · skip
            go_wp2_with fail
            refine wp_region_calm (by kernel_rfl) (by kernel_rfl) ?_
            repeat (go_big_quiet_step (fail))
            refine wpQuiet_nil ?_
            intro w8 hw8
            obtain ⟨⟨w8, hb8⟩, rfl⟩ := hw8
            clear cx cy hq9
            go_wp2_with fail
            go_roundw
            case rel => exact ⟨hid (Hb.out.trans (hb8.mono Hb.out.size)), .inr (.inl ⟨rfl, by first | rfl | (simp; done) | (simp [Hq9.out]; done)⟩)⟩
            case measure => simp [intOf]
        · skip
          have hkx := (H.out.hd.still Hb.out).fourth.blk
          have hky := (H.out.hd.still Hb.out).third.blk
          have cx : ∀ x : Later wr, x.w.cell? ⟨W.heap.size, 1, none⟩ = some (.int .u8 x1) := fun x => x.cell (by rw [cell_of_heap hkx]; rfl)
          have cy : ∀ x : Later wr, x.w.cell? ⟨W.heap.size + 1, 1, none⟩ = some (.int .u8 y1) := fun x => x.cell (by rw [cell_of_heap hky]; rfl)
          clear hkx hky
          generalize hs : ((x3 % 4 == y3 % 4) && (x0 % 20 == y0 % 20)) = s at *
          obtain ⟨q, hq9⟩ : ∃ q, (x1 % 20 == y1 % 20) = q := ⟨_, rfl⟩
          have Hq9 := hid hq9
          have Hs9 := hid hs
          clear hs
          rcases s with _ | _
          · skip
            clear hq9
            go_wp2_with fail
            refine wp_region_calm (by kernel_rfl) (by kernel_rfl) ?_
            repeat (go_big_quiet_step (fail))
            refine wpQuiet_nil ?_
            intro w8 hw8
            obtain ⟨⟨w8, hb8⟩, rfl⟩ := hw8
            clear cx cy
            go_wp2_with fail
            go_roundw
            case rel => exact ⟨hid (Hb.out.trans (hb8.mono Hb.out.size)), .inr (.inr (.inl ⟨rfl, by first | rfl | (simp; done) | (simp [Hq9.out]; done)⟩))⟩
            case measure => simp [intOf]
          · skip
            go_wp2_with fail
            refine wp_region_calm (by kernel_rfl) (by kernel_rfl) ?_
            repeat (go_big_quiet_step (fail))
            refine wpQuiet_nil ?_
            intro w8 hw8
            obtain ⟨⟨w8, hb8⟩, rfl⟩ := hw8
            clear cx cy hq9
            go_wp2_with fail
            go_roundw
            case rel => exact ⟨hid (Hb.out.trans (hb8.mono Hb.out.size)), .inr (.inr (.inl ⟨rfl, by first | rfl | (simp; done) | (simp [Hq9.out]; done)⟩))⟩
            case measure => simp [intOf]
        · skip
          have hkx := (H.out.hd.still Hb.out).fourth.blk
          have hky := (H.out.hd.still Hb.out).third.blk
          have cx : ∀ x : Later wr, x.w.cell? ⟨W.heap.size, 2, none⟩ = some (.int .u8 x2) := fun x => x.cell (by rw [cell_of_heap hkx]; rfl)
          have cy : ∀ x : Later wr, x.w.cell? ⟨W.heap.size + 1, 2, none⟩ = some (.int .u8 y2) := fun x => x.cell (by rw [cell_of_heap hky]; rfl)
          clear hkx hky
          generalize hs : (((x3 % 4 == y3 % 4) && (x0 % 20 == y0 % 20)) && (x1 % 20 == y1 % 20)) = s at *
          obtain ⟨q, hq9⟩ : ∃ q, (x2 % 20 == y2 % 20) = q := ⟨_, rfl⟩
          have Hq9 := hid hq9
          have Hs9 := hid hs
          clear hs
          rcases s with _ | _
          · skip
            clear hq9
            go_wp2_with fail
            refine wp_region_calm (by kernel_rfl) (by kernel_rfl) ?_
            repeat (go_big_quiet_step (fail))
            refine wpQuiet_nil ?_
            intro w8 hw8
            obtain ⟨⟨w8, hb8⟩, rfl⟩ := hw8
            clear cx cy
            go_wp2_with fail
            go_roundw
            case rel => exact ⟨hid (Hb.out.trans (hb8.mono Hb.out.size)), .inr (.inr (.inr (⟨rfl, by first | rfl | (simp; done) | (simp [Hq9.out]; done)⟩)))⟩
            case measure => simp [intOf]
          · skip
            go_wp2_with fail
            refine wp_region_calm (by kernel_rfl) (by kernel_rfl) ?_
            repeat (go_big_quiet_step (fail))
            refine wpQuiet_nil ?_
            intro w8 hw8
            obtain ⟨⟨w8, hb8⟩, rfl⟩ := hw8
            clear cx cy hq9
            go_wp2_with fail
            go_roundw
            case rel => exact ⟨hid (Hb.out.trans (hb8.mono Hb.out.size)), .inr (.inr (.inr (⟨rfl, by first | rfl | (simp; done) | (simp [Hq9.out]; done)⟩)))⟩
            case measure => simp [intOf]
        · skip
          replace H := hid (H.out.still Hb.out)
          clear Hb
          have hkx := H.out.hd.fourth.blk
          have hky := H.out.hd.third.blk
          have cx0 := (cell_of_heap hkx 0).trans (show _ = some (.int .u8 x0) from rfl)
          have cx1 := (cell_of_heap hkx 1).trans (show _ = some (.int .u8 x1) from rfl)
          have cx2 := (cell_of_heap hkx 2).trans (show _ = some (.int .u8 x2) from rfl)
          have cx3 := (cell_of_heap hkx 3).trans (show _ = some (.int .u8 x3) from rfl)
          have ltx := (Array.getElem?_eq_some_iff.1 hkx).1
          have cy0 := (cell_of_heap hky 0).trans (show _ = some (.int .u8 y0) from rfl)
          have cy1 := (cell_of_heap hky 1).trans (show _ = some (.int .u8 y1) from rfl)
          have cy2 := (cell_of_heap hky 2).trans (show _ = some (.int .u8 y2) from rfl)
          have cy3 := (cell_of_heap hky 3).trans (show _ = some (.int .u8 y3) from rfl)
          have lty := (Array.getElem?_eq_some_iff.1 hky).1
          clear hkx hky
          go_wp2_with fail
          refine (get_at H.out.hd Ax.out).mono ?_
          simp only [fourT, seaT]
          rintro e w9 ⟨rfl, hb1⟩
          replace H := hid (H.out.still hb1)
          clear hb1 ltx lty cx0 cx1 cx2 cx3 cy0 cy1 cy2 cy3
          go_wp2_with fail
          refine (fixed5_calls (by first | exact Hd.al H.out.hd | exact H.out.hd)).mono ?_
          rintro e w' ⟨rfl, h5⟩
          have H5 := hid h5
          clear h5
          go_wp2_with fail
          go_ret
          exact ⟨rfl, H5.out.below⟩
    · skip
      have Hqy := hid hq
      have Ay := hid hat
      have Ey := hid hext
      have Hly := hid hl2
      have Hky := hid (put_known (m := 1000) hg2 hat)
      have ry1 := hat.lo
      clear hq hat hext hl2 hg2
      have hkx := H.out.hd.fourth.blk
      have hky := H.out.hd.third.blk
      have cx0 := (cell_of_heap hkx 0).trans (show _ = some (.int .u8 x0) from rfl)
      have cx1 := (cell_of_heap hkx 1).trans (show _ = some (.int .u8 x1) from rfl)
      have cx2 := (cell_of_heap hkx 2).trans (show _ = some (.int .u8 x2) from rfl)
      have cx3 := (cell_of_heap hkx 3).trans (show _ = some (.int .u8 x3) from rfl)
      have ltx := (Array.getElem?_eq_some_iff.1 hkx).1
      have cy0 := (cell_of_heap hky 0).trans (show _ = some (.int .u8 y0) from rfl)
      have cy1 := (cell_of_heap hky 1).trans (show _ = some (.int .u8 y1) from rfl)
      have cy2 := (cell_of_heap hky 2).trans (show _ = some (.int .u8 y2) from rfl)
      have cy3 := (cell_of_heap hky 3).trans (show _ = some (.int .u8 y3) from rfl)
      have lty := (Array.getElem?_eq_some_iff.1 hky).1
      clear hkx hky
      go_wp2_with fail
      refine (put5_calls y0 y1 y2 y3 Hy0.out Hy1.out Hy2.out Hy3.out Hqy H.out.hd).mono ?_
      rintro e w9 ⟨rfl, h1⟩
      replace H := hid (Room.of (N := 22) h1 (by first | omega | (have := Hlx.out; omega) | (have := Hly.out; omega) | (have := Hlx.out; have := Hly.out; omega)))
      clear h1
      clear ltx lty cx0 cx1 cx2 cx3 cy0 cy1 cy2 cy3
      have hkx := H.out.hd.fourth.blk
      have hky := H.out.hd.third.blk
      have cx0 := (cell_of_heap hkx 0).trans (show _ = some (.int .u8 x0) from rfl)
      have cx1 := (cell_of_heap hkx 1).trans (show _ = some (.int .u8 x1) from rfl)
      have cx2 := (cell_of_heap hkx 2).trans (show _ = some (.int .u8 x2) from rfl)
      have cx3 := (cell_of_heap hkx 3).trans (show _ = some (.int .u8 x3) from rfl)
      have ltx := (Array.getElem?_eq_some_iff.1 hkx).1
      have cy0 := (cell_of_heap hky 0).trans (show _ = some (.int .u8 y0) from rfl)
      have cy1 := (cell_of_heap hky 1).trans (show _ = some (.int .u8 y1) from rfl)
      have cy2 := (cell_of_heap hky 2).trans (show _ = some (.int .u8 y2) from rfl)
      have cy3 := (cell_of_heap hky 3).trans (show _ = some (.int .u8 y3) from rfl)
      have lty := (Array.getElem?_eq_some_iff.1 hky).1
      clear hkx hky
      obtain ⟨x0l, x0u⟩ := Hx0.out
      obtain ⟨x1l, x1u⟩ := Hx1.out
      obtain ⟨x2l, x2u⟩ := Hx2.out
      obtain ⟨x3l, x3u⟩ := Hx3.out
      obtain ⟨y0l, y0u⟩ := Hy0.out
      obtain ⟨y1l, y1u⟩ := Hy1.out
      obtain ⟨y2l, y2u⟩ := Hy2.out
      obtain ⟨y3l, y3u⟩ := Hy3.out
      go_wp2_with fail
      clear ltx lty cx0 cx1 cx2 cx3 cy0 cy1 cy2 cy3
      go_loopw [17, 18] (fun s i wr => Hid (Below w9.heap.size w9 wr) ∧ ((i = .int .i64 0 ∧ s = .bool ((x3 % 4 == y3 % 4))) ∨ (i = .int .i64 1 ∧ s = .bool (((x3 % 4 == y3 % 4) && (x0 % 20 == y0 % 20)))) ∨ (i = .int .i64 2 ∧ s = .bool ((((x3 % 4 == y3 % 4) && (x0 % 20 == y0 % 20)) && (x1 % 20 == y1 % 20)))) ∨ (i = .int .i64 3 ∧ s = .bool (((((x3 % 4 == y3 % 4) && (x0 % 20 == y0 % 20)) && (x1 % 20 == y1 % 20)) && (x2 % 20 == y2 % 20)))))) (fun _ i _ => 3 - (intOf i).toNat)
      case atStart => exact ⟨hid (Below.refl _ _), .inl ⟨rfl, rfl⟩⟩
      case round =>
        obtain ⟨Hb, ⟨rfl, rfl⟩ | ⟨rfl, rfl⟩ | ⟨rfl, rfl⟩ | ⟨rfl, rfl⟩⟩ := hrel
        · skip
          have hkx := (H.out.hd.still Hb.out).fourth.blk
          have hky := (H.out.hd.still Hb.out).third.blk
          have cx : ∀ x : Later wr, x.w.cell? ⟨W.heap.size, 0, none⟩ = some (.int .u8 x0) := fun x => x.cell (by rw [cell_of_heap hkx]; rfl)
          have cy : ∀ x : Later wr, x.w.cell? ⟨W.heap.size + 1, 0, none⟩ = some (.int .u8 y0) := fun x => x.cell (by rw [cell_of_heap hky]; rfl)
          clear hkx hky
          generalize hs : (x3 % 4 == y3 % 4) = s at *
          obtain ⟨q, hq9⟩ : ∃ q, (x0 % 20 == y0 % 20) = q := ⟨_, rfl⟩
          have Hq9 := hid hq9
          have Hs9 := hid hs
          clear hs
          rcases s with _ | _
          · skip
            clear hq9
            go_wp2_with fail
            refine wp_region_calm (by kernel_rfl) (by kernel_rfl) ?_
            repeat (go_big_quiet_step (fail))
            refine wpQuiet_nil ?_
            intro w8 hw8
            obtain ⟨⟨w8, hb8⟩, rfl⟩ := hw8
            clear cx cy
            go_wp2_with fail
            go_roundw
            case rel => exact ⟨hid (Hb.out.trans (hb8.mono Hb.out.size)), .inr (.inl ⟨rfl, by first | rfl | (simp; done) | (simp [Hq9.out]; done)⟩)⟩
            case measure => simp [intOf]
          · skip
            go_wp2_with fail
            refine wp_region_calm (by kernel_rfl) (by kernel_rfl) ?_
            repeat (go_big_quiet_step (fail))
            refine wpQuiet_nil ?_
            intro w8 hw8
            obtain ⟨⟨w8, hb8⟩, rfl⟩ := hw8
            clear cx cy hq9
            go_wp2_with fail
            go_roundw
            case rel => exact ⟨hid (Hb.out.trans (hb8.mono Hb.out.size)), .inr (.inl ⟨rfl, by first | rfl | (simp; done) | (simp [Hq9.out]; done)⟩)⟩
            case measure => simp [intOf]
        · skip
          have hkx := (H.out.hd.still Hb.out).fourth.blk
          have hky := (H.out.hd.still Hb.out).third.blk
          have cx : ∀ x : Later wr, x.w.cell? ⟨W.heap.size, 1, none⟩ = some (.int .u8 x1) := fun x => x.cell (by rw [cell_of_heap hkx]; rfl)
          have cy : ∀ x : Later wr, x.w.cell? ⟨W.heap.size + 1, 1, none⟩ = some (.int .u8 y1) := fun x => x.cell (by rw [cell_of_heap hky]; rfl)
          clear hkx hky
          generalize hs : ((x3 % 4 == y3 % 4) && (x0 % 20 == y0 % 20)) = s at *
          obtain ⟨q, hq9⟩ : ∃ q, (x1 % 20 == y1 % 20) = q := ⟨_, rfl⟩
          have Hq9 := hid hq9
          have Hs9 := hid hs
          clear hs
          rcases s with _ | _
          · skip
            clear hq9
            go_wp2_with fail
            refine wp_region_calm (by kernel_rfl) (by kernel_rfl) ?_
            repeat (go_big_quiet_step (fail))
            refine wpQuiet_nil ?_
            intro w8 hw8
            obtain ⟨⟨w8, hb8⟩, rfl⟩ := hw8
            clear cx cy
            go_wp2_with fail
            go_roundw
            case rel => exact ⟨hid (Hb.out.trans (hb8.mono Hb.out.size)), .inr (.inr (.inl ⟨rfl, by first | rfl | (simp; done) | (simp [Hq9.out]; done)⟩))⟩
            case measure => simp [intOf]
          · skip
            go_wp2_with fail
            refine wp_region_calm (by kernel_rfl) (by kernel_rfl) ?_
            repeat (go_big_quiet_step (fail))
            refine wpQuiet_nil ?_
            intro w8 hw8
            obtain ⟨⟨w8, hb8⟩, rfl⟩ := hw8
            clear cx cy hq9
            go_wp2_with fail
            go_roundw
            case rel => exact ⟨hid (Hb.out.trans (hb8.mono Hb.out.size)), .inr (.inr (.inl ⟨rfl, by first | rfl | (simp; done) | (simp [Hq9.out]; done)⟩))⟩
            case measure => simp [intOf]
        · skip
          have hkx := (H.out.hd.still Hb.out).fourth.blk
          have hky := (H.out.hd.still Hb.out).third.blk
          have cx : ∀ x : Later wr, x.w.cell? ⟨W.heap.size, 2, none⟩ = some (.int .u8 x2) := fun x => x.cell (by rw [cell_of_heap hkx]; rfl)
          have cy : ∀ x : Later wr, x.w.cell? ⟨W.heap.size + 1, 2, none⟩ = some (.int .u8 y2) := fun x => x.cell (by rw [cell_of_heap hky]; rfl)
          clear hkx hky
          generalize hs : (((x3 % 4 == y3 % 4) && (x0 % 20 == y0 % 20)) && (x1 % 20 == y1 % 20)) = s at *
          obtain ⟨q, hq9⟩ : ∃ q, (x2 % 20 == y2 % 20) = q := ⟨_, rfl⟩
          have Hq9 := hid hq9
          have Hs9 := hid hs
          clear hs
          rcases s with _ | _
          · skip
            clear hq9
            go_wp2_with fail
            refine wp_region_calm (by kernel_rfl) (by kernel_rfl) ?_
            repeat (go_big_quiet_step (fail))
            refine wpQuiet_nil ?_
            intro w8 hw8
            obtain ⟨⟨w8, hb8⟩, rfl⟩ := hw8
            clear cx cy
            go_wp2_with fail
            go_roundw
            case rel => exact ⟨hid (Hb.out.trans (hb8.mono Hb.out.size)), .inr (.inr (.inr (⟨rfl, by first | rfl | (simp; done) | (simp [Hq9.out]; done)⟩)))⟩
            case measure => simp [intOf]
          · skip
            go_wp2_with fail
            refine wp_region_calm (by kernel_rfl) (by kernel_rfl) ?_
            repeat (go_big_quiet_step (fail))
            refine wpQuiet_nil ?_
            intro w8 hw8
            obtain ⟨⟨w8, hb8⟩, rfl⟩ := hw8
            clear cx cy hq9
            go_wp2_with fail
            go_roundw
            case rel => exact ⟨hid (Hb.out.trans (hb8.mono Hb.out.size)), .inr (.inr (.inr (⟨rfl, by first | rfl | (simp; done) | (simp [Hq9.out]; done)⟩)))⟩
            case measure => simp [intOf]
        · skip
          replace H := hid (H.out.still Hb.out)
          clear Hb
          have hkx := H.out.hd.fourth.blk
          have hky := H.out.hd.third.blk
          have cx0 := (cell_of_heap hkx 0).trans (show _ = some (.int .u8 x0) from rfl)
          have cx1 := (cell_of_heap hkx 1).trans (show _ = some (.int .u8 x1) from rfl)
          have cx2 := (cell_of_heap hkx 2).trans (show _ = some (.int .u8 x2) from rfl)
          have cx3 := (cell_of_heap hkx 3).trans (show _ = some (.int .u8 x3) from rfl)
          have ltx := (Array.getElem?_eq_some_iff.1 hkx).1
          have cy0 := (cell_of_heap hky 0).trans (show _ = some (.int .u8 y0) from rfl)
          have cy1 := (cell_of_heap hky 1).trans (show _ = some (.int .u8 y1) from rfl)
          have cy2 := (cell_of_heap hky 2).trans (show _ = some (.int .u8 y2) from rfl)
          have cy3 := (cell_of_heap hky 3).trans (show _ = some (.int .u8 y3) from rfl)
          have lty := (Array.getElem?_eq_some_iff.1 hky).1
          clear hkx hky
          go_wp2_with fail
          refine (get_at H.out.hd (Ax.out.ext Ey.out)).mono ?_
          simp only [fourT, seaT]
          rintro e w9 ⟨rfl, hb1⟩
          replace H := hid (H.out.still hb1)
          clear hb1 ltx lty cx0 cx1 cx2 cx3 cy0 cy1 cy2 cy3
          by_cases hxy : fourT x0 x1 x2 x3 = fourT y0 y1 y2 y3
          · skip
            have hs := fourT_iff.1 hxy
            have hac : ra = rc := by have := Ax.out.ext Ey.out; rw [hxy] at this; exact this.name H.out.good Ay.out
            subst hac
            clear hxy
            rw [hs]
            clear hs
            have hkx := H.out.hd.fourth.blk
            have hky := H.out.hd.third.blk
            have cx0 := (cell_of_heap hkx 0).trans (show _ = some (.int .u8 x0) from rfl)
            have cx1 := (cell_of_heap hkx 1).trans (show _ = some (.int .u8 x1) from rfl)
            have cx2 := (cell_of_heap hkx 2).trans (show _ = some (.int .u8 x2) from rfl)
            have cx3 := (cell_of_heap hkx 3).trans (show _ = some (.int .u8 x3) from rfl)
            have ltx := (Array.getElem?_eq_some_iff.1 hkx).1
            have cy0 := (cell_of_heap hky 0).trans (show _ = some (.int .u8 y0) from rfl)
            have cy1 := (cell_of_heap hky 1).trans (show _ = some (.int .u8 y1) from rfl)
            have cy2 := (cell_of_heap hky 2).trans (show _ = some (.int .u8 y2) from rfl)
            have cy3 := (cell_of_heap hky 3).trans (show _ = some (.int .u8 y3) from rfl)
            have lty := (Array.getElem?_eq_some_iff.1 hky).1
            clear hkx hky
            go_wp2_with fail
            refine (fixed5_calls (Hd.al H.out.hd)).mono ?_
            rintro e w' ⟨rfl, h5⟩
            have H5 := hid h5
            clear h5
            go_wp2_with fail
            go_ret
            exact ⟨rfl, H5.out.below⟩
          · skip
            have hs : (((((x3 % 4 == y3 % 4) && (x0 % 20 == y0 % 20)) && (x1 % 20 == y1 % 20)) && (x2 % 20 == y2 % 20))) = false := by rw [Bool.eq_false_iff]; exact fun h => hxy (fourT_iff.2 h)
            have hac : (ra == rc) = false := by rw [beq_eq_false_iff_ne]; intro e; subst e; exact hxy ((Ax.out.ext Ey.out).same Ay.out)
            have hac' : (ra != rc) = true := by rw [bne_iff_ne]; intro e; subst e; exact hxy ((Ax.out.ext Ey.out).same Ay.out)
            clear hxy
            rw [hs]
            clear hs
            have hkx := H.out.hd.fourth.blk
            have hky := H.out.hd.third.blk
            have cx0 := (cell_of_heap hkx 0).trans (show _ = some (.int .u8 x0) from rfl)
            have cx1 := (cell_of_heap hkx 1).trans (show _ = some (.int .u8 x1) from rfl)
            have cx2 := (cell_of_heap hkx 2).trans (show _ = some (.int .u8 x2) from rfl)
            have cx3 := (cell_of_heap hkx 3).trans (show _ = some (.int .u8 x3) from rfl)
            have ltx := (Array.getElem?_eq_some_iff.1 hkx).1
            have cy0 := (cell_of_heap hky 0).trans (show _ = some (.int .u8 y0) from rfl)
            have cy1 := (cell_of_heap hky 1).trans (show _ = some (.int .u8 y1) from rfl)
            have cy2 := (cell_of_heap hky 2).trans (show _ = some (.int .u8 y2) from rfl)
            have cy3 := (cell_of_heap hky 3).trans (show _ = some (.int .u8 y3) from rfl)
            have lty := (Array.getElem?_eq_some_iff.1 hky).1
            clear hkx hky
            go_wp2_with fail
            refine (fixed5_calls (Hd.al H.out.hd)).mono ?_
            rintro e w' ⟨rfl, h5⟩
            have H5 := hid h5
            clear h5
            go_wp2_with fail
            go_ret
            exact ⟨rfl, H5.out.below⟩
end Go.Proofs.Ythbailkfhmkfoaa
