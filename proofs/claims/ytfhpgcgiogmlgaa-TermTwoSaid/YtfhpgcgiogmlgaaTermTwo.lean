/-
  TermTwo returns true, and writes nothing that was there. For every input.
-/
import Derived.Test.YtfhpgcgiogmlgaaRoom
import Derived.Test.YtfhpgcgiogmlgaaPureD
import Derived.Test.YtfhpgcgiogmlgaaArgsC
import Derived.Test.YtfhpgcgiogmlgaaLawB
namespace Go.Proofs.Ytfhpgcgiogmlgaa
open Go.RowKit

set_option maxRecDepth 100000 in
set_option maxHeartbeats 16000000 in
theorem termTwo_walk (ad : Option Addr) (len cap : Nat) (ts : List T) (ad2 : Option Addr) (len2 cap2 : Nat) (zs : List Int) (W : World) (hlen : len = ts.length) (hmax : len ≤ maxLen) (hts : TermsIn W ad ts)
    (hlen2 : len2 = zs.length) (_hmax2 : len2 ≤ maxLen) (hzs : NumsIn .i64 W ad2 zs) :
    Calls Try.prog 8 #[.slice ad len cap, .slice ad2 len2 cap2] W fun e w' => e = .returned (.bool true) ∧ Below W.heap.size W w' := by
  have Hlen := hid hlen
  have Hts := hid hts
  have Hlen2 := hid hlen2
  have Hzs := hid hzs
  clear hts hlen hlen2 hzs
  unfold maxLen at hmax
  go_enter Try.func8, Try.ntmps8
  go_wp2_with fail
  refine (new_calls (Hd.refl W) (by decide) (by decide)).mono ?_
  rintro e w1 ⟨b, rfl, h1⟩
  have H := hid h1
  clear h1
  go_wp2_with fail
  refine (new_calls H.out (by decide) (by decide)).mono ?_
  rintro e w2 ⟨b', rfl, h1⟩
  replace H := hid h1.swap
  clear h1
  go_wp2_with fail
  go_loopw [9] (fun i wr => ∃ j : Nat, j ≤ len ∧ i = .int .i64 j ∧ ∃ L : List T, Hid (Hd W wr [Sto b L 30, Sto b' L 30])) (fun i _ => len - (intOf i).toNat)
  case atStart => exact ⟨0, Nat.zero_le _, rfl, [], H⟩
  case round =>
    clear H
    obtain ⟨j, hj, rfl, L, H⟩ := hrel
    by_cases hlt : j < len ∧ j < 40
    · have hd1 : decide (j < len) = true := by simpa using hlt.1
      have hd2 : decide ((j : Int) < 40) = true := by simp; omega
      obtain ⟨t, ht⟩ : ∃ t, ts[j]? = some t := ⟨ts[j]'(by rw [← Hlen.out]; exact hlt.1), List.getElem?_eq_getElem _⟩
      obtain ⟨g, o, rfl, hsz, hcell⟩ := (Hts.out.later H.out.below) j t ht
      obtain ⟨k, s, n, a, b2, c⟩ := t
      have c0 := hcell 0 _ rfl
      have c1 := hcell 1 _ rfl
      have c2 := hcell 2 _ rfl
      have c3 := hcell 3 _ rfl
      have c4 := hcell 4 _ rfl
      have c5 := hcell 5 _ rfl
      simp only [Nat.add_zero] at c0
      have hj0 : (0 : Int) ≤ (j : Int) := by omega
      have hj1 : (j : Int) < (len : Int) := by omega
      clear hcell ht hlt
      go_wp2_with fail
      refine (cut_calls k s n a b2 c _ hsz).mono ?_
      obtain ⟨k1, s1, n1, a1, b1, c1', hcut⟩ : ∃ k1 s1 n1 a1 b1 c1, T.cut ⟨k, s, n, a, b2, c⟩ = ⟨k1, s1, n1, a1, b1, c1⟩ := ⟨_, _, _, _, _, _, rfl⟩
      rw [hcut]
      simp only [T.val]
      rintro e w3 ⟨rfl, hb3⟩
      replace H := hid (((H.out.still hb3).box (.cells #[.int .i64 k1, .string s1, .int .u64 n1, .int .i64 a1, .int .i64 b1, .int .i64 c1'] 32)).swap)
      clear hb3 c0 c1 c2 c3 c4 c5 hcut hsz
      go_wp2_with fail
      refine (put_calls k1 s1 n1 a1 b1 c1' H.out).mono ?_
      obtain ⟨r1, r2, L2, hput⟩ : ∃ r1 r2 L2, put 30 L ⟨k1, s1, n1, a1, b1, c1'⟩ = (r1, r2, L2) := ⟨_, _, _, rfl⟩
      rw [hput]
      have Hput := hid hput
      rintro e w4 ⟨rfl, h4⟩
      replace H := hid h4.third
      clear h4 hput
      by_cases hq : j < len2
      · have hq1 : decide (j < len2) = true := by simpa using hq
        obtain ⟨q, hqz⟩ : ∃ q, zs[j]? = some q := ⟨zs[j]'(by rw [← Hlen2.out]; exact hq), List.getElem?_eq_getElem _⟩
        obtain ⟨_, _, g3, o3, rfl, hc3⟩ := Hzs.out j q hqz
        have hB : ∀ wx, Below W.heap.size W wx → wx.cell? ⟨g3, o3 + j, none⟩ = some (.int .i64 q) := fun wx hb => (hb.cell (World.block_lt_of_cell? W _ hc3)).trans hc3
        have HB := hid hB
        have c0 := hB _ H.out.below
        have hj2 : (j : Int) < (len2 : Int) := by omega
        have hLm : (L.length : Int) ≤ 30 := by obtain ⟨_, _, _, _, _, hs⟩ := H.out.sto; exact hs.len
        clear hqz hc3 hB hq
        by_cases hin : 1 ≤ q ∧ q ≤ L.length
        · have hp := depth_pos (L := L) hin.1 hin.2
          have f1 : decide (1 ≤ q) = true := by simpa using hin.1
          have f2 : decide (q ≤ (L.length : Int)) = true := by simpa using hin.2
          obtain ⟨t4, ht4⟩ := at_of hin.1 hin.2
          have hgt := ht4.getT
          obtain ⟨k4, s4, n4, a4, b4, c4⟩ := t4
          obtain ⟨dd, hdep⟩ : ∃ dd, depth L q = dd := ⟨_, rfl⟩
          rw [hdep] at hp
          have f3 : decide (0 < dd) = true := by simp; omega
          clear ht4 hin
          go_wp2_with fail
          obtain ⟨lb, db, mb, lc, dc, hs⟩ := H.out.sto
          refine (get_calls q hs).mono ?_
          rw [hgt.1, hgt.2]
          simp only [T.val]
          rintro e w5 ⟨rfl, hb5⟩
          replace H := hid (H.out.still hb5)
          clear hs hb5 c0
          go_wp2_with fail
          replace H := hid (H.out.box (.cells #[.int .i64 k4, .string s4, .int .u64 n4, .int .i64 a4, .int .i64 b4, .int .i64 c4] 32)).swap
          obtain ⟨lb, db, mb, lc, dc, hs⟩ := H.out.sto
          have Hs := hid hs
          have hbx := H.out.swap.blk
          have Hbx := hid hbx
          generalize hw6 : w5.alloc (.cells #[.int .i64 k4, .string s4, .int .u64 n4, .int .i64 a4, .int .i64 b4, .int .i64 c4] 32) = w6 at *
          clear hw6
          have HD : Hid (∀ x : Later w6, Calls Try.prog 21 #[.pointer (some ⟨b', 0, none⟩), .int .i64 q] x.w fun e w' => e = .returned (.int .i64 dd) ∧ x.w = w') := hid fun x => by { have := depth_calls q (Hs.out.later x.below); rw [hdep] at this; exact this }
          have c0 : ∀ x : Later w6, x.w.cell? ⟨g3, o3 + j, none⟩ = some (.int .i64 q) := fun x => HB.out _ (H.out.still x.below).below
          clear hs hbx
          refine wp_region_calm (by kernel_rfl) (by kernel_rfl) ?_
          repeat (go_big_quiet_step ((first | (go_at_call 23; exact Calls.calm_same (len_calls' (Hs.out.later (Later.below _)))) | (go_at_call 21; exact Calls.calm_same (HD.out _)))))
          refine wpQuiet_nil ?_
          intro w7 hw7
          obtain ⟨⟨w7, hb7⟩, rfl⟩ := hw7
          replace H := hid ((H.out.still hb7).swap.drop)
          clear c0 hb7 Hs HD hdep
          have hbx := H.out.third.blk
          have d0 := (cell_of_heap hbx 0).trans (show _ = some (.int .i64 k1) from rfl)
          have d1 := (cell_of_heap hbx 1).trans (show _ = some (.string s1) from rfl)
          have d2 := (cell_of_heap hbx 2).trans (show _ = some (.int .u64 n1) from rfl)
          have d3 := (cell_of_heap hbx 3).trans (show _ = some (.int .i64 a1) from rfl)
          have d4 := (cell_of_heap hbx 4).trans (show _ = some (.int .i64 b1) from rfl)
          have d5 := (cell_of_heap hbx 5).trans (show _ = some (.int .i64 c1') from rfl)
          clear hbx
          go_wp2_with fail
          refine (put_calls k1 s1 n1 a1 b1 c1' H.out).mono ?_
          rw [Hput.out]
          rintro e w7 ⟨rfl, h7⟩
          replace H := hid h7.swap
          clear h7 d0 d1 d2 d3 d4 d5
          go_wp2_with fail
          refine (len_at H.out).mono ?_
          rintro e w' ⟨rfl, rfl⟩
          go_wp2_with fail
          refine (len_at H.out.swap).mono ?_
          rintro e w' ⟨rfl, rfl⟩
          go_wp2_with fail
          go_roundw
          case rel => exact ⟨j + 1, by omega, by go_num, L2, hid (H.out.under fun _ => Lies.cons_mono fun _ _ => trivial)⟩
          case measure => simp [intOf]; omega
        · have f0 : depth L q = 0 := by unfold depth; rw [if_neg hin]
          have hdep := f0
          have hgt := getT_out (L := L) (x := q) (by omega)
          by_cases h1 : 1 ≤ q
          · have f1 : decide (1 ≤ q) = true := by simpa using h1
            have f2 : decide (q ≤ (L.length : Int)) = false := by simp; omega
            clear hin f0
            go_wp2_with fail
            obtain ⟨lb, db, mb, lc, dc, hs⟩ := H.out.sto
            refine (get_calls q hs).mono ?_
            rw [hgt.1, hgt.2]
            simp only [T.val, zeroT]
            rintro e w5 ⟨rfl, hb5⟩
            replace H := hid (H.out.still hb5)
            clear hs hb5 c0
            go_wp2_with fail
            replace H := hid (H.out.box (.cells #[.int .i64 0, .string ⟨#[]⟩, .int .u64 0, .int .i64 0, .int .i64 0, .int .i64 0] 32)).swap
            obtain ⟨lb, db, mb, lc, dc, hs⟩ := H.out.sto
            have Hs := hid hs
            have hbx := H.out.swap.blk
            have Hbx := hid hbx
            generalize hw6 : w5.alloc (.cells #[.int .i64 0, .string ⟨#[]⟩, .int .u64 0, .int .i64 0, .int .i64 0, .int .i64 0] 32) = w6 at *
            clear hw6
            have HD : Hid (∀ x : Later w6, Calls Try.prog 21 #[.pointer (some ⟨b', 0, none⟩), .int .i64 q] x.w fun e w' => e = .returned (.int .i64 0) ∧ x.w = w') := hid fun x => by { have := depth_calls q (Hs.out.later x.below); rw [hdep] at this; exact this }
            have c0 : ∀ x : Later w6, x.w.cell? ⟨g3, o3 + j, none⟩ = some (.int .i64 q) := fun x => HB.out _ (H.out.still x.below).below
            have z0 : ∀ x : Later w6, x.w.cell? ⟨w5.heap.size, 0, none⟩ = some (.int .i64 0) := fun x => x.cell (by rw [cell_of_heap Hbx.out]; rfl)
            have z1 : ∀ x : Later w6, x.w.cell? ⟨w5.heap.size, 1, none⟩ = some (.string ⟨#[]⟩) := fun x => x.cell (by rw [cell_of_heap Hbx.out]; rfl)
            have z2 : ∀ x : Later w6, x.w.cell? ⟨w5.heap.size, 2, none⟩ = some (.int .u64 0) := fun x => x.cell (by rw [cell_of_heap Hbx.out]; rfl)
            have z3 : ∀ x : Later w6, x.w.cell? ⟨w5.heap.size, 3, none⟩ = some (.int .i64 0) := fun x => x.cell (by rw [cell_of_heap Hbx.out]; rfl)
            have z4 : ∀ x : Later w6, x.w.cell? ⟨w5.heap.size, 4, none⟩ = some (.int .i64 0) := fun x => x.cell (by rw [cell_of_heap Hbx.out]; rfl)
            have z5 : ∀ x : Later w6, x.w.cell? ⟨w5.heap.size, 5, none⟩ = some (.int .i64 0) := fun x => x.cell (by rw [cell_of_heap Hbx.out]; rfl)
            clear hs hbx
            refine wp_region_calm (by kernel_rfl) (by kernel_rfl) ?_
            repeat (go_big_quiet_step ((first | (go_at_call 23; exact Calls.calm_same (len_calls' (Hs.out.later (Later.below _)))) | (go_at_call 21; exact Calls.calm_same (HD.out _)))))
            refine wpQuiet_nil ?_
            intro w7 hw7
            obtain ⟨⟨w7, hb7⟩, rfl⟩ := hw7
            replace H := hid ((H.out.still hb7).swap.drop)
            clear c0 hb7 Hs HD hdep z0 z1 z2 z3 z4 z5
            have hbx := H.out.third.blk
            have d0 := (cell_of_heap hbx 0).trans (show _ = some (.int .i64 k1) from rfl)
            have d1 := (cell_of_heap hbx 1).trans (show _ = some (.string s1) from rfl)
            have d2 := (cell_of_heap hbx 2).trans (show _ = some (.int .u64 n1) from rfl)
            have d3 := (cell_of_heap hbx 3).trans (show _ = some (.int .i64 a1) from rfl)
            have d4 := (cell_of_heap hbx 4).trans (show _ = some (.int .i64 b1) from rfl)
            have d5 := (cell_of_heap hbx 5).trans (show _ = some (.int .i64 c1') from rfl)
            clear hbx
            go_wp2_with fail
            refine (put_calls k1 s1 n1 a1 b1 c1' H.out).mono ?_
            rw [Hput.out]
            rintro e w7 ⟨rfl, h7⟩
            replace H := hid h7.swap
            clear h7 d0 d1 d2 d3 d4 d5
            go_wp2_with fail
            refine (len_at H.out).mono ?_
            rintro e w' ⟨rfl, rfl⟩
            go_wp2_with fail
            refine (len_at H.out.swap).mono ?_
            rintro e w' ⟨rfl, rfl⟩
            go_wp2_with fail
            go_roundw
            case rel => exact ⟨j + 1, by omega, by go_num, L2, hid (H.out.under fun _ => Lies.cons_mono fun _ _ => trivial)⟩
            case measure => simp [intOf]; omega
          · have f1 : decide (1 ≤ q) = false := by simpa using h1
            clear hin f0
            go_wp2_with fail
            obtain ⟨lb, db, mb, lc, dc, hs⟩ := H.out.sto
            refine (get_calls q hs).mono ?_
            rw [hgt.1, hgt.2]
            simp only [T.val, zeroT]
            rintro e w5 ⟨rfl, hb5⟩
            replace H := hid (H.out.still hb5)
            clear hs hb5 c0
            go_wp2_with fail
            replace H := hid (H.out.box (.cells #[.int .i64 0, .string ⟨#[]⟩, .int .u64 0, .int .i64 0, .int .i64 0, .int .i64 0] 32)).swap
            obtain ⟨lb, db, mb, lc, dc, hs⟩ := H.out.sto
            have Hs := hid hs
            have hbx := H.out.swap.blk
            have Hbx := hid hbx
            generalize hw6 : w5.alloc (.cells #[.int .i64 0, .string ⟨#[]⟩, .int .u64 0, .int .i64 0, .int .i64 0, .int .i64 0] 32) = w6 at *
            clear hw6
            have HD : Hid (∀ x : Later w6, Calls Try.prog 21 #[.pointer (some ⟨b', 0, none⟩), .int .i64 q] x.w fun e w' => e = .returned (.int .i64 0) ∧ x.w = w') := hid fun x => by { have := depth_calls q (Hs.out.later x.below); rw [hdep] at this; exact this }
            have c0 : ∀ x : Later w6, x.w.cell? ⟨g3, o3 + j, none⟩ = some (.int .i64 q) := fun x => HB.out _ (H.out.still x.below).below
            have z0 : ∀ x : Later w6, x.w.cell? ⟨w5.heap.size, 0, none⟩ = some (.int .i64 0) := fun x => x.cell (by rw [cell_of_heap Hbx.out]; rfl)
            have z1 : ∀ x : Later w6, x.w.cell? ⟨w5.heap.size, 1, none⟩ = some (.string ⟨#[]⟩) := fun x => x.cell (by rw [cell_of_heap Hbx.out]; rfl)
            have z2 : ∀ x : Later w6, x.w.cell? ⟨w5.heap.size, 2, none⟩ = some (.int .u64 0) := fun x => x.cell (by rw [cell_of_heap Hbx.out]; rfl)
            have z3 : ∀ x : Later w6, x.w.cell? ⟨w5.heap.size, 3, none⟩ = some (.int .i64 0) := fun x => x.cell (by rw [cell_of_heap Hbx.out]; rfl)
            have z4 : ∀ x : Later w6, x.w.cell? ⟨w5.heap.size, 4, none⟩ = some (.int .i64 0) := fun x => x.cell (by rw [cell_of_heap Hbx.out]; rfl)
            have z5 : ∀ x : Later w6, x.w.cell? ⟨w5.heap.size, 5, none⟩ = some (.int .i64 0) := fun x => x.cell (by rw [cell_of_heap Hbx.out]; rfl)
            clear hs hbx
            refine wp_region_calm (by kernel_rfl) (by kernel_rfl) ?_
            repeat (go_big_quiet_step ((first | (go_at_call 23; exact Calls.calm_same (len_calls' (Hs.out.later (Later.below _)))) | (go_at_call 21; exact Calls.calm_same (HD.out _)))))
            refine wpQuiet_nil ?_
            intro w7 hw7
            obtain ⟨⟨w7, hb7⟩, rfl⟩ := hw7
            replace H := hid ((H.out.still hb7).swap.drop)
            clear c0 hb7 Hs HD hdep z0 z1 z2 z3 z4 z5
            have hbx := H.out.third.blk
            have d0 := (cell_of_heap hbx 0).trans (show _ = some (.int .i64 k1) from rfl)
            have d1 := (cell_of_heap hbx 1).trans (show _ = some (.string s1) from rfl)
            have d2 := (cell_of_heap hbx 2).trans (show _ = some (.int .u64 n1) from rfl)
            have d3 := (cell_of_heap hbx 3).trans (show _ = some (.int .i64 a1) from rfl)
            have d4 := (cell_of_heap hbx 4).trans (show _ = some (.int .i64 b1) from rfl)
            have d5 := (cell_of_heap hbx 5).trans (show _ = some (.int .i64 c1') from rfl)
            clear hbx
            go_wp2_with fail
            refine (put_calls k1 s1 n1 a1 b1 c1' H.out).mono ?_
            rw [Hput.out]
            rintro e w7 ⟨rfl, h7⟩
            replace H := hid h7.swap
            clear h7 d0 d1 d2 d3 d4 d5
            go_wp2_with fail
            refine (len_at H.out).mono ?_
            rintro e w' ⟨rfl, rfl⟩
            go_wp2_with fail
            refine (len_at H.out.swap).mono ?_
            rintro e w' ⟨rfl, rfl⟩
            go_wp2_with fail
            go_roundw
            case rel => exact ⟨j + 1, by omega, by go_num, L2, hid (H.out.under fun _ => Lies.cons_mono fun _ _ => trivial)⟩
            case measure => simp [intOf]; omega
      · have hq1 : decide (j < len2) = false := by simpa using hq
        clear hq
        have hbx := H.out.third.blk
        have d0 := (cell_of_heap hbx 0).trans (show _ = some (.int .i64 k1) from rfl)
        have d1 := (cell_of_heap hbx 1).trans (show _ = some (.string s1) from rfl)
        have d2 := (cell_of_heap hbx 2).trans (show _ = some (.int .u64 n1) from rfl)
        have d3 := (cell_of_heap hbx 3).trans (show _ = some (.int .i64 a1) from rfl)
        have d4 := (cell_of_heap hbx 4).trans (show _ = some (.int .i64 b1) from rfl)
        have d5 := (cell_of_heap hbx 5).trans (show _ = some (.int .i64 c1') from rfl)
        clear hbx
        go_wp2_with fail
        refine (put_calls k1 s1 n1 a1 b1 c1' H.out).mono ?_
        rw [Hput.out]
        rintro e w7 ⟨rfl, h7⟩
        replace H := hid h7.swap
        clear h7 d0 d1 d2 d3 d4 d5
        go_wp2_with fail
        refine (len_at H.out).mono ?_
        rintro e w' ⟨rfl, rfl⟩
        go_wp2_with fail
        refine (len_at H.out.swap).mono ?_
        rintro e w' ⟨rfl, rfl⟩
        go_wp2_with fail
        go_roundw
        case rel => exact ⟨j + 1, by omega, by go_num, L2, hid (H.out.under fun _ => Lies.cons_mono fun _ _ => trivial)⟩
        case measure => simp [intOf]; omega
    · have hex : decide (j < len) = false ∨ (decide (j < len) = true ∧ decide ((j : Int) < 40) = false) := by
        by_cases h : j < len
        · right; exact ⟨by simpa using h, by simp; omega⟩
        · left; simpa using h
      clear hlt
      rcases hex with hd1 | ⟨hd1, hd2⟩
      all_goals
        go_wp2_with fail
        refine (fixed2_calls H.out).mono ?_
        rintro e w' ⟨rfl, h5⟩
        have H5 := hid h5
        clear h5
        go_wp2_with fail
        go_ret
        exact ⟨rfl, H5.out.below⟩
end Go.Proofs.Ytfhpgcgiogmlgaa
