/-
  ChainStays returns true, and writes nothing that was there. For every input.
-/
import Derived.Test.YtpcfmafokkffgaaFixCh
import Derived.Test.YtpcfmafokkffgaaChainP
import Derived.Test.YtpcfmafokkffgaaArgsC
namespace Go.Proofs.Ytpcfmafokkffgaa
open Go.RowKit

set_option maxRecDepth 100000 in
set_option maxHeartbeats 8000000 in
theorem chainStays_walk (ad : Option Addr) (len cap : Nat) (ts : List T) (x0 x1 : Int) (W : World) (hlen : len = ts.length) (hmax : len ≤ maxLen) (hts : TermsIn W ad ts) (hbx : (0 ≤ x0 ∧ x0 ≤ 255) ∧ (0 ≤ x1 ∧ x1 ≤ 255)) :
    Calls Try.prog 6 #[.slice ad len cap, .agg #[.int .u8 x0, .int .u8 x1]] W fun e w' => e = .returned (.bool true) ∧ Below W.heap.size W w' := by
  obtain ⟨⟨hx0, hx0'⟩, hx1, hx1'⟩ := hbx
  have Hlen := hid hlen
  have Hts := hid hts
  unfold maxLen at hmax
  obtain ⟨N, hN⟩ : ∃ N : Nat, x1 % 5 = N := ⟨(x1 % 5).toNat, by omega⟩
  have hN4 : N ≤ 4 := by omega
  obtain ⟨dk, ks, L3, i, L4, hq1, rfl, hq2, hq3⟩ := stays15 x0 N hx0 (by omega) hN4
  have z0 : IntKind.i64.wrap x0 = x0 := IntWalk.i64_in _ (by omega)
  have z1 : IntKind.i64.wrap x1 = x1 := IntWalk.i64_in _ (by omega)
  have z2 : x1.tmod 5 = ks.length := (Int.tmod_eq_emod_of_nonneg hx1).trans hN
  have z3 : IntKind.i64.wrap (x0 + ks.length) = x0 + ks.length := IntWalk.i64_in _ (by omega)
  have z4 : IntKind.i64.wrap (ks.length : Int) = ks.length := IntWalk.i64_in _ (by omega)
  have HX0 := hid hx0
  have HX0' := hid hx0'
  have HN := hid hN4
  have Hq1 := hid hq1
  have Hq2 := hid hq2
  have Hq3 := hid hq3
  clear hlen hts hx0 hx0' hx1 hx1' hN hN4 hq1 hq2 hq3
  have H := hid ((Hd.refl W).boxk (o := .cells #[.int .u8 x0, .int .u8 x1] 51 (0, 0)) W.heap.size rfl)
  go_enter Try.func6, Try.ntmps6
  go_wp2_with fail
  refine (new_calls H.out (by decide) (by decide)).mono ?_
  rintro e w1 ⟨b, rfl, h1⟩
  clear H
  have H := hid h1
  clear h1
  go_wp2_with fail
  refine (put_calls _ _ _ _ _ _ H.out).mono ?_
  rintro e w2 ⟨rfl, h1⟩
  clear H
  have H := hid (show Hd W w2 (Sto b sl1 200 :: _) from h1)
  clear h1
  generalize (put 200 [] ⟨2, ⟨#[]⟩, 9, 0, 0, 0⟩) = rr
  have hk := Hd.nthk 1 H.out rfl
  have xx0 := (cell_of_heap hk 0).trans (show _ = some (.int .u8 (x0)) from rfl)
  have xx1 := (cell_of_heap hk 1).trans (show _ = some (.int .u8 (x1)) from rfl)
  have xxs := (Array.getElem?_eq_some_iff.1 hk).1
  clear hk
  go_wp2_with fail
  refine (to_calls 1 x0 (x0 + ks.length) (by have := HX0.out; have := HX0'.out; have := HN.out; omega) (by have := HX0.out; have := HX0'.out; have := HN.out; omega) (by have := HX0.out; have := HX0'.out; have := HN.out; omega) (by have := HX0.out; have := HX0'.out; have := HN.out; omega) H.out.bx Hq1.out).mono ?_
  rintro e w3 ⟨v10, rfl, h1⟩
  clear H
  clear xx0 xx1 xxs
  obtain ⟨a10, c10, rfl, hi10⟩ := row_ints h1
  have H := hid h1.swap
  clear h1 hi10
  have hk := Hd.nthk 2 H.out rfl
  have ba0 := (cell_of_heap hk 0).trans (show _ = some (.int .i64 (1)) from rfl)
  have ba1 := (cell_of_heap hk 1).trans (show _ = some (.int .i64 (x0)) from rfl)
  have bas := (Array.getElem?_eq_some_iff.1 hk).1
  clear hk
  go_wp2_with fail
  refine (seal15_calls 1 x0 (show put 200 L3 (keyT 1 1) = (i, 0, L4) from Hq2.out) H.out.bx).mono ?_
  rintro e w4 ⟨rfl, h1⟩
  clear H
  clear ba0 ba1 bas
  have H := hid h1
  clear h1
  go_wp2_with fail
  go_loopw [14] (fun q wr => ∃ j : Nat, j ≤ len ∧ q = .int .i64 j ∧ ∃ L, L4 <+: L ∧ Hid (Hd W wr (Sto b L 200 :: Blk w3.heap.size (.cells #[.int .i64 dk, .int .i64 (x0 + ks.length)] 32 (0, 0)) :: RowR 3 1 (.slice a10 ks.length c10) ks.length (nums .i64 ks) :: Blk w2.heap.size (.cells #[.int .i64 1, .int .i64 x0] 32 (0, 0)) :: Blk W.heap.size (.cells #[.int .u8 x0, .int .u8 x1] 51 (0, 0)) :: []))) (fun q _ => len - (intOf q).toNat)
  case atStart => exact ⟨0, Nat.zero_le _, rfl, L4, List.prefix_refl _, H⟩
  case round =>
    clear H
    obtain ⟨j, hj, rfl, L, hL, H⟩ := hrel
    have HL := hid hL
    clear hL
    by_cases hlt : j < len ∧ j < 20
    · have hd1 : decide (j < len) = true := by simpa using hlt.1
      have hd2 : decide ((j : Int) < 20) = true := by simp; omega
      obtain ⟨t, ht⟩ : ∃ t, ts[j]? = some t := ⟨ts[j]'(by rw [← Hlen.out]; exact hlt.1), List.getElem?_eq_getElem _⟩
      obtain ⟨g, o, rfl, hsz, hcell⟩ := (Hts.out.later H.out.below) j t ht
      obtain ⟨k, s, n, a, b2, c⟩ := t
      have c0 := hcell 0 _ rfl
      have c1 := hcell 1 _ rfl
      have c2 := hcell 2 _ rfl
      have c3 := hcell 3 _ rfl
      have c4 := hcell 4 _ rfl
      have c5 := hcell 5 _ rfl
      simp only [Nat.add_zero] at c0
      have hj0 : (0 : Int) ≤ (j : Int) := by omega
      have hj1 : (j : Int) < (len : Int) := by omega
      clear hcell ht hlt
      go_wp2_with fail
      refine (cut_calls k s n a b2 c _ hsz).mono ?_
      obtain ⟨k1, s1, n1, a1, b1, c1', hcut⟩ : ∃ k1 s1 n1 a1 b1 c1, T.cut ⟨k, s, n, a, b2, c⟩ = ⟨k1, s1, n1, a1, b1, c1⟩ := ⟨_, _, _, _, _, _, rfl⟩
      rw [hcut]
      simp only [T.val]
      rintro e w5 ⟨rfl, hb3⟩
      have H3 := hid (H.out.still hb3)
      clear hb3 c0 c1 c2 c3 c4 c5 hcut H
      go_wp2_with fail
      refine (put_calls k1 s1 n1 a1 b1 c1' H3.out).mono ?_
      obtain ⟨r1, r2, L2, hput⟩ : ∃ r1 r2 L2, put 200 L ⟨k1, s1, n1, a1, b1, c1'⟩ = (r1, r2, L2) := ⟨_, _, _, rfl⟩
      have HP := hid (put_pre 200 L ⟨k1, s1, n1, a1, b1, c1'⟩)
      rw [hput] at HP ⊢
      rintro e w6 ⟨rfl, h4⟩
      have H4 := hid h4
      clear h4 hput H3
      go_wp2_with fail
      go_roundw
      case rel => exact ⟨j + 1, by omega, by go_num, L2, HL.out.trans HP.out, H4⟩
      case measure => simp [intOf]; omega
    · have hex : decide (j < len) = false ∨ (decide (j < len) = true ∧ decide ((j : Int) < 20) = false) := by
        by_cases h : j < len
        · right; exact ⟨by simpa using h, by simp; omega⟩
        · left; simpa using h
      clear hlt
      obtain ⟨hq4, hq5⟩ := Hq3.out L HL.out
      have Hq4 := hid hq4
      have Hq5 := hid hq5
      clear hq4 hq5
      have HA := H.out
      have hk := Hd.nthk 3 H.out rfl
      have ba0 := (cell_of_heap hk 0).trans (show _ = some (.int .i64 (1)) from rfl)
      have ba1 := (cell_of_heap hk 1).trans (show _ = some (.int .i64 (x0)) from rfl)
      have bas := (Array.getElem?_eq_some_iff.1 hk).1
      clear hk
      have hk := Hd.nthk 4 H.out rfl
      have xx0 := (cell_of_heap hk 0).trans (show _ = some (.int .u8 (x0)) from rfl)
      have xx1 := (cell_of_heap hk 1).trans (show _ = some (.int .u8 (x1)) from rfl)
      have xxs := (Array.getElem?_eq_some_iff.1 hk).1
      clear hk
      clear HA
      have q3 := eqt_Ch dk (x0 + ks.length)
      rcases hex with hd1 | ⟨hd1, hd2⟩
      all_goals
        go_wp2_with fail
        refine (to_calls 1 x0 (x0 + ks.length) (by have := HX0.out; have := HX0'.out; have := HN.out; omega) (by have := HX0.out; have := HX0'.out; have := HN.out; omega) (by have := HX0.out; have := HX0'.out; have := HN.out; omega) (by have := HX0.out; have := HX0'.out; have := HN.out; omega) H.out Hq4.out).mono ?_
        rintro e w7 ⟨v16, rfl, h1⟩
        clear H
        clear ba0 ba1 bas xx0 xx1 xxs
        obtain ⟨a16, c16, rfl, hi16⟩ := row_ints h1
        have H := hid h1.swap
        clear h1 hi16
        have hk := Hd.nthk 4 H.out rfl
        have ba0 := (cell_of_heap hk 0).trans (show _ = some (.int .i64 (1)) from rfl)
        have ba1 := (cell_of_heap hk 1).trans (show _ = some (.int .i64 (x0)) from rfl)
        have bas := (Array.getElem?_eq_some_iff.1 hk).1
        clear hk
        go_wp2_with fail
        refine (seal15_calls 1 x0 Hq5.out H.out.bx).mono ?_
        rintro e w8 ⟨rfl, h1⟩
        clear H
        clear ba0 ba1 bas
        have H := hid h1
        clear h1
        have hk := Hd.nthk 6 H.out rfl
        have xx0 := (cell_of_heap hk 0).trans (show _ = some (.int .u8 (x0)) from rfl)
        have xx1 := (cell_of_heap hk 1).trans (show _ = some (.int .u8 (x1)) from rfl)
        have xxs := (Array.getElem?_eq_some_iff.1 hk).1
        clear hk
        have hk := Hd.nthk 3 H.out rfl
        have bc0 := (cell_of_heap hk 0).trans (show _ = some (.int .i64 (dk)) from rfl)
        have bc1 := (cell_of_heap hk 1).trans (show _ = some (.int .i64 (x0 + ks.length)) from rfl)
        have bcs := (Array.getElem?_eq_some_iff.1 hk).1
        clear hk
        have hk := Hd.nthk 1 H.out rfl
        have be0 := (cell_of_heap hk 0).trans (show _ = some (.int .i64 (dk)) from rfl)
        have be1 := (cell_of_heap hk 1).trans (show _ = some (.int .i64 (x0 + ks.length)) from rfl)
        have bes := (Array.getElem?_eq_some_iff.1 hk).1
        clear hk
        
        go_wp2_with fail
        go_loopw [20] (fun q wr => ∃ j : Nat, j ≤ ks.length ∧ q = .int .i64 j ∧ Hid (Hd W wr (Sto b L 200 :: Blk w7.heap.size (.cells #[.int .i64 dk, .int .i64 (x0 + ks.length)] 32 (0, 0)) :: RowR 3 1 (.slice a16 ks.length c16) ks.length (nums .i64 ks) :: Blk w3.heap.size (.cells #[.int .i64 dk, .int .i64 (x0 + ks.length)] 32 (0, 0)) :: RowR 3 1 (.slice a10 ks.length c10) ks.length (nums .i64 ks) :: Blk w2.heap.size (.cells #[.int .i64 1, .int .i64 x0] 32 (0, 0)) :: Blk W.heap.size (.cells #[.int .u8 x0, .int .u8 x1] 51 (0, 0)) :: []))) (fun q _ => ks.length - (intOf q).toNat)
        case atStart => exact ⟨0, Nat.zero_le _, rfl, H⟩
        case round =>
          clear H xx0 xx1 xxs bc0 bc1 bcs be0 be1 bes
          obtain ⟨j, hj, rfl, H⟩ := hrel
          by_cases hlt : j < ks.length
          · have hj0 : (0 : Int) ≤ (j : Int) := by omega
            have hj1 : (j : Int) < (ks.length : Int) := by omega
            have dlt : decide ((j : Int) < (ks.length : Int)) = true := by simpa using hlt
            obtain ⟨a', c', ea, hi⟩ := row_ints (ks := ks) (H.out.front 2 rfl)
            simp only [Value.slice.injEq] at ea
            obtain ⟨rfl, _, rfl⟩ := ea
            obtain ⟨a', c', ea, hi2⟩ := row_ints (ks := ks) (H.out.front 4 rfl)
            simp only [Value.slice.injEq] at ea
            obtain ⟨rfl, _, rfl⟩ := ea
            obtain ⟨g1, o1, rfl, hc1⟩ := hi.resolve_left fun e => by rw [e] at hlt; simp at hlt
            obtain ⟨g2, o2, rfl, hc2⟩ := hi2.resolve_left fun e => by rw [e] at hlt; simp at hlt
            have d1 := hc1 j hlt
            have d2 := hc2 j hlt
            have k1 : ∀ x : Later wr, x.w.cell? ⟨g1, o1 + j, none⟩ = some (.int .i64 (ks.getD j 0)) := fun x => x.cell d1
            have k2 : ∀ x : Later wr, x.w.cell? ⟨g2, o2 + j, none⟩ = some (.int .i64 (ks.getD j 0)) := fun x => x.cell d2
            clear d1 d2 hc1 hc2 hi hi2
            generalize ks.getD j 0 = p at *
            have hne2 : (p != p) = false := by simp
            go_wp2_with fail
            refine wp_region_calm (by kernel_rfl) (by kernel_rfl) ?_
            repeat (go_big_quiet_step (fail))
            refine wpQuiet_nil ?_
            intro w9 hw9
            obtain ⟨⟨w9, hb9⟩, rfl⟩ := hw9
            clear k1 k2
            have H9 := hid (H.out.still hb9)
            have hN4 := HN.out
            go_wp2_with fail
            go_roundw
            case rel => exact ⟨j + 1, by omega, by go_num, H9⟩
            case measure => simp [intOf]; omega
          · have dlt : decide ((j : Int) < (ks.length : Int)) = false := by simp; omega
            have hk := Hd.nthk 3 H.out rfl
            have bc0 := (cell_of_heap hk 0).trans (show _ = some (.int .i64 (dk)) from rfl)
            have bc1 := (cell_of_heap hk 1).trans (show _ = some (.int .i64 (x0 + ks.length)) from rfl)
            have bcs := (Array.getElem?_eq_some_iff.1 hk).1
            clear hk
            have hk := Hd.nthk 1 H.out rfl
            have be0 := (cell_of_heap hk 0).trans (show _ = some (.int .i64 (dk)) from rfl)
            have be1 := (cell_of_heap hk 1).trans (show _ = some (.int .i64 (x0 + ks.length)) from rfl)
            have bes := (Array.getElem?_eq_some_iff.1 hk).1
            clear hk
            go_wp2_with fail
            refine (fixed15_calls H.out).mono ?_
            rintro e w9 ⟨rfl, h1⟩
            have H9 := hid h1
            clear h1
            go_wp2_with fail
            go_ret
            exact ⟨rfl, H9.out.below⟩
end Go.Proofs.Ytpcfmafokkffgaa

