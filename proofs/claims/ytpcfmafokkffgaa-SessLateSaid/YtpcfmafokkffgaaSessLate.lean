/-
  A walk through the statement SessLate. For every number below 256, and both ways.
-/
import Derived.Test.YtpcfmafokkffgaaZ12
namespace Go.Proofs.Ytpcfmafokkffgaa
open Go.RowKit

set_option maxRecDepth 100000 in
set_option maxHeartbeats 16000000 in
theorem sessLate_walk (x0 : Int) (b0 : 0 ≤ x0) (b0' : x0 ≤ 255) (x1 : Bool) (W : World) :
    Calls Try.prog 14 #[.int .u8 x0, .bool x1] W fun e w' => e = .returned (.bool true) ∧ Below W.heap.size W w' := by
  obtain ⟨k, hk⟩ : ∃ k : Nat, 1 + x0 % 120 = k := ⟨(1 + x0 % 120).toNat, by omega⟩
  have hk1 : 1 ≤ k := by omega
  have hk2 : k ≤ 120 := by omega
  have z0 : IntKind.i64.wrap x0 = x0 := IntWalk.i64_in _ (by omega)
  have z1 : x0.tmod 120 = x0 % 120 := Int.tmod_eq_emod_of_nonneg b0
  have z2 : IntKind.i64.wrap (x0 % 120) = x0 % 120 := IntWalk.i64_in _ (by omega)
  have z3 : IntKind.i64.wrap (k : Int) = k := IntWalk.i64_in _ (by omega)
  have KK := hid hk
  have K1 := hid hk1
  have K2 := hid hk2
  clear b0 b0' hk1 hk2
  go_enter Try.func14, Try.ntmps14
  go_wp2_with fail
  refine (pair_two (W := W)).mono ?_
  rintro e w1 ⟨b, pa, pb, rfl, h1⟩
  have TW := hid h1
  have G := hid (good2_start h1.good)
  clear h1
  go_wp2_with fail
  refine (seal_g (s := ⟨#[102, 105, 114, 115, 116]⟩) (by decide) (by decide) (by decide) G.out TW.out).mono ?_
  rintro e w2 ⟨c0, L0, rfl, h1, h2, h3, h4, h5⟩
  clear TW G
  have TW := hid h1
  have G := hid h2
  have C0 := hid (show Sl L0 2 1 0 0 ⟨#[102, 105, 114, 115, 116]⟩ c0 from h3)
  have N0 := hid (show L0.length ≤ 6 from h5)
  clear h1 h2 h3 h4 h5
  go_wp2_with fail
  go_loopw [13, 14] (fun v q wr => ∃ (i : Nat) (cc : Int) (x : Se) (L : List T), 1 ≤ i ∧ i ≤ k + 1 ∧ v = .int .i64 cc ∧ q = .int .i64 i ∧ Hid (Two W wr b pa pb x (se0 1 3 2 1) L 20000 []) ∧ Hid (Good2 L x (se0 1 3 2 1)) ∧ Hid (x.oe = 0 ∧ x.sent = i ∧ L.length ≤ 3 + 3 * i) ∧ Hid (Sl L 2 1 0 0 ⟨#[102, 105, 114, 115, 116]⟩ c0) ∧ Hid (2 ≤ i → Sl L 2 1 0 ((i : Int) - 1) ⟨#[120]⟩ cc)) (fun _ q _ => 130 - (intOf q).toNat)
  case atStart => exact ⟨1, 0, _, L0, by omega, by omega, rfl, rfl, TW, G, hid ⟨rfl, rfl, N0.out⟩, C0, hid fun h => by omega⟩
  case round =>
    clear TW G C0 N0
    obtain ⟨i, cc, x, L, hi1, hi, rfl, rfl, TW, G, S, C0, C⟩ := hrel
    obtain ⟨wl, hwl⟩ : ∃ wl : World, wl = wr := ⟨_, rfl⟩
    rw [← hwl] at TW ⊢
    clear hwl wr
    by_cases hlt : i ≤ k
    · have hd1 : decide ((i : Int) ≤ (k : Int)) = true := by simp; omega
      have z4 : IntKind.i64.wrap ((i : Int) + 1) = (i : Int) + 1 := IntWalk.i64_in _ (by have := K2.out; omega)
      have HLT := hid hlt
      have HI1 := hid hi1
      clear hlt hi hi1
      go_wp2_with fail
      refine (seal_g (s := ⟨#[120]⟩) (by decide) (by have := S.out.2.1; have := HLT.out; have := K2.out; omega) (by have := S.out.2.2; have := HLT.out; have := K2.out; omega) G.out TW.out).mono ?_
      rw [S.out.1, S.out.2.1]
      rintro e w2 ⟨c, L', rfl, h1, h2, h3, h4, h5⟩
      clear TW G C
      have TW := hid h1
      have G := hid h2
      have C := hid h3
      have C1 := hid (C0.out.ext h4)
      have N5 := hid h5
      clear h1 h2 h3 h4 h5 C0
      go_wp2_with fail
      go_roundw
      case rel => exact ⟨i + 1, c, _, L', (by omega), (by have := HLT.out; omega), by first | rfl | trivial, by go_num, TW, G, hid ⟨by first | exact S.out.1 | rfl, by dsimp only; omega, by have := S.out.2.2; have := N5.out; omega⟩, C1, hid fun _ => by rw [show (((i + 1 : Nat) : Int) - 1) = i by omega]; exact C.out⟩
      case measure => have := HLT.out; have := K2.out; simp [intOf]; omega
    · obtain rfl : i = k + 1 := by omega
      have hd1 : decide (((k + 1 : Nat) : Int) ≤ (k : Int)) = false := by simp; omega
      replace C : Hid (Sl L 2 1 0 (k : Int) ⟨#[120]⟩ cc) := hid (by have := C.out (by have := K1.out; omega); rw [show (((k + 1 : Nat) : Int) - 1) = k by omega] at this; exact this)
      clear hlt hi hi1
      obtain ⟨r1, hr1⟩ : ∃ r, (recv19 20000 L (se0 1 3 2 1).rc 0 (k : Int)).1 = r := ⟨_, rfl⟩
      have hl := late_first (m := 20000) (k := k) G.out.g G.out.nc G.out.yo.rc G.out.yr rfl K1.out (by have := S.out.2.2; have := K2.out; omega)
      rw [hr1] at hl
      have HL := hid hl
      have HR1 := hid hr1
      clear hl hr1
      by_cases hk63 : k ≤ 63
      · have hd2 : decide ((63 : Int) < (k : Int)) = false := by simp; omega
        have HK := hid hk63
        clear hk63
        cases x1
        · go_wp2_with fail
          refine (openl_g (t := ⟨#[120]⟩) (e := 0) (n := (k : Int)) (by omega) (by have := K2.out; omega) (by omega) C.out HL.out.1 G.out TW.out).mono ?_
          rw [HR1.out]
          rintro e w3 ⟨L1, rfl, h1, h2, h3, h4⟩
          clear TW G
          have TW := hid h1
          have G := hid h2
          have C1 := hid (C0.out.ext h3)
          have D1 := hid (C.out.ext h3)
          have N1 := hid h4
          clear h1 h2 h3 h4 C0 C
          go_wp2_with fail
          obtain ⟨y2, hy2⟩ : ∃ y2 : Se, y2 = { se0 1 3 2 1 with rc := r1 } := ⟨_, rfl⟩
          rw [← hy2] at TW G
          have LS : Hid (LateSt y2.rc k) := hid (by rw [hy2]; exact HL.out.2.1)
          have N9 : Hid (L1.length ≤ 1000) := hid (by have := S.out.2.2; have := N1.out; have := K2.out; omega)
          clear hy2
          have hl := late_open (m := 20000) (k := k) G.out.g G.out.nc G.out.yo.rc G.out.yr LS.out HK.out (by have := N9.out; omega)
          have HL3 := hid hl
          clear hl
          refine (openl_g (t := ⟨#[102, 105, 114, 115, 116]⟩) (e := 0) (n := 0) (by omega) (by omega) (by omega) C1.out HL3.out.1 G.out TW.out).mono ?_
          rintro e w7 ⟨L7, rfl, h1, h2, h3, h4⟩
          clear TW G
          have TW := hid h1
          have G := hid h2
          have D7 := hid (D1.out.ext h3)
          clear h1 h2 h3 h4 C1 D1
          go_wp2_with fail
          refine (opene_g (e := 0) (n := (k : Int)) (c := cc) D7.out.inn (by omega) (by omega) (by omega) (by have := K2.out; omega) (recv_old HL3.out.2) (by decide) G.out TW.out).mono ?_
          rintro e w8 ⟨L8, rfl, h1, h2, h3, h4⟩
          clear TW G
          have TW := hid h1
          clear h1 h2 h3 h4
          go_wp2_with fail
          refine (fixed19_calls _).mono ?_
          rintro e w9 ⟨rfl, h1⟩
          have T2 := hid (TW.out.below.trans (h1.mono TW.out.below.size))
          clear h1
          go_wp2_with fail
          go_ret
          exact ⟨rfl, T2.out⟩
        · go_wp2_with fail
          refine (openl_g (t := ⟨#[120]⟩) (e := 0) (n := (k : Int)) (by omega) (by have := K2.out; omega) (by omega) C.out HL.out.1 G.out TW.out).mono ?_
          rw [HR1.out]
          rintro e w3 ⟨L1, rfl, h1, h2, h3, h4⟩
          clear TW G
          have TW := hid h1
          have G := hid h2
          have C1 := hid (C0.out.ext h3)
          have D1 := hid (C.out.ext h3)
          have N1 := hid h4
          clear h1 h2 h3 h4 C0 C
          go_wp2_with fail
          refine (step_g (by rw [S.out.1]; decide) (by have := S.out.2.2; have := N1.out; have := K2.out; omega) G.out TW.out).mono ?_
          rintro e w4 ⟨kk, L2, rfl, h1, h2, h3, h4⟩
          clear TW G
          have TW := hid h1
          have G := hid h2
          have C2 := hid (C1.out.ext h3)
          have D2 := hid (D1.out.ext h3)
          have N2 := hid h4
          clear h1 h2 h3 h4 C1 D1
          go_wp2_with fail
          refine (seal_g (s := ⟨#[110, 101, 120, 116]⟩) (by decide) (show (0 : Int) < 256 by decide) (by have := S.out.2.2; have := N1.out; have := N2.out; have := K2.out; omega) G.out TW.out).mono ?_
          dsimp only
          rw [S.out.1]
          rintro e w5 ⟨c5, L3, rfl, h1, h2, h3, h4, h5⟩
          clear TW G
          have TW := hid h1
          have G := hid h2
          have E3 := hid (show Sl L3 2 1 1 0 ⟨#[110, 101, 120, 116]⟩ c5 from h3)
          have C3 := hid (C2.out.ext h4)
          have D3 := hid (D2.out.ext h4)
          have N3 := hid h5
          clear h1 h2 h3 h4 h5 C2 D2
          go_wp2_with fail
          obtain ⟨r2, hr2⟩ : ∃ r, (recv19 20000 L3 r1 1 0).1 = r := ⟨_, rfl⟩
          have hl := late_step (m := 20000) (k := k) G.out.g G.out.nc G.out.yo.rc G.out.yr (by rw [HL.out.2.2]) HL.out.2.1.1 K1.out (by have := S.out.2.2; have := N1.out; have := N2.out; have := N3.out; have := K2.out; omega)
          dsimp only at hl
          rw [hr2] at hl
          have HL2 := hid hl
          have HR2 := hid hr2
          clear hl hr2
          refine (openl_g (t := ⟨#[110, 101, 120, 116]⟩) (e := 1) (n := 0) (by omega) (by omega) (by omega) E3.out HL2.out.1 G.out TW.out).mono ?_
          dsimp only
          rw [HR2.out]
          rintro e w6 ⟨L4, rfl, h1, h2, h3, h4⟩
          clear TW G
          obtain ⟨y2, hy2⟩ : ∃ y2 : Se, y2 = { se0 1 3 2 1 with rc := r2 } := ⟨_, rfl⟩
          rw [← hy2] at h1 h2
          have TW := hid h1
          have G := hid h2
          have C1 := hid (C3.out.ext h3)
          have D1 := hid (D3.out.ext h3)
          have LS : Hid (LateSt y2.rc k) := hid (by rw [hy2]; exact HL2.out.2)
          have N9 : Hid (L4.length ≤ 1000) := hid (by have := S.out.2.2; have := N1.out; have := N2.out; have := N3.out; have := K2.out; omega)
          clear h1 h2 h3 h4 hy2 C3 D3
          go_wp2_with fail
          have hl := late_open (m := 20000) (k := k) G.out.g G.out.nc G.out.yo.rc G.out.yr LS.out HK.out (by have := N9.out; omega)
          have HL3 := hid hl
          clear hl
          refine (openl_g (t := ⟨#[102, 105, 114, 115, 116]⟩) (e := 0) (n := 0) (by omega) (by omega) (by omega) C1.out HL3.out.1 G.out TW.out).mono ?_
          rintro e w7 ⟨L7, rfl, h1, h2, h3, h4⟩
          clear TW G
          have TW := hid h1
          have G := hid h2
          have D7 := hid (D1.out.ext h3)
          clear h1 h2 h3 h4 C1 D1
          go_wp2_with fail
          refine (opene_g (e := 0) (n := (k : Int)) (c := cc) D7.out.inn (by omega) (by omega) (by omega) (by have := K2.out; omega) (recv_old HL3.out.2) (by decide) G.out TW.out).mono ?_
          rintro e w8 ⟨L8, rfl, h1, h2, h3, h4⟩
          clear TW G
          have TW := hid h1
          clear h1 h2 h3 h4
          go_wp2_with fail
          refine (fixed19_calls _).mono ?_
          rintro e w9 ⟨rfl, h1⟩
          have T2 := hid (TW.out.below.trans (h1.mono TW.out.below.size))
          clear h1
          go_wp2_with fail
          go_ret
          exact ⟨rfl, T2.out⟩
      · have hd2 : decide ((63 : Int) < (k : Int)) = true := by simp; omega
        have HK := hid (show 63 < k by omega)
        clear hk63
        cases x1
        · go_wp2_with fail
          refine (openl_g (t := ⟨#[120]⟩) (e := 0) (n := (k : Int)) (by omega) (by have := K2.out; omega) (by omega) C.out HL.out.1 G.out TW.out).mono ?_
          rw [HR1.out]
          rintro e w3 ⟨L1, rfl, h1, h2, h3, h4⟩
          clear TW G
          have TW := hid h1
          have G := hid h2
          have C1 := hid (C0.out.ext h3)
          have D1 := hid (C.out.ext h3)
          have N1 := hid h4
          clear h1 h2 h3 h4 C0 C
          go_wp2_with fail
          obtain ⟨y2, hy2⟩ : ∃ y2 : Se, y2 = { se0 1 3 2 1 with rc := r1 } := ⟨_, rfl⟩
          rw [← hy2] at TW G
          have LS : Hid (LateSt y2.rc k) := hid (by rw [hy2]; exact HL.out.2.1)
          have N9 : Hid (L1.length ≤ 1000) := hid (by have := S.out.2.2; have := N1.out; have := K2.out; omega)
          clear hy2
          refine (opene_g (e := 0) (n := 0) (c := c0) C1.out.inn (by omega) (by omega) (by omega) (by omega) (late_old LS.out HK.out) (by decide) G.out TW.out).mono ?_
          rintro e w7 ⟨L7, rfl, h1, h2, h3, h4⟩
          clear TW G
          have TW := hid h1
          have G := hid h2
          have D7 := hid (D1.out.ext h3)
          clear h1 h2 h3 h4 C1 D1
          go_wp2_with fail
          refine (opene_g (e := 0) (n := (k : Int)) (c := cc) D7.out.inn (by omega) (by omega) (by omega) (by have := K2.out; omega) (recv_old LS.out.1) (by decide) G.out TW.out).mono ?_
          rintro e w8 ⟨L8, rfl, h1, h2, h3, h4⟩
          clear TW G
          have TW := hid h1
          clear h1 h2 h3 h4
          go_wp2_with fail
          refine (fixed19_calls _).mono ?_
          rintro e w9 ⟨rfl, h1⟩
          have T2 := hid (TW.out.below.trans (h1.mono TW.out.below.size))
          clear h1
          go_wp2_with fail
          go_ret
          exact ⟨rfl, T2.out⟩
        · go_wp2_with fail
          refine (openl_g (t := ⟨#[120]⟩) (e := 0) (n := (k : Int)) (by omega) (by have := K2.out; omega) (by omega) C.out HL.out.1 G.out TW.out).mono ?_
          rw [HR1.out]
          rintro e w3 ⟨L1, rfl, h1, h2, h3, h4⟩
          clear TW G
          have TW := hid h1
          have G := hid h2
          have C1 := hid (C0.out.ext h3)
          have D1 := hid (C.out.ext h3)
          have N1 := hid h4
          clear h1 h2 h3 h4 C0 C
          go_wp2_with fail
          refine (step_g (by rw [S.out.1]; decide) (by have := S.out.2.2; have := N1.out; have := K2.out; omega) G.out TW.out).mono ?_
          rintro e w4 ⟨kk, L2, rfl, h1, h2, h3, h4⟩
          clear TW G
          have TW := hid h1
          have G := hid h2
          have C2 := hid (C1.out.ext h3)
          have D2 := hid (D1.out.ext h3)
          have N2 := hid h4
          clear h1 h2 h3 h4 C1 D1
          go_wp2_with fail
          refine (seal_g (s := ⟨#[110, 101, 120, 116]⟩) (by decide) (show (0 : Int) < 256 by decide) (by have := S.out.2.2; have := N1.out; have := N2.out; have := K2.out; omega) G.out TW.out).mono ?_
          dsimp only
          rw [S.out.1]
          rintro e w5 ⟨c5, L3, rfl, h1, h2, h3, h4, h5⟩
          clear TW G
          have TW := hid h1
          have G := hid h2
          have E3 := hid (show Sl L3 2 1 1 0 ⟨#[110, 101, 120, 116]⟩ c5 from h3)
          have C3 := hid (C2.out.ext h4)
          have D3 := hid (D2.out.ext h4)
          have N3 := hid h5
          clear h1 h2 h3 h4 h5 C2 D2
          go_wp2_with fail
          obtain ⟨r2, hr2⟩ : ∃ r, (recv19 20000 L3 r1 1 0).1 = r := ⟨_, rfl⟩
          have hl := late_step (m := 20000) (k := k) G.out.g G.out.nc G.out.yo.rc G.out.yr (by rw [HL.out.2.2]) HL.out.2.1.1 K1.out (by have := S.out.2.2; have := N1.out; have := N2.out; have := N3.out; have := K2.out; omega)
          dsimp only at hl
          rw [hr2] at hl
          have HL2 := hid hl
          have HR2 := hid hr2
          clear hl hr2
          refine (openl_g (t := ⟨#[110, 101, 120, 116]⟩) (e := 1) (n := 0) (by omega) (by omega) (by omega) E3.out HL2.out.1 G.out TW.out).mono ?_
          dsimp only
          rw [HR2.out]
          rintro e w6 ⟨L4, rfl, h1, h2, h3, h4⟩
          clear TW G
          obtain ⟨y2, hy2⟩ : ∃ y2 : Se, y2 = { se0 1 3 2 1 with rc := r2 } := ⟨_, rfl⟩
          rw [← hy2] at h1 h2
          have TW := hid h1
          have G := hid h2
          have C1 := hid (C3.out.ext h3)
          have D1 := hid (D3.out.ext h3)
          have LS : Hid (LateSt y2.rc k) := hid (by rw [hy2]; exact HL2.out.2)
          have N9 : Hid (L4.length ≤ 1000) := hid (by have := S.out.2.2; have := N1.out; have := N2.out; have := N3.out; have := K2.out; omega)
          clear h1 h2 h3 h4 hy2 C3 D3
          go_wp2_with fail
          refine (opene_g (e := 0) (n := 0) (c := c0) C1.out.inn (by omega) (by omega) (by omega) (by omega) (late_old LS.out HK.out) (by decide) G.out TW.out).mono ?_
          rintro e w7 ⟨L7, rfl, h1, h2, h3, h4⟩
          clear TW G
          have TW := hid h1
          have G := hid h2
          have D7 := hid (D1.out.ext h3)
          clear h1 h2 h3 h4 C1 D1
          go_wp2_with fail
          refine (opene_g (e := 0) (n := (k : Int)) (c := cc) D7.out.inn (by omega) (by omega) (by omega) (by have := K2.out; omega) (recv_old LS.out.1) (by decide) G.out TW.out).mono ?_
          rintro e w8 ⟨L8, rfl, h1, h2, h3, h4⟩
          clear TW G
          have TW := hid h1
          clear h1 h2 h3 h4
          go_wp2_with fail
          refine (fixed19_calls _).mono ?_
          rintro e w9 ⟨rfl, h1⟩
          have T2 := hid (TW.out.below.trans (h1.mono TW.out.below.size))
          clear h1
          go_wp2_with fail
          go_ret
          exact ⟨rfl, T2.out⟩
end Go.Proofs.Ytpcfmafokkffgaa
