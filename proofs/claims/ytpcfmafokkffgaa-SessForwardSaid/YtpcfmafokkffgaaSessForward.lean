/-
  A walk through the statement SessForward. For every script, every order, and whatever is broken.
-/
import Derived.Test.YtpcfmafokkffgaaY11
namespace Go.Proofs.Ytpcfmafokkffgaa
open Go.RowKit

set_option maxRecDepth 100000 in
set_option maxHeartbeats 32000000 in
theorem sessForward_walkA (ad : Option Addr) (len cap : Nat) (zs : List Int) (ad2 : Option Addr) (len2 cap2 : Nat) (zs2 : List Int) (x2 : Int) (_b2 : 0 ≤ x2) (_b2' : x2 ≤ 255) (W : World) (hlen : len = zs.length) (hmax : len ≤ maxLen) (hzs : NumsIn .u8 W ad zs) (hlen2 : len2 = zs2.length) (hmax2 : len2 ≤ maxLen) (hzs2 : NumsIn .u8 W ad2 zs2) (hl20 : len ≤ 20) :
    Calls Try.prog 16 #[.slice ad len cap, .slice ad2 len2 cap2, .int .u8 x2] W fun e w' => e = .returned (.bool true) ∧ Below W.heap.size W w' := by
  have Hlen := hid hlen
  have Hzs := hid hzs
  have hm : len ≤ 9223372036854775807 := by unfold maxLen at hmax; exact hmax
  have Hlen2 := hid hlen2
  have Hzs2 := hid hzs2
  have hm2 : len2 ≤ 9223372036854775807 := by unfold maxLen at hmax2; exact hmax2
  obtain ⟨i0, hi0, hz0, hs0, hy0⟩ := info_int
  obtain ⟨dh, hdh⟩ : ∃ d, (bits .and .u8 x2 1 == 1) = d := ⟨_, rfl⟩
  obtain ⟨kem, hkem⟩ : ∃ d, (bits .and .u8 x2 2 == 2) = d := ⟨_, rfl⟩
  clear hlen hmax hzs hlen2 hmax2 hzs2
  go_enter Try.func16, Try.ntmps16
  go_wp2_with fail
  refine (pair_two (W := W)).mono ?_
  rintro e w1 ⟨b, pa, pb, rfl, h1⟩
  have TW := hid h1
  have G := hid (good2_start h1.good)
  clear h1
  go_wp2_with fail
  have TW2 := hid (((TW.out.row (E := 55) w1.heap.size rfl 3).lit (E := 3) (w1.heap.size + 1) (by simp) [1] (n := 1) rfl rfl (by decide)).turn)
  clear TW
  go_loopw [10, 11, 12] (fun vs vk q wr => ∃ (i g1 c1 g2 c2 n : Nat) (l : List Tr) (x : Se) (L : List T), i ≤ 20 ∧ i ≤ len ∧ vs = .slice (some ⟨g1, 0, none⟩) n c1 ∧ vk = .slice (some ⟨g2, 0, none⟩) (n + 1) c2 ∧ q = .int .i64 i ∧ Hid (Two W wr b pa pb x (se0 1 3 2 1) L 20000 [RowR 55 3 (.slice (some ⟨g1, 0, none⟩) n c1) n (trC l), RowR 3 1 (.slice (some ⟨g2, 0, none⟩) (n + 1) c2) (n + 1) (nums .i64 (knowns l []))]) ∧ Hid (Good2 L x (se0 1 3 2 1)) ∧ Hid (SentX L l) ∧ Hid (n = l.length) ∧ Hid (x.oe ≤ i ∧ x.sent ≤ i ∧ L.length ≤ 3 + 3 * i ∧ n ≤ i) ∧ Hid (AllL L) ∧ Hid (Non L 1)) (fun _ _ q _ => 20 - (intOf q).toNat)
  case atStart => exact ⟨0, _, _, _, _, 0, [], _, _, by omega, by omega, rfl, rfl, rfl, TW2, G, hid (SentX.nil _), hid rfl, hid ⟨by decide, by decide, by decide, by decide⟩, hid all_pl3, hid ⟨0, ⟨by decide, by decide, rfl⟩⟩⟩
  case round =>
    clear TW2 G
    obtain ⟨i, g1, c1, g2, c2, n, l, x, L, hi, hil, rfl, rfl, rfl, TW, G, SO, HN, S, AL, N1⟩ := hrel
    obtain ⟨wl, hwl⟩ : ∃ wl : World, wl = wr := ⟨_, rfl⟩
    rw [← hwl] at TW ⊢
    clear hwl wr
    by_cases hlt : i < len ∧ i < 20
    · have hd1 : decide ((i : Int) < (len : Int)) = true := by simp; omega
      have hd1' : decide (i < len) = true := by simp; omega
      have hd2 : decide ((i : Int) < 20) = true := by simp; omega
      have z4 : IntKind.i64.wrap ((i : Int) + 1) = (i : Int) + 1 := IntWalk.i64_in _ (by omega)
      obtain ⟨z, hz⟩ : ∃ z, zs[i]? = some z := ⟨zs[i]'(by rw [← Hlen.out]; exact hlt.1), List.getElem?_eq_getElem _⟩
      obtain ⟨z0, z1, gg, oo, rfl, hc0⟩ := (Hzs.out.later TW.out.below) i z hz
      have z0' : 0 ≤ z := by simpa [IntKind.min, IntKind.signed] using z0
      have z1' : z ≤ 255 := by simpa [IntKind.max, IntKind.signed, IntKind.bits] using z1
      have zj0 : (0 : Int) ≤ (i : Int) := by omega
      have zj1 : (i : Int) < (len : Int) := by omega
      obtain ⟨r, hr1⟩ : ∃ r, z.tmod 3 = r := ⟨_, rfl⟩
      have hr3 : 0 ≤ r ∧ r ≤ 3 := by rw [← hr1, Int.tmod_eq_emod_of_nonneg z0']; omega
      have y1 : IntKind.u8.wrap r = r := IntWalk.u8_in _ (by omega)
      have HLT := hid hlt
      clear hlt hi hil hz z0 z1
      by_cases he : r = 0
      · have e1 : (r == 0) = true := by simpa using he
        clear he hr3
        go_wp2_with fail
        refine (step_f AL.out (by have := S.out.1; have := HLT.out; omega) (by have := S.out.2.2.1; have := HLT.out; omega) G.out TW.out).mono ?_
        rintro e w2 ⟨kk, L', rfl, h1, h2, h3, h4, h5⟩
        clear TW G
        have TW := hid h1
        have G := hid h2
        have SO2 := hid (SO.out.ext h3)
        have N2 := hid (N1.out.ext h3)
        have N5 := hid h4
        have AL2 := hid h5
        clear h1 h2 h3 h4 h5 SO AL N1
        go_wp2_with fail
        go_roundw
        case rel => exact ⟨i + 1, g1, c1, g2, c2, n, l, _, L', (by have := HLT.out; omega), (by have := HLT.out; omega), rfl, rfl, by go_num, TW, G, SO2, HN, hid ⟨by have := S.out.1; dsimp only; omega, by dsimp only; omega, by have := S.out.2.2.1; have := N5.out; omega, by have := S.out.2.2.2; omega⟩, AL2, N2⟩
        case measure => have := HLT.out; simp [intOf]; omega
      · have e1 : (r == 0) = false := by simpa using he
        clear he hr3
        go_wp2_with fail
        refine (seal_f (s := ⟨#[120]⟩) AL.out (by decide) (by have := S.out.2.1; have := HLT.out; omega) (by have := S.out.2.2.1; have := HLT.out; omega) G.out TW.out).mono ?_
        obtain ⟨e0, he0⟩ : ∃ e, x.oe = e := ⟨_, rfl⟩
        obtain ⟨n0, hn0⟩ : ∃ n, x.sent = n := ⟨_, rfl⟩
        rw [he0, hn0]
        rintro e w2 ⟨c, L', rfl, h1, h2, h3, h4, h5, h6⟩
        clear TW
        have TW := hid h1
        have G2 := hid h2
        have SO2 : Hid (SentX L' (l ++ [(e0, n0, c)])) := hid ((SO.out.ext h4).snoc h3 ⟨by rw [← hn0]; exact G.out.xo.s0, by have := S.out.2.1; have := HLT.out; dsimp only; omega⟩ (by have := S.out.1; have := HLT.out; dsimp only; omega))
        have N2 := hid (N1.out.ext h4)
        have N5 := hid h5
        have AL2 := hid h6
        have HE0 := hid he0
        have HN0 := hid hn0
        clear h1 h2 h3 h4 h5 h6 SO G AL N1 he0 hn0
        obtain ⟨Ss, hA, hB⟩ := TW.out.first
        have HA := hid hA
        have HB := hid hB
        clear hA hB TW
        go_wp2_with (at_builtin; refine append_tr (l := l) (e0, n0, c) rfl (.tmp 70) (.tmp 75) rfl rfl HA.out (by rfl) (by rfl) (by have := S.out.2.2.2; have := HLT.out; omega) ?_; intro g3 c3 w3 h3; have TW3 := hid ((HB.out _ _ h3).turn); clear h3 HA HB; obtain ⟨Ss2, hA, hB⟩ := TW3.out.first; have HA := hid hA; have HB := hid hB; clear hA hB TW3; go_wp2_with (at_builtin; refine append_num (k := .i64) (zs := knowns l []) Try.underlying33 hi0 hz0 hs0 hy0 (by decide) rfl (.tmp 77) (.tmp 79) rfl HA.out (by rfl) c (by rfl) (by have := S.out.2.2.2; have := HLT.out; omega) ?_; intro g4 c4 w4 h4; have TW4 := hid ((HB.out _ _ h4).turn); clear h4 HA HB))
        go_roundw
        case rel => exact ⟨i + 1, g3, c3, g4, c4, n + 1, l ++ [(e0, n0, c)], _, L', (by have := HLT.out; omega), (by have := HLT.out; omega), by first | rfl | trivial, by first | rfl | trivial, by go_num, hid (by rw [show knowns (l ++ [(e0, n0, c)]) [] = knowns l [] ++ [c] by simp [knowns]]; exact TW4.out), G2, SO2, hid (by rw [List.length_append, ← HN.out]; rfl), hid ⟨by have := S.out.1; have := HE0.out; dsimp only; omega, by have := S.out.2.1; have := HN0.out; dsimp only; omega, by have := S.out.2.2.1; have := N5.out; omega, by have := S.out.2.2.2; omega⟩, AL2, N2⟩
        case measure => have := HLT.out; simp [intOf]; omega
    · have hd1 : decide ((i : Int) < (len : Int)) = false := by simp; omega
      have hd1' : decide (i < len) = false := by simp; omega
      have NL : Hid (L.length ≤ 63) := hid (by have := S.out.2.2.1; omega)
      have NN : Hid (n ≤ 20) := hid (by have := S.out.2.2.2; omega)
      clear hlt hi hil S hl20
      go_wp2_with fail
      clear hd1 hd1'
      try clear hd2
      go_loopw [17] (fun q wr => ∃ (j : Nat) (y : Se) (M : List T), j ≤ 20 ∧ j ≤ len2 ∧ q = .int .i64 j ∧ Hid (Two W wr b pa pb x y M 20000 [RowR 55 3 (.slice (some ⟨g1, 0, none⟩) n c1) n (trC l), RowR 3 1 (.slice (some ⟨g2, 0, none⟩) (n + 1) c2) (n + 1) (nums .i64 (knowns l []))]) ∧ Hid (Good2 M x y) ∧ Hid (SentX M l) ∧ Hid (M.length ≤ 63 + 9 * j) ∧ Hid (AllL M) ∧ Hid (Non M 1) ∧ Hid (y.ok = 3)) (fun q _ => 20 - (intOf q).toNat)
      case atStart => exact ⟨0, _, _, by omega, by omega, rfl, TW, G, SO, hid (by have := NL.out; omega), AL, N1, hid rfl⟩
      case round =>
        clear TW G SO NL AL N1
        obtain ⟨j, y, M, hj, hjl, rfl, TW, G, SO, NM, AL, N1, OK⟩ := hrel
        obtain ⟨wl, hwl⟩ : ∃ wl : World, wl = wr := ⟨_, rfl⟩
        rw [← hwl] at TW ⊢
        clear hwl wr
        by_cases hlt : j < len2 ∧ j < 20 ∧ 0 < n
        · have hd1 : decide ((j : Int) < (len2 : Int)) = true := by simp; omega
          have hd1' : decide (j < len2) = true := by simp; omega
          have hd2 : decide ((j : Int) < 20) = true := by simp; omega
          have hd3 : decide ((0 : Int) < (n : Int)) = true := by simp; omega
          have hd3' : decide (0 < n) = true := by simp; omega
          have z4 : IntKind.i64.wrap ((j : Int) + 1) = (j : Int) + 1 := IntWalk.i64_in _ (by omega)
          obtain ⟨z, hz⟩ : ∃ z, zs2[j]? = some z := ⟨zs2[j]'(by rw [← Hlen2.out]; exact hlt.1), List.getElem?_eq_getElem _⟩
          obtain ⟨z0, z1, gg, oo, rfl, hc0⟩ := (Hzs2.out.later TW.out.below) j z hz
          have z0' : 0 ≤ z := by simpa [IntKind.min, IntKind.signed] using z0
          have z1' : z ≤ 255 := by simpa [IntKind.max, IntKind.signed, IntKind.bits] using z1
          have zj0 : (0 : Int) ≤ (j : Int) := by omega
          have zj1 : (j : Int) < (len2 : Int) := by omega
          have n0 : ((n : Int) == 0) = false := by simp; omega
          have n0' : (n == 0) = false := by simp; omega
          have hkr := mod_range z (show (1 : Int) ≤ n by omega)
          obtain ⟨kk, hkk⟩ : ∃ kk : Nat, z.tmod n = kk := ⟨(z % n).toNat, by rw [Int.tmod_eq_emod_of_nonneg z0']; omega⟩
          have hkn : kk < n := by rw [Int.tmod_eq_emod_of_nonneg z0'] at hkk; omega
          have v1 : IntKind.i64.wrap z = z := IntWalk.i64_in _ (by omega)
          have v2 : IntKind.i64.wrap (kk : Int) = kk := IntWalk.i64_in _ (by have := NN.out; omega)
          have k0 : (0 : Int) ≤ (kk : Int) := by omega
          have k1 : (kk : Int) < (n : Int) := by omega
          obtain ⟨⟨eK, nK, cK⟩, hzK⟩ : ∃ u, l[kk]? = some u := ⟨l[kk]'(by rw [← HN.out]; exact hkn), List.getElem?_eq_getElem _⟩
          have a0 : ∀ x : Later wl, x.w.cell? ⟨g1, kk * 3, none⟩ = some (.int .i64 eK) := fun x => x.cell (TW.out.tr_cell hzK).1
          have a1 : ∀ x : Later wl, x.w.cell? ⟨g1, kk * 3 + 1, none⟩ = some (.int .i64 nK) := fun x => x.cell (TW.out.tr_cell hzK).2.1
          have a2 : ∀ x : Later wl, x.w.cell? ⟨g1, kk * 3 + 2, none⟩ = some (.int .i64 cK) := fun x => x.cell (TW.out.tr_cell hzK).2.2
          have HB := hid (show (0 ≤ nK ∧ nK < 256) ∧ eK ≤ 100 ∧ 0 ≤ eK from ⟨(SO.out kk _ hzK).2.1, (SO.out kk _ hzK).2.2, (SO.out kk _ hzK).1.1⟩)
          have HLT := hid hlt
          clear hlt hj hjl hz z0 z1 hkr hkn hzK
          go_wp2_with fail
          refine wp_region_turn (C := fun w' => ∃ x : Later wl, w' = x.w) 16 _ (by kernel_rfl) (by kernel_rfl) rfl rfl ⟨⟨_, (Below.refl _ _).drew⟩, rfl⟩ ?_
          simp only [List.take_succ_cons, List.take_zero, List.drop_succ_cons, List.drop_zero]
          repeat (go_big_quiet_step (fail))
          refine wpQuiet_nil ?_
          intro wt hwt KK hKK
          have HK := hid hKK
          clear hKK
          obtain ⟨⟨wt, hbt⟩, rfl⟩ := hwt
          have TWt := hid (TW.out.still hbt)
          clear hbt TW a0 a1 a2
          go_wp2_with fail
          refine (open_f (e := eK) (n := nK) (c := cK) AL.out OK.out (by have := HB.out; omega) (by have := HB.out; omega) (by have := HB.out; omega) (by have := HB.out; omega) G.out TWt.out).mono ?_
          rintro e w3 ⟨t, er, y3, M3, rfl, h1, h2, h3, h4, h5⟩
          clear TWt
          have TW := hid h1
          replace G := hid h2
          replace SO := hid (SO.out.ext h3.1)
          replace N1 := hid (N1.out.ext h3.1)
          replace NM := hid (show M3.length ≤ 72 + 9 * j by have := h3.2.2; have := NM.out; omega)
          replace AL := hid h4
          replace OK := hid h5
          clear h1 h2 h3 h4 h5 hc0
          go_wp2_with fail
          refine HK.out _ _ ⟨fun w' => w' = w3, rfl, ?_⟩
          clear HK
          refine wpQuiet_nil ?_
          rintro w3 rfl
          go_wp2_with fail
          go_roundw
          case rel => exact ⟨j + 1, y3, M3, (by have := HLT.out; omega), (by have := HLT.out; omega), by go_num, TW, G, SO, hid (by have := NM.out; omega), AL, N1, OK⟩
          case measure => have := HLT.out; simp [intOf]; omega
        · have hex2 : (decide ((j : Int) < (len2 : Int)) = false ∧ decide (j < len2) = false) ∨ (decide ((j : Int) < (len2 : Int)) = true ∧ decide (j < len2) = true ∧ decide ((j : Int) < 20) = false) ∨ (decide ((j : Int) < (len2 : Int)) = true ∧ decide (j < len2) = true ∧ decide ((j : Int) < 20) = true ∧ decide ((0 : Int) < (n : Int)) = false ∧ decide (0 < n) = false) := by
            by_cases h : j < len2
            · by_cases h' : j < 20
              · right; right; refine ⟨by simp; omega, by simp; omega, by simp; omega, by simp; omega, by simp; omega⟩
              · right; left; refine ⟨by simp; omega, by simp; omega, by simp; omega⟩
            · left; refine ⟨by simp; omega, by simp; omega⟩
          replace NM : Hid (M.length ≤ 243) := hid (by have := NM.out; omega)
          clear hlt hj hjl
          rcases hex2 with ⟨hd1, hd1'⟩ | ⟨hd1, hd1', hd2⟩ | ⟨hd1, hd1', hd2, hd3, hd3'⟩
          · go_wp2_with fail
            clear hd1 hd1'
            try clear hd2
            try clear hd3 hd3'
            obtain ⟨hl, hhl⟩ : ∃ h, 2 + (kKeys y.rc.es).length = h := ⟨_, rfl⟩
            refine (keys_two G.out.yo.rc.len TW.out.swap).mono ?_
            rw [hhl]
            rintro e w4 ⟨a3, c3, rfl, h1⟩
            clear TW
            have hl8 : hl ≤ 6 := by have := G.out.yo.rc.len; have : (kKeys y.rc.es).length = y.rc.es.length := by simp [kKeys]
                                    omega
            have hl2 : 2 ≤ hl := by omega
            obtain ⟨Sx, hx1, hx2⟩ := h1.first
            obtain ⟨g3, cx, hx3, _⟩ := hx1.row_cell (j := 0) (u := .int .i64 y.ok) (by simp [nums])
            simp only [Value.slice.injEq] at hx3
            obtain ⟨rfl, _, rfl⟩ := hx3
            clear hx1 hx2
            have TWa := hid (h1.swap.pull 2 rfl)
            have HL := hid hhl
            have HL8 := hid hl8
            have HL2 := hid hl2
            have hheld : hl = ([y.ok, y.rc.ik] ++ kKeys y.rc.es).length := by simp; omega
            have HHE := hid hheld
            have hcl : ∀ (i : Nat) (z : Int), ([y.ok, y.rc.ik] ++ kKeys y.rc.es)[i]? = some z → w4.cell? ⟨g3, 0 + i, none⟩ = some (.int .i64 z) := fun i z hz => by
              rw [Nat.zero_add]
              exact (h1.num_at hz).1
            have HCL := hid hcl
            clear h1 hhl hl8 hl2 hheld hcl
            obtain ⟨Ss, hA, hB⟩ := TWa.out.first
            have HA := hid hA
            have HB := hid hB
            clear hA hB TWa
            go_wp2_with (at_builtin; refine append_ints (k := .i64) (zs := knowns l []) (ys := [y.ok, y.rc.ik] ++ kKeys y.rc.es) (g := g3) (c := c3) Try.underlying33 hi0 hz0 hs0 hy0 (by decide) rfl (.tmp 123) (.tmp 124) rfl (by simp) HA.out HCL.out (by rfl) (by rw [← HHE.out]; rfl) (by rw [← HHE.out]; have := HL8.out; have := NN.out; omega) ?_; intro g4 c4 w5 h4; rw [← HHE.out] at h4 ⊢; have TW4 := hid (HB.out _ _ h4); clear h4 HA HB HCL; obtain ⟨pf, hpf⟩ : ∃ p, w5.heap.size = p := ⟨_, rfl⟩; have TW := hid ((TW4.out.boxk (o := .cells #[.bool dh, .bool kem] 69 (0, 0)) pf hpf).turn); clear TW4)
            rw [show knowns l [] ++ ([y.ok, y.rc.ik] ++ kKeys y.rc.es) = knowns l ([y.ok, y.rc.ik] ++ kKeys y.rc.es) by simp [knowns]] at TW
            have TW2 : Hid (Two W (w5.alloc (.cells #[.bool dh, .bool kem] 69 (0, 0))) b pa pb x y M 20000 [RowR 3 1 (.slice (some ⟨g4, 0, none⟩) (n + 1 + hl) c4) (n + 1 + hl) (nums .i64 (knowns l ([y.ok, y.rc.ik] ++ kKeys y.rc.es))), Blk pf (.cells #[.bool dh, .bool kem] 69 (0, 0)), RowR 3 1 (.slice (some ⟨g3, 0, none⟩) hl c3) hl (nums .i64 ([y.ok, y.rc.ik] ++ kKeys y.rc.es)), RowR 55 3 (.slice (some ⟨g1, 0, none⟩) n c1) n (trC l)]) := TW
            clear TW
            refine (now_two TW2.out.swap).mono ?_
            obtain ⟨ie, hie⟩ : ∃ e, y.rc.ie = e := ⟨_, rfl⟩
            rw [hie]
            rintro e w6 ⟨rfl, h1⟩
            clear TW2
            have TW := hid h1.swap
            have HIE := hid hie
            have d9 : decide ((hl : Int) < 2) = false := by have := HL2.out; simp; omega
            have d9' : decide (hl < 2) = false := by have := HL2.out; simp; omega
            clear h1 hie hpf
            have hKI := knows_in G.out SO.out OK.out
            have KI := hid hKI
            clear hKI
            go_wp2_with fail
            clear d9 d9'
            go_loopw [24] (fun q wr => ∃ r : Nat, r ≤ n ∧ q = .int .i64 r ∧ Hid (Two W wr b pa pb x y M 20000 [RowR 3 1 (.slice (some ⟨g4, 0, none⟩) (n + 1 + hl) c4) (n + 1 + hl) (nums .i64 (knowns l ([y.ok, y.rc.ik] ++ kKeys y.rc.es))), Blk pf (.cells #[.bool dh, .bool kem] 69 (0, 0)), RowR 3 1 (.slice (some ⟨g3, 0, none⟩) hl c3) hl (nums .i64 ([y.ok, y.rc.ik] ++ kKeys y.rc.es)), RowR 55 3 (.slice (some ⟨g1, 0, none⟩) n c1) n (trC l)])) (fun q _ => n - (intOf q).toNat)
            case atStart => exact ⟨0, by omega, rfl, TW⟩
            case round =>
              clear TW
              obtain ⟨r, hr1, rfl, TW⟩ := hrel
              obtain ⟨w7, hw7⟩ : ∃ w7 : World, w7 = wr := ⟨_, rfl⟩
              rw [← hw7] at TW ⊢
              clear hw7 wr
              by_cases hlt : r < n
              · have hd1 : decide ((r : Int) < (n : Int)) = true := by simp; omega
                have hd1' : decide (r < n) = true := by simp; omega
                have z4 : IntKind.i64.wrap ((r : Int) + 1) = (r : Int) + 1 := IntWalk.i64_in _ (by have := NN.out; omega)
                have r0 : (0 : Int) ≤ (r : Int) := by omega
                have r1 : (r : Int) < (n : Int) := by omega
                obtain ⟨⟨eK, nK, cK⟩, hzK⟩ : ∃ u, l[r]? = some u := ⟨l[r]'(by rw [← HN.out]; exact hlt), List.getElem?_eq_getElem _⟩
                obtain ⟨yk, p0, hsea, hyk, hiff⟩ := can_text G.out AL.out N1.out SO.out OK.out hzK dh kem
                rw [HIE.out] at hiff
                have a2 := ((TW.out.pull 3 rfl).tr_cell hzK).2.2
                have ZK := hid hzK
                have HSEA := hid hsea
                have HYK := hid hyk
                have HIFF := hid hiff
                have HLT := hid hlt
                clear hlt hr1 hzK hsea hyk hiff
                go_wp2_with fail
                refine (get_sea HSEA.out TW.out).mono ?_
                rintro e w8 ⟨rfl, h1⟩
                clear TW a2
                obtain ⟨pt, hpt⟩ : ∃ p, w8.heap.size = p := ⟨_, rfl⟩
                have TW := hid ((h1.boxk (o := .cells #[.int .i64 10, .string ⟨#[]⟩, .int .u64 nK, .int .i64 yk, .int .i64 1, .int .i64 p0] 47 (0, 0)) pt hpt).turn)
                have hk := (TW.out.pull 2 rfl).blk
                have f0 := (cell_of_heap hk 0).trans (show _ = some (.bool dh) from rfl)
                have f1 := (cell_of_heap hk 1).trans (show _ = some (.bool kem) from rfl)
                clear hk
                have hk := (TW.out.pull 1 rfl).blk
                have t3 := (cell_of_heap hk 3).trans (show _ = some (.int .i64 yk) from rfl)
                clear hk
                clear h1
                go_wp2_with fail
                refine (can_two dh kem (some ⟨g4, 0, none⟩) c4 KI.out HYK.out TW.out).mono ?_
                rintro e w10 ⟨p, rfl, hp, h1⟩
                clear TW f0 f1 t3 hpt
                have TW := hid h1
                have HP := hid hp
                clear h1 hp
                go_wp2_with fail
                go_loopw [29, 30] (fun v q wr => ∃ (j2 kq : Nat) (kb : Bool), j2 ≤ (kKeys y.rc.es).length ∧ v = .bool kb ∧ q = .int .i64 kq ∧ Hid (kq = 2 + j2) ∧ Hid (kb = decide (yk ∈ (kKeys y.rc.es).take j2)) ∧ Hid (Two W wr b pa pb x y M 20000 [RowR 3 1 (.slice (some ⟨g4, 0, none⟩) (n + 1 + hl) c4) (n + 1 + hl) (nums .i64 (knowns l ([y.ok, y.rc.ik] ++ kKeys y.rc.es))), Blk pt (.cells #[.int .i64 10, .string ⟨#[]⟩, .int .u64 nK, .int .i64 yk, .int .i64 1, .int .i64 p0] 47 (0, 0)), Blk pf (.cells #[.bool dh, .bool kem] 69 (0, 0)), RowR 3 1 (.slice (some ⟨g3, 0, none⟩) hl c3) hl (nums .i64 ([y.ok, y.rc.ik] ++ kKeys y.rc.es)), RowR 55 3 (.slice (some ⟨g1, 0, none⟩) n c1) n (trC l)])) (fun _ q _ => hl - (intOf q).toNat)
                case atStart => exact ⟨0, 2, false, by omega, rfl, rfl, hid rfl, hid (by simp), TW⟩
                case round =>
                  clear TW
                  obtain ⟨j2, kq, kb, hj2, rfl, rfl, HQ, HKB, TW⟩ := hrel
                  obtain ⟨w11, hw11⟩ : ∃ w11 : World, w11 = wr := ⟨_, rfl⟩
                  rw [← hw11] at TW ⊢
                  clear hw11 wr
                  by_cases hlt2 : kq < hl
                  · have hd2 : decide ((kq : Int) < (hl : Int)) = true := by simp; omega
                    have hd2' : decide (kq < hl) = true := by simp; omega
                    have z5 : IntKind.i64.wrap ((kq : Int) + 1) = (kq : Int) + 1 := IntWalk.i64_in _ (by have := HL8.out; omega)
                    have q0 : (0 : Int) ≤ (kq : Int) := by omega
                    have q1 : (kq : Int) < (hl : Int) := by omega
                    have hj3 : j2 < (kKeys y.rc.es).length := by have := HL.out; have := HQ.out; omega
                    obtain ⟨u, hu⟩ : ∃ u, (kKeys y.rc.es)[j2]? = some u := ⟨(kKeys y.rc.es)[j2], List.getElem?_eq_getElem hj3⟩
                    have hu2 : ([y.ok, y.rc.ik] ++ kKeys y.rc.es)[kq]? = some u := by
                      rw [HQ.out, List.getElem?_append_right (by simp)]
                      simpa using hu
                    have c0 : ∀ z : Later w11, z.w.cell? ⟨g3, kq, none⟩ = some (.int .i64 u) := fun z => z.cell ((TW.out.pull 3 rfl).num_at hu2).1
                    have hk := (TW.out.pull 1 rfl).blk
                    have t3 : ∀ z : Later w11, z.w.cell? ⟨pt, 3, none⟩ = some (.int .i64 yk) := fun z => z.cell ((cell_of_heap hk 3).trans rfl)
                    have hnext : decide (yk ∈ (kKeys y.rc.es).take (j2 + 1)) = (kb || (u == yk)) := by
                      rw [HKB.out, List.take_add_one, hu]
                      by_cases h1 : yk ∈ (kKeys y.rc.es).take j2
                      · simp [h1]
                      · have h2 := beq_dec u yk
                        simp [h1, h2]
                    have HNX := hid hnext
                    have HLT2 := hid hlt2
                    have HJ3 := hid hj3
                    clear hk hlt2 hj2 hj3 hu hu2 hnext
                    cases kb
                    · by_cases hu : u = yk
                      · have e1 : (u == yk) = true := by simpa using hu
                        clear hu
                        go_wp2_with fail
                        refine wp_region_calm (by kernel_rfl) (by kernel_rfl) ?_
                        repeat (go_big_quiet_step (fail))
                        refine wpQuiet_nil ?_
                        intro wc hwc
                        obtain ⟨⟨wc, hbc⟩, rfl⟩ := hwc
                        replace TW := hid (TW.out.still hbc)
                        clear c0 t3 hbc
                        go_wp2_with fail
                        go_roundw
                        case rel => exact ⟨j2 + 1, kq + 1, true, by have := HJ3.out; omega, rfl, by go_num, hid (by have := HQ.out; omega), hid (by rw [HNX.out, e1]; rfl), TW⟩
                        case measure => have := HLT2.out; simp [intOf]; omega
                      · have e1 : (u == yk) = false := by simpa using hu
                        clear hu
                        go_wp2_with fail
                        refine wp_region_calm (by kernel_rfl) (by kernel_rfl) ?_
                        repeat (go_big_quiet_step (fail))
                        refine wpQuiet_nil ?_
                        intro wc hwc
                        obtain ⟨⟨wc, hbc⟩, rfl⟩ := hwc
                        replace TW := hid (TW.out.still hbc)
                        clear c0 t3 hbc
                        go_wp2_with fail
                        go_roundw
                        case rel => exact ⟨j2 + 1, kq + 1, false, by have := HJ3.out; omega, rfl, by go_num, hid (by have := HQ.out; omega), hid (by rw [HNX.out, e1]; rfl), TW⟩
                        case measure => have := HLT2.out; simp [intOf]; omega
                    · go_wp2_with fail
                      refine wp_region_calm (by kernel_rfl) (by kernel_rfl) ?_
                      repeat (go_big_quiet_step (fail))
                      refine wpQuiet_nil ?_
                      intro wc hwc
                      obtain ⟨⟨wc, hbc⟩, rfl⟩ := hwc
                      replace TW := hid (TW.out.still hbc)
                      clear c0 t3 hbc
                      go_wp2_with fail
                      go_roundw
                      case rel => exact ⟨j2 + 1, kq + 1, true, by have := HJ3.out; omega, rfl, by go_num, hid (by have := HQ.out; omega), hid (by rw [HNX.out]; rfl), TW⟩
                      case measure => have := HLT2.out; simp [intOf]; omega
                  · have hd2 : decide ((kq : Int) < (hl : Int)) = false := by simp; omega
                    have hd2' : decide (kq < hl) = false := by simp; omega
                    have hkb : kb = decide (yk ∈ kKeys y.rc.es) := by
                      have h1 := HKB.out
                      rw [List.take_of_length_le (by have := HL.out; have := HQ.out; omega)] at h1
                      exact h1
                    have a0 := ((TW.out.pull 4 rfl).tr_cell ZK.out).1
                    by_cases hge : ie ≤ eK
                    · have e2 : decide (ie ≤ eK) = true := by simpa using hge
                      have hpt : p = true := HP.out.2 (HIFF.out.2 (.inl hge))
                      subst hpt
                      clear hge hlt2 hj2 hkb
                      go_wp2_with fail
                      go_roundw
                      case rel => exact ⟨r + 1, by have := HLT.out; omega, by go_num, hid TW.out.turn.dropR⟩
                      case measure => have := HLT.out; simp [intOf]; omega
                    · have e2 : decide (ie ≤ eK) = false := by simpa using hge
                      have hpk : p = kb := by
                        rw [hkb]
                        by_cases h1 : yk ∈ kKeys y.rc.es
                        · rw [decide_eq_true h1]; exact HP.out.2 (HIFF.out.2 (.inr h1))
                        · rw [decide_eq_false h1]
                          cases p with
                          | false => rfl
                          | true => exact absurd (HIFF.out.1 (HP.out.1 rfl)) (by rintro (h2 | h2); exact hge h2; exact h1 h2)
                      subst hpk
                      clear hge hlt2 hj2 hkb
                      cases p
                      · go_wp2_with fail
                        go_roundw
                        case rel => exact ⟨r + 1, by have := HLT.out; omega, by go_num, hid TW.out.turn.dropR⟩
                        case measure => have := HLT.out; simp [intOf]; omega
                      · go_wp2_with fail
                        go_roundw
                        case rel => exact ⟨r + 1, by have := HLT.out; omega, by go_num, hid TW.out.turn.dropR⟩
                        case measure => have := HLT.out; simp [intOf]; omega
              · have hd1 : decide ((r : Int) < (n : Int)) = false := by simp; omega
                have hd1' : decide (r < n) = false := by simp; omega
                have hk := (TW.out.pull 1 rfl).blk
                have f0 := (cell_of_heap hk 0).trans (show _ = some (.bool dh) from rfl)
                have f1 := (cell_of_heap hk 1).trans (show _ = some (.bool kem) from rfl)
                clear hk hlt hr1
                go_wp2_with fail
                refine (can_two dh kem (some ⟨g4, 0, none⟩) c4 KI.out (show 1 ≤ (2 : Int) ∧ (2 : Int) ≤ M.length from ⟨by decide, by have := G.out.le; omega⟩) TW.out).mono ?_
                rintro e w8 ⟨p, rfl, hp, h1⟩
                clear TW f0 f1
                have TW := hid h1
                rw [can_first G.out AL.out N1.out SO.out OK.out, HIE.out] at hp
                clear h1
                by_cases h0 : ie = 0
                · have e2 : (ie == 0) = true := by simpa using h0
                  have hpt : p = true := hp.2 h0
                  subst hpt
                  clear hp h0
                  go_wp2_with fail
                  refine (fixed19_calls _).mono ?_
                  rintro e w9 ⟨rfl, h1⟩
                  have T2 := hid (TW.out.below.trans (h1.mono TW.out.below.size))
                  clear h1
                  go_wp2_with fail
                  go_ret
                  exact ⟨rfl, T2.out⟩
                · have e2 : (ie == 0) = false := by simpa using h0
                  have hpt : p = false := by
                    cases p with
                    | false => rfl
                    | true => exact absurd (hp.1 rfl) h0
                  subst hpt
                  clear hp h0
                  go_wp2_with fail
                  refine (fixed19_calls _).mono ?_
                  rintro e w9 ⟨rfl, h1⟩
                  have T2 := hid (TW.out.below.trans (h1.mono TW.out.below.size))
                  clear h1
                  go_wp2_with fail
                  go_ret
                  exact ⟨rfl, T2.out⟩
          · go_wp2_with fail
            clear hd1 hd1'
            try clear hd2
            try clear hd3 hd3'
            obtain ⟨hl, hhl⟩ : ∃ h, 2 + (kKeys y.rc.es).length = h := ⟨_, rfl⟩
            refine (keys_two G.out.yo.rc.len TW.out.swap).mono ?_
            rw [hhl]
            rintro e w4 ⟨a3, c3, rfl, h1⟩
            clear TW
            have hl8 : hl ≤ 6 := by have := G.out.yo.rc.len; have : (kKeys y.rc.es).length = y.rc.es.length := by simp [kKeys]
                                    omega
            have hl2 : 2 ≤ hl := by omega
            obtain ⟨Sx, hx1, hx2⟩ := h1.first
            obtain ⟨g3, cx, hx3, _⟩ := hx1.row_cell (j := 0) (u := .int .i64 y.ok) (by simp [nums])
            simp only [Value.slice.injEq] at hx3
            obtain ⟨rfl, _, rfl⟩ := hx3
            clear hx1 hx2
            have TWa := hid (h1.swap.pull 2 rfl)
            have HL := hid hhl
            have HL8 := hid hl8
            have HL2 := hid hl2
            have hheld : hl = ([y.ok, y.rc.ik] ++ kKeys y.rc.es).length := by simp; omega
            have HHE := hid hheld
            have hcl : ∀ (i : Nat) (z : Int), ([y.ok, y.rc.ik] ++ kKeys y.rc.es)[i]? = some z → w4.cell? ⟨g3, 0 + i, none⟩ = some (.int .i64 z) := fun i z hz => by
              rw [Nat.zero_add]
              exact (h1.num_at hz).1
            have HCL := hid hcl
            clear h1 hhl hl8 hl2 hheld hcl
            obtain ⟨Ss, hA, hB⟩ := TWa.out.first
            have HA := hid hA
            have HB := hid hB
            clear hA hB TWa
            go_wp2_with (at_builtin; refine append_ints (k := .i64) (zs := knowns l []) (ys := [y.ok, y.rc.ik] ++ kKeys y.rc.es) (g := g3) (c := c3) Try.underlying33 hi0 hz0 hs0 hy0 (by decide) rfl (.tmp 123) (.tmp 124) rfl (by simp) HA.out HCL.out (by rfl) (by rw [← HHE.out]; rfl) (by rw [← HHE.out]; have := HL8.out; have := NN.out; omega) ?_; intro g4 c4 w5 h4; rw [← HHE.out] at h4 ⊢; have TW4 := hid (HB.out _ _ h4); clear h4 HA HB HCL; obtain ⟨pf, hpf⟩ : ∃ p, w5.heap.size = p := ⟨_, rfl⟩; have TW := hid ((TW4.out.boxk (o := .cells #[.bool dh, .bool kem] 69 (0, 0)) pf hpf).turn); clear TW4)
            rw [show knowns l [] ++ ([y.ok, y.rc.ik] ++ kKeys y.rc.es) = knowns l ([y.ok, y.rc.ik] ++ kKeys y.rc.es) by simp [knowns]] at TW
            have TW2 : Hid (Two W (w5.alloc (.cells #[.bool dh, .bool kem] 69 (0, 0))) b pa pb x y M 20000 [RowR 3 1 (.slice (some ⟨g4, 0, none⟩) (n + 1 + hl) c4) (n + 1 + hl) (nums .i64 (knowns l ([y.ok, y.rc.ik] ++ kKeys y.rc.es))), Blk pf (.cells #[.bool dh, .bool kem] 69 (0, 0)), RowR 3 1 (.slice (some ⟨g3, 0, none⟩) hl c3) hl (nums .i64 ([y.ok, y.rc.ik] ++ kKeys y.rc.es)), RowR 55 3 (.slice (some ⟨g1, 0, none⟩) n c1) n (trC l)]) := TW
            clear TW
            refine (now_two TW2.out.swap).mono ?_
            obtain ⟨ie, hie⟩ : ∃ e, y.rc.ie = e := ⟨_, rfl⟩
            rw [hie]
            rintro e w6 ⟨rfl, h1⟩
            clear TW2
            have TW := hid h1.swap
            have HIE := hid hie
            have d9 : decide ((hl : Int) < 2) = false := by have := HL2.out; simp; omega
            have d9' : decide (hl < 2) = false := by have := HL2.out; simp; omega
            clear h1 hie hpf
            have hKI := knows_in G.out SO.out OK.out
            have KI := hid hKI
            clear hKI
            go_wp2_with fail
            clear d9 d9'
            go_loopw [24] (fun q wr => ∃ r : Nat, r ≤ n ∧ q = .int .i64 r ∧ Hid (Two W wr b pa pb x y M 20000 [RowR 3 1 (.slice (some ⟨g4, 0, none⟩) (n + 1 + hl) c4) (n + 1 + hl) (nums .i64 (knowns l ([y.ok, y.rc.ik] ++ kKeys y.rc.es))), Blk pf (.cells #[.bool dh, .bool kem] 69 (0, 0)), RowR 3 1 (.slice (some ⟨g3, 0, none⟩) hl c3) hl (nums .i64 ([y.ok, y.rc.ik] ++ kKeys y.rc.es)), RowR 55 3 (.slice (some ⟨g1, 0, none⟩) n c1) n (trC l)])) (fun q _ => n - (intOf q).toNat)
            case atStart => exact ⟨0, by omega, rfl, TW⟩
            case round =>
              clear TW
              obtain ⟨r, hr1, rfl, TW⟩ := hrel
              obtain ⟨w7, hw7⟩ : ∃ w7 : World, w7 = wr := ⟨_, rfl⟩
              rw [← hw7] at TW ⊢
              clear hw7 wr
              by_cases hlt : r < n
              · have hd1 : decide ((r : Int) < (n : Int)) = true := by simp; omega
                have hd1' : decide (r < n) = true := by simp; omega
                have z4 : IntKind.i64.wrap ((r : Int) + 1) = (r : Int) + 1 := IntWalk.i64_in _ (by have := NN.out; omega)
                have r0 : (0 : Int) ≤ (r : Int) := by omega
                have r1 : (r : Int) < (n : Int) := by omega
                obtain ⟨⟨eK, nK, cK⟩, hzK⟩ : ∃ u, l[r]? = some u := ⟨l[r]'(by rw [← HN.out]; exact hlt), List.getElem?_eq_getElem _⟩
                obtain ⟨yk, p0, hsea, hyk, hiff⟩ := can_text G.out AL.out N1.out SO.out OK.out hzK dh kem
                rw [HIE.out] at hiff
                have a2 := ((TW.out.pull 3 rfl).tr_cell hzK).2.2
                have ZK := hid hzK
                have HSEA := hid hsea
                have HYK := hid hyk
                have HIFF := hid hiff
                have HLT := hid hlt
                clear hlt hr1 hzK hsea hyk hiff
                go_wp2_with fail
                refine (get_sea HSEA.out TW.out).mono ?_
                rintro e w8 ⟨rfl, h1⟩
                clear TW a2
                obtain ⟨pt, hpt⟩ : ∃ p, w8.heap.size = p := ⟨_, rfl⟩
                have TW := hid ((h1.boxk (o := .cells #[.int .i64 10, .string ⟨#[]⟩, .int .u64 nK, .int .i64 yk, .int .i64 1, .int .i64 p0] 47 (0, 0)) pt hpt).turn)
                have hk := (TW.out.pull 2 rfl).blk
                have f0 := (cell_of_heap hk 0).trans (show _ = some (.bool dh) from rfl)
                have f1 := (cell_of_heap hk 1).trans (show _ = some (.bool kem) from rfl)
                clear hk
                have hk := (TW.out.pull 1 rfl).blk
                have t3 := (cell_of_heap hk 3).trans (show _ = some (.int .i64 yk) from rfl)
                clear hk
                clear h1
                go_wp2_with fail
                refine (can_two dh kem (some ⟨g4, 0, none⟩) c4 KI.out HYK.out TW.out).mono ?_
                rintro e w10 ⟨p, rfl, hp, h1⟩
                clear TW f0 f1 t3 hpt
                have TW := hid h1
                have HP := hid hp
                clear h1 hp
                go_wp2_with fail
                go_loopw [29, 30] (fun v q wr => ∃ (j2 kq : Nat) (kb : Bool), j2 ≤ (kKeys y.rc.es).length ∧ v = .bool kb ∧ q = .int .i64 kq ∧ Hid (kq = 2 + j2) ∧ Hid (kb = decide (yk ∈ (kKeys y.rc.es).take j2)) ∧ Hid (Two W wr b pa pb x y M 20000 [RowR 3 1 (.slice (some ⟨g4, 0, none⟩) (n + 1 + hl) c4) (n + 1 + hl) (nums .i64 (knowns l ([y.ok, y.rc.ik] ++ kKeys y.rc.es))), Blk pt (.cells #[.int .i64 10, .string ⟨#[]⟩, .int .u64 nK, .int .i64 yk, .int .i64 1, .int .i64 p0] 47 (0, 0)), Blk pf (.cells #[.bool dh, .bool kem] 69 (0, 0)), RowR 3 1 (.slice (some ⟨g3, 0, none⟩) hl c3) hl (nums .i64 ([y.ok, y.rc.ik] ++ kKeys y.rc.es)), RowR 55 3 (.slice (some ⟨g1, 0, none⟩) n c1) n (trC l)])) (fun _ q _ => hl - (intOf q).toNat)
                case atStart => exact ⟨0, 2, false, by omega, rfl, rfl, hid rfl, hid (by simp), TW⟩
                case round =>
                  clear TW
                  obtain ⟨j2, kq, kb, hj2, rfl, rfl, HQ, HKB, TW⟩ := hrel
                  obtain ⟨w11, hw11⟩ : ∃ w11 : World, w11 = wr := ⟨_, rfl⟩
                  rw [← hw11] at TW ⊢
                  clear hw11 wr
                  by_cases hlt2 : kq < hl
                  · have hd2 : decide ((kq : Int) < (hl : Int)) = true := by simp; omega
                    have hd2' : decide (kq < hl) = true := by simp; omega
                    have z5 : IntKind.i64.wrap ((kq : Int) + 1) = (kq : Int) + 1 := IntWalk.i64_in _ (by have := HL8.out; omega)
                    have q0 : (0 : Int) ≤ (kq : Int) := by omega
                    have q1 : (kq : Int) < (hl : Int) := by omega
                    have hj3 : j2 < (kKeys y.rc.es).length := by have := HL.out; have := HQ.out; omega
                    obtain ⟨u, hu⟩ : ∃ u, (kKeys y.rc.es)[j2]? = some u := ⟨(kKeys y.rc.es)[j2], List.getElem?_eq_getElem hj3⟩
                    have hu2 : ([y.ok, y.rc.ik] ++ kKeys y.rc.es)[kq]? = some u := by
                      rw [HQ.out, List.getElem?_append_right (by simp)]
                      simpa using hu
                    have c0 : ∀ z : Later w11, z.w.cell? ⟨g3, kq, none⟩ = some (.int .i64 u) := fun z => z.cell ((TW.out.pull 3 rfl).num_at hu2).1
                    have hk := (TW.out.pull 1 rfl).blk
                    have t3 : ∀ z : Later w11, z.w.cell? ⟨pt, 3, none⟩ = some (.int .i64 yk) := fun z => z.cell ((cell_of_heap hk 3).trans rfl)
                    have hnext : decide (yk ∈ (kKeys y.rc.es).take (j2 + 1)) = (kb || (u == yk)) := by
                      rw [HKB.out, List.take_add_one, hu]
                      by_cases h1 : yk ∈ (kKeys y.rc.es).take j2
                      · simp [h1]
                      · have h2 := beq_dec u yk
                        simp [h1, h2]
                    have HNX := hid hnext
                    have HLT2 := hid hlt2
                    have HJ3 := hid hj3
                    clear hk hlt2 hj2 hj3 hu hu2 hnext
                    cases kb
                    · by_cases hu : u = yk
                      · have e1 : (u == yk) = true := by simpa using hu
                        clear hu
                        go_wp2_with fail
                        refine wp_region_calm (by kernel_rfl) (by kernel_rfl) ?_
                        repeat (go_big_quiet_step (fail))
                        refine wpQuiet_nil ?_
                        intro wc hwc
                        obtain ⟨⟨wc, hbc⟩, rfl⟩ := hwc
                        replace TW := hid (TW.out.still hbc)
                        clear c0 t3 hbc
                        go_wp2_with fail
                        go_roundw
                        case rel => exact ⟨j2 + 1, kq + 1, true, by have := HJ3.out; omega, rfl, by go_num, hid (by have := HQ.out; omega), hid (by rw [HNX.out, e1]; rfl), TW⟩
                        case measure => have := HLT2.out; simp [intOf]; omega
                      · have e1 : (u == yk) = false := by simpa using hu
                        clear hu
                        go_wp2_with fail
                        refine wp_region_calm (by kernel_rfl) (by kernel_rfl) ?_
                        repeat (go_big_quiet_step (fail))
                        refine wpQuiet_nil ?_
                        intro wc hwc
                        obtain ⟨⟨wc, hbc⟩, rfl⟩ := hwc
                        replace TW := hid (TW.out.still hbc)
                        clear c0 t3 hbc
                        go_wp2_with fail
                        go_roundw
                        case rel => exact ⟨j2 + 1, kq + 1, false, by have := HJ3.out; omega, rfl, by go_num, hid (by have := HQ.out; omega), hid (by rw [HNX.out, e1]; rfl), TW⟩
                        case measure => have := HLT2.out; simp [intOf]; omega
                    · go_wp2_with fail
                      refine wp_region_calm (by kernel_rfl) (by kernel_rfl) ?_
                      repeat (go_big_quiet_step (fail))
                      refine wpQuiet_nil ?_
                      intro wc hwc
                      obtain ⟨⟨wc, hbc⟩, rfl⟩ := hwc
                      replace TW := hid (TW.out.still hbc)
                      clear c0 t3 hbc
                      go_wp2_with fail
                      go_roundw
                      case rel => exact ⟨j2 + 1, kq + 1, true, by have := HJ3.out; omega, rfl, by go_num, hid (by have := HQ.out; omega), hid (by rw [HNX.out]; rfl), TW⟩
                      case measure => have := HLT2.out; simp [intOf]; omega
                  · have hd2 : decide ((kq : Int) < (hl : Int)) = false := by simp; omega
                    have hd2' : decide (kq < hl) = false := by simp; omega
                    have hkb : kb = decide (yk ∈ kKeys y.rc.es) := by
                      have h1 := HKB.out
                      rw [List.take_of_length_le (by have := HL.out; have := HQ.out; omega)] at h1
                      exact h1
                    have a0 := ((TW.out.pull 4 rfl).tr_cell ZK.out).1
                    by_cases hge : ie ≤ eK
                    · have e2 : decide (ie ≤ eK) = true := by simpa using hge
                      have hpt : p = true := HP.out.2 (HIFF.out.2 (.inl hge))
                      subst hpt
                      clear hge hlt2 hj2 hkb
                      go_wp2_with fail
                      go_roundw
                      case rel => exact ⟨r + 1, by have := HLT.out; omega, by go_num, hid TW.out.turn.dropR⟩
                      case measure => have := HLT.out; simp [intOf]; omega
                    · have e2 : decide (ie ≤ eK) = false := by simpa using hge
                      have hpk : p = kb := by
                        rw [hkb]
                        by_cases h1 : yk ∈ kKeys y.rc.es
                        · rw [decide_eq_true h1]; exact HP.out.2 (HIFF.out.2 (.inr h1))
                        · rw [decide_eq_false h1]
                          cases p with
                          | false => rfl
                          | true => exact absurd (HIFF.out.1 (HP.out.1 rfl)) (by rintro (h2 | h2); exact hge h2; exact h1 h2)
                      subst hpk
                      clear hge hlt2 hj2 hkb
                      cases p
                      · go_wp2_with fail
                        go_roundw
                        case rel => exact ⟨r + 1, by have := HLT.out; omega, by go_num, hid TW.out.turn.dropR⟩
                        case measure => have := HLT.out; simp [intOf]; omega
                      · go_wp2_with fail
                        go_roundw
                        case rel => exact ⟨r + 1, by have := HLT.out; omega, by go_num, hid TW.out.turn.dropR⟩
                        case measure => have := HLT.out; simp [intOf]; omega
              · have hd1 : decide ((r : Int) < (n : Int)) = false := by simp; omega
                have hd1' : decide (r < n) = false := by simp; omega
                have hk := (TW.out.pull 1 rfl).blk
                have f0 := (cell_of_heap hk 0).trans (show _ = some (.bool dh) from rfl)
                have f1 := (cell_of_heap hk 1).trans (show _ = some (.bool kem) from rfl)
                clear hk hlt hr1
                go_wp2_with fail
                refine (can_two dh kem (some ⟨g4, 0, none⟩) c4 KI.out (show 1 ≤ (2 : Int) ∧ (2 : Int) ≤ M.length from ⟨by decide, by have := G.out.le; omega⟩) TW.out).mono ?_
                rintro e w8 ⟨p, rfl, hp, h1⟩
                clear TW f0 f1
                have TW := hid h1
                rw [can_first G.out AL.out N1.out SO.out OK.out, HIE.out] at hp
                clear h1
                by_cases h0 : ie = 0
                · have e2 : (ie == 0) = true := by simpa using h0
                  have hpt : p = true := hp.2 h0
                  subst hpt
                  clear hp h0
                  go_wp2_with fail
                  refine (fixed19_calls _).mono ?_
                  rintro e w9 ⟨rfl, h1⟩
                  have T2 := hid (TW.out.below.trans (h1.mono TW.out.below.size))
                  clear h1
                  go_wp2_with fail
                  go_ret
                  exact ⟨rfl, T2.out⟩
                · have e2 : (ie == 0) = false := by simpa using h0
                  have hpt : p = false := by
                    cases p with
                    | false => rfl
                    | true => exact absurd (hp.1 rfl) h0
                  subst hpt
                  clear hp h0
                  go_wp2_with fail
                  refine (fixed19_calls _).mono ?_
                  rintro e w9 ⟨rfl, h1⟩
                  have T2 := hid (TW.out.below.trans (h1.mono TW.out.below.size))
                  clear h1
                  go_wp2_with fail
                  go_ret
                  exact ⟨rfl, T2.out⟩
          · go_wp2_with fail
            clear hd1 hd1'
            try clear hd2
            try clear hd3 hd3'
            obtain ⟨hl, hhl⟩ : ∃ h, 2 + (kKeys y.rc.es).length = h := ⟨_, rfl⟩
            refine (keys_two G.out.yo.rc.len TW.out.swap).mono ?_
            rw [hhl]
            rintro e w4 ⟨a3, c3, rfl, h1⟩
            clear TW
            have hl8 : hl ≤ 6 := by have := G.out.yo.rc.len; have : (kKeys y.rc.es).length = y.rc.es.length := by simp [kKeys]
                                    omega
            have hl2 : 2 ≤ hl := by omega
            obtain ⟨Sx, hx1, hx2⟩ := h1.first
            obtain ⟨g3, cx, hx3, _⟩ := hx1.row_cell (j := 0) (u := .int .i64 y.ok) (by simp [nums])
            simp only [Value.slice.injEq] at hx3
            obtain ⟨rfl, _, rfl⟩ := hx3
            clear hx1 hx2
            have TWa := hid (h1.swap.pull 2 rfl)
            have HL := hid hhl
            have HL8 := hid hl8
            have HL2 := hid hl2
            have hheld : hl = ([y.ok, y.rc.ik] ++ kKeys y.rc.es).length := by simp; omega
            have HHE := hid hheld
            have hcl : ∀ (i : Nat) (z : Int), ([y.ok, y.rc.ik] ++ kKeys y.rc.es)[i]? = some z → w4.cell? ⟨g3, 0 + i, none⟩ = some (.int .i64 z) := fun i z hz => by
              rw [Nat.zero_add]
              exact (h1.num_at hz).1
            have HCL := hid hcl
            clear h1 hhl hl8 hl2 hheld hcl
            obtain ⟨Ss, hA, hB⟩ := TWa.out.first
            have HA := hid hA
            have HB := hid hB
            clear hA hB TWa
            go_wp2_with (at_builtin; refine append_ints (k := .i64) (zs := knowns l []) (ys := [y.ok, y.rc.ik] ++ kKeys y.rc.es) (g := g3) (c := c3) Try.underlying33 hi0 hz0 hs0 hy0 (by decide) rfl (.tmp 123) (.tmp 124) rfl (by simp) HA.out HCL.out (by rfl) (by rw [← HHE.out]; rfl) (by rw [← HHE.out]; have := HL8.out; have := NN.out; omega) ?_; intro g4 c4 w5 h4; rw [← HHE.out] at h4 ⊢; have TW4 := hid (HB.out _ _ h4); clear h4 HA HB HCL; obtain ⟨pf, hpf⟩ : ∃ p, w5.heap.size = p := ⟨_, rfl⟩; have TW := hid ((TW4.out.boxk (o := .cells #[.bool dh, .bool kem] 69 (0, 0)) pf hpf).turn); clear TW4)
            rw [show knowns l [] ++ ([y.ok, y.rc.ik] ++ kKeys y.rc.es) = knowns l ([y.ok, y.rc.ik] ++ kKeys y.rc.es) by simp [knowns]] at TW
            have TW2 : Hid (Two W (w5.alloc (.cells #[.bool dh, .bool kem] 69 (0, 0))) b pa pb x y M 20000 [RowR 3 1 (.slice (some ⟨g4, 0, none⟩) (n + 1 + hl) c4) (n + 1 + hl) (nums .i64 (knowns l ([y.ok, y.rc.ik] ++ kKeys y.rc.es))), Blk pf (.cells #[.bool dh, .bool kem] 69 (0, 0)), RowR 3 1 (.slice (some ⟨g3, 0, none⟩) hl c3) hl (nums .i64 ([y.ok, y.rc.ik] ++ kKeys y.rc.es)), RowR 55 3 (.slice (some ⟨g1, 0, none⟩) n c1) n (trC l)]) := TW
            clear TW
            refine (now_two TW2.out.swap).mono ?_
            obtain ⟨ie, hie⟩ : ∃ e, y.rc.ie = e := ⟨_, rfl⟩
            rw [hie]
            rintro e w6 ⟨rfl, h1⟩
            clear TW2
            have TW := hid h1.swap
            have HIE := hid hie
            have d9 : decide ((hl : Int) < 2) = false := by have := HL2.out; simp; omega
            have d9' : decide (hl < 2) = false := by have := HL2.out; simp; omega
            clear h1 hie hpf
            have hKI := knows_in G.out SO.out OK.out
            have KI := hid hKI
            clear hKI
            go_wp2_with fail
            clear d9 d9'
            go_loopw [24] (fun q wr => ∃ r : Nat, r ≤ n ∧ q = .int .i64 r ∧ Hid (Two W wr b pa pb x y M 20000 [RowR 3 1 (.slice (some ⟨g4, 0, none⟩) (n + 1 + hl) c4) (n + 1 + hl) (nums .i64 (knowns l ([y.ok, y.rc.ik] ++ kKeys y.rc.es))), Blk pf (.cells #[.bool dh, .bool kem] 69 (0, 0)), RowR 3 1 (.slice (some ⟨g3, 0, none⟩) hl c3) hl (nums .i64 ([y.ok, y.rc.ik] ++ kKeys y.rc.es)), RowR 55 3 (.slice (some ⟨g1, 0, none⟩) n c1) n (trC l)])) (fun q _ => n - (intOf q).toNat)
            case atStart => exact ⟨0, by omega, rfl, TW⟩
            case round =>
              clear TW
              obtain ⟨r, hr1, rfl, TW⟩ := hrel
              obtain ⟨w7, hw7⟩ : ∃ w7 : World, w7 = wr := ⟨_, rfl⟩
              rw [← hw7] at TW ⊢
              clear hw7 wr
              by_cases hlt : r < n
              · have hd1 : decide ((r : Int) < (n : Int)) = true := by simp; omega
                have hd1' : decide (r < n) = true := by simp; omega
                have z4 : IntKind.i64.wrap ((r : Int) + 1) = (r : Int) + 1 := IntWalk.i64_in _ (by have := NN.out; omega)
                have r0 : (0 : Int) ≤ (r : Int) := by omega
                have r1 : (r : Int) < (n : Int) := by omega
                obtain ⟨⟨eK, nK, cK⟩, hzK⟩ : ∃ u, l[r]? = some u := ⟨l[r]'(by rw [← HN.out]; exact hlt), List.getElem?_eq_getElem _⟩
                obtain ⟨yk, p0, hsea, hyk, hiff⟩ := can_text G.out AL.out N1.out SO.out OK.out hzK dh kem
                rw [HIE.out] at hiff
                have a2 := ((TW.out.pull 3 rfl).tr_cell hzK).2.2
                have ZK := hid hzK
                have HSEA := hid hsea
                have HYK := hid hyk
                have HIFF := hid hiff
                have HLT := hid hlt
                clear hlt hr1 hzK hsea hyk hiff
                go_wp2_with fail
                refine (get_sea HSEA.out TW.out).mono ?_
                rintro e w8 ⟨rfl, h1⟩
                clear TW a2
                obtain ⟨pt, hpt⟩ : ∃ p, w8.heap.size = p := ⟨_, rfl⟩
                have TW := hid ((h1.boxk (o := .cells #[.int .i64 10, .string ⟨#[]⟩, .int .u64 nK, .int .i64 yk, .int .i64 1, .int .i64 p0] 47 (0, 0)) pt hpt).turn)
                have hk := (TW.out.pull 2 rfl).blk
                have f0 := (cell_of_heap hk 0).trans (show _ = some (.bool dh) from rfl)
                have f1 := (cell_of_heap hk 1).trans (show _ = some (.bool kem) from rfl)
                clear hk
                have hk := (TW.out.pull 1 rfl).blk
                have t3 := (cell_of_heap hk 3).trans (show _ = some (.int .i64 yk) from rfl)
                clear hk
                clear h1
                go_wp2_with fail
                refine (can_two dh kem (some ⟨g4, 0, none⟩) c4 KI.out HYK.out TW.out).mono ?_
                rintro e w10 ⟨p, rfl, hp, h1⟩
                clear TW f0 f1 t3 hpt
                have TW := hid h1
                have HP := hid hp
                clear h1 hp
                go_wp2_with fail
                go_loopw [29, 30] (fun v q wr => ∃ (j2 kq : Nat) (kb : Bool), j2 ≤ (kKeys y.rc.es).length ∧ v = .bool kb ∧ q = .int .i64 kq ∧ Hid (kq = 2 + j2) ∧ Hid (kb = decide (yk ∈ (kKeys y.rc.es).take j2)) ∧ Hid (Two W wr b pa pb x y M 20000 [RowR 3 1 (.slice (some ⟨g4, 0, none⟩) (n + 1 + hl) c4) (n + 1 + hl) (nums .i64 (knowns l ([y.ok, y.rc.ik] ++ kKeys y.rc.es))), Blk pt (.cells #[.int .i64 10, .string ⟨#[]⟩, .int .u64 nK, .int .i64 yk, .int .i64 1, .int .i64 p0] 47 (0, 0)), Blk pf (.cells #[.bool dh, .bool kem] 69 (0, 0)), RowR 3 1 (.slice (some ⟨g3, 0, none⟩) hl c3) hl (nums .i64 ([y.ok, y.rc.ik] ++ kKeys y.rc.es)), RowR 55 3 (.slice (some ⟨g1, 0, none⟩) n c1) n (trC l)])) (fun _ q _ => hl - (intOf q).toNat)
                case atStart => exact ⟨0, 2, false, by omega, rfl, rfl, hid rfl, hid (by simp), TW⟩
                case round =>
                  clear TW
                  obtain ⟨j2, kq, kb, hj2, rfl, rfl, HQ, HKB, TW⟩ := hrel
                  obtain ⟨w11, hw11⟩ : ∃ w11 : World, w11 = wr := ⟨_, rfl⟩
                  rw [← hw11] at TW ⊢
                  clear hw11 wr
                  by_cases hlt2 : kq < hl
                  · have hd2 : decide ((kq : Int) < (hl : Int)) = true := by simp; omega
                    have hd2' : decide (kq < hl) = true := by simp; omega
                    have z5 : IntKind.i64.wrap ((kq : Int) + 1) = (kq : Int) + 1 := IntWalk.i64_in _ (by have := HL8.out; omega)
                    have q0 : (0 : Int) ≤ (kq : Int) := by omega
                    have q1 : (kq : Int) < (hl : Int) := by omega
                    have hj3 : j2 < (kKeys y.rc.es).length := by have := HL.out; have := HQ.out; omega
                    obtain ⟨u, hu⟩ : ∃ u, (kKeys y.rc.es)[j2]? = some u := ⟨(kKeys y.rc.es)[j2], List.getElem?_eq_getElem hj3⟩
                    have hu2 : ([y.ok, y.rc.ik] ++ kKeys y.rc.es)[kq]? = some u := by
                      rw [HQ.out, List.getElem?_append_right (by simp)]
                      simpa using hu
                    have c0 : ∀ z : Later w11, z.w.cell? ⟨g3, kq, none⟩ = some (.int .i64 u) := fun z => z.cell ((TW.out.pull 3 rfl).num_at hu2).1
                    have hk := (TW.out.pull 1 rfl).blk
                    have t3 : ∀ z : Later w11, z.w.cell? ⟨pt, 3, none⟩ = some (.int .i64 yk) := fun z => z.cell ((cell_of_heap hk 3).trans rfl)
                    have hnext : decide (yk ∈ (kKeys y.rc.es).take (j2 + 1)) = (kb || (u == yk)) := by
                      rw [HKB.out, List.take_add_one, hu]
                      by_cases h1 : yk ∈ (kKeys y.rc.es).take j2
                      · simp [h1]
                      · have h2 := beq_dec u yk
                        simp [h1, h2]
                    have HNX := hid hnext
                    have HLT2 := hid hlt2
                    have HJ3 := hid hj3
                    clear hk hlt2 hj2 hj3 hu hu2 hnext
                    cases kb
                    · by_cases hu : u = yk
                      · have e1 : (u == yk) = true := by simpa using hu
                        clear hu
                        go_wp2_with fail
                        refine wp_region_calm (by kernel_rfl) (by kernel_rfl) ?_
                        repeat (go_big_quiet_step (fail))
                        refine wpQuiet_nil ?_
                        intro wc hwc
                        obtain ⟨⟨wc, hbc⟩, rfl⟩ := hwc
                        replace TW := hid (TW.out.still hbc)
                        clear c0 t3 hbc
                        go_wp2_with fail
                        go_roundw
                        case rel => exact ⟨j2 + 1, kq + 1, true, by have := HJ3.out; omega, rfl, by go_num, hid (by have := HQ.out; omega), hid (by rw [HNX.out, e1]; rfl), TW⟩
                        case measure => have := HLT2.out; simp [intOf]; omega
                      · have e1 : (u == yk) = false := by simpa using hu
                        clear hu
                        go_wp2_with fail
                        refine wp_region_calm (by kernel_rfl) (by kernel_rfl) ?_
                        repeat (go_big_quiet_step (fail))
                        refine wpQuiet_nil ?_
                        intro wc hwc
                        obtain ⟨⟨wc, hbc⟩, rfl⟩ := hwc
                        replace TW := hid (TW.out.still hbc)
                        clear c0 t3 hbc
                        go_wp2_with fail
                        go_roundw
                        case rel => exact ⟨j2 + 1, kq + 1, false, by have := HJ3.out; omega, rfl, by go_num, hid (by have := HQ.out; omega), hid (by rw [HNX.out, e1]; rfl), TW⟩
                        case measure => have := HLT2.out; simp [intOf]; omega
                    · go_wp2_with fail
                      refine wp_region_calm (by kernel_rfl) (by kernel_rfl) ?_
                      repeat (go_big_quiet_step (fail))
                      refine wpQuiet_nil ?_
                      intro wc hwc
                      obtain ⟨⟨wc, hbc⟩, rfl⟩ := hwc
                      replace TW := hid (TW.out.still hbc)
                      clear c0 t3 hbc
                      go_wp2_with fail
                      go_roundw
                      case rel => exact ⟨j2 + 1, kq + 1, true, by have := HJ3.out; omega, rfl, by go_num, hid (by have := HQ.out; omega), hid (by rw [HNX.out]; rfl), TW⟩
                      case measure => have := HLT2.out; simp [intOf]; omega
                  · have hd2 : decide ((kq : Int) < (hl : Int)) = false := by simp; omega
                    have hd2' : decide (kq < hl) = false := by simp; omega
                    have hkb : kb = decide (yk ∈ kKeys y.rc.es) := by
                      have h1 := HKB.out
                      rw [List.take_of_length_le (by have := HL.out; have := HQ.out; omega)] at h1
                      exact h1
                    have a0 := ((TW.out.pull 4 rfl).tr_cell ZK.out).1
                    by_cases hge : ie ≤ eK
                    · have e2 : decide (ie ≤ eK) = true := by simpa using hge
                      have hpt : p = true := HP.out.2 (HIFF.out.2 (.inl hge))
                      subst hpt
                      clear hge hlt2 hj2 hkb
                      go_wp2_with fail
                      go_roundw
                      case rel => exact ⟨r + 1, by have := HLT.out; omega, by go_num, hid TW.out.turn.dropR⟩
                      case measure => have := HLT.out; simp [intOf]; omega
                    · have e2 : decide (ie ≤ eK) = false := by simpa using hge
                      have hpk : p = kb := by
                        rw [hkb]
                        by_cases h1 : yk ∈ kKeys y.rc.es
                        · rw [decide_eq_true h1]; exact HP.out.2 (HIFF.out.2 (.inr h1))
                        · rw [decide_eq_false h1]
                          cases p with
                          | false => rfl
                          | true => exact absurd (HIFF.out.1 (HP.out.1 rfl)) (by rintro (h2 | h2); exact hge h2; exact h1 h2)
                      subst hpk
                      clear hge hlt2 hj2 hkb
                      cases p
                      · go_wp2_with fail
                        go_roundw
                        case rel => exact ⟨r + 1, by have := HLT.out; omega, by go_num, hid TW.out.turn.dropR⟩
                        case measure => have := HLT.out; simp [intOf]; omega
                      · go_wp2_with fail
                        go_roundw
                        case rel => exact ⟨r + 1, by have := HLT.out; omega, by go_num, hid TW.out.turn.dropR⟩
                        case measure => have := HLT.out; simp [intOf]; omega
              · have hd1 : decide ((r : Int) < (n : Int)) = false := by simp; omega
                have hd1' : decide (r < n) = false := by simp; omega
                have hk := (TW.out.pull 1 rfl).blk
                have f0 := (cell_of_heap hk 0).trans (show _ = some (.bool dh) from rfl)
                have f1 := (cell_of_heap hk 1).trans (show _ = some (.bool kem) from rfl)
                clear hk hlt hr1
                go_wp2_with fail
                refine (can_two dh kem (some ⟨g4, 0, none⟩) c4 KI.out (show 1 ≤ (2 : Int) ∧ (2 : Int) ≤ M.length from ⟨by decide, by have := G.out.le; omega⟩) TW.out).mono ?_
                rintro e w8 ⟨p, rfl, hp, h1⟩
                clear TW f0 f1
                have TW := hid h1
                rw [can_first G.out AL.out N1.out SO.out OK.out, HIE.out] at hp
                clear h1
                by_cases h0 : ie = 0
                · have e2 : (ie == 0) = true := by simpa using h0
                  have hpt : p = true := hp.2 h0
                  subst hpt
                  clear hp h0
                  go_wp2_with fail
                  refine (fixed19_calls _).mono ?_
                  rintro e w9 ⟨rfl, h1⟩
                  have T2 := hid (TW.out.below.trans (h1.mono TW.out.below.size))
                  clear h1
                  go_wp2_with fail
                  go_ret
                  exact ⟨rfl, T2.out⟩
                · have e2 : (ie == 0) = false := by simpa using h0
                  have hpt : p = false := by
                    cases p with
                    | false => rfl
                    | true => exact absurd (hp.1 rfl) h0
                  subst hpt
                  clear hp h0
                  go_wp2_with fail
                  refine (fixed19_calls _).mono ?_
                  rintro e w9 ⟨rfl, h1⟩
                  have T2 := hid (TW.out.below.trans (h1.mono TW.out.below.size))
                  clear h1
                  go_wp2_with fail
                  go_ret
                  exact ⟨rfl, T2.out⟩
set_option maxRecDepth 100000 in
set_option maxHeartbeats 32000000 in
theorem sessForward_walkB (ad : Option Addr) (len cap : Nat) (zs : List Int) (ad2 : Option Addr) (len2 cap2 : Nat) (zs2 : List Int) (x2 : Int) (_b2 : 0 ≤ x2) (_b2' : x2 ≤ 255) (W : World) (hlen : len = zs.length) (hmax : len ≤ maxLen) (hzs : NumsIn .u8 W ad zs) (hlen2 : len2 = zs2.length) (hmax2 : len2 ≤ maxLen) (hzs2 : NumsIn .u8 W ad2 zs2) (hl20 : 20 < len) :
    Calls Try.prog 16 #[.slice ad len cap, .slice ad2 len2 cap2, .int .u8 x2] W fun e w' => e = .returned (.bool true) ∧ Below W.heap.size W w' := by
  have Hlen := hid hlen
  have Hzs := hid hzs
  have hm : len ≤ 9223372036854775807 := by unfold maxLen at hmax; exact hmax
  have Hlen2 := hid hlen2
  have Hzs2 := hid hzs2
  have hm2 : len2 ≤ 9223372036854775807 := by unfold maxLen at hmax2; exact hmax2
  obtain ⟨i0, hi0, hz0, hs0, hy0⟩ := info_int
  obtain ⟨dh, hdh⟩ : ∃ d, (bits .and .u8 x2 1 == 1) = d := ⟨_, rfl⟩
  obtain ⟨kem, hkem⟩ : ∃ d, (bits .and .u8 x2 2 == 2) = d := ⟨_, rfl⟩
  clear hlen hmax hzs hlen2 hmax2 hzs2
  go_enter Try.func16, Try.ntmps16
  go_wp2_with fail
  refine (pair_two (W := W)).mono ?_
  rintro e w1 ⟨b, pa, pb, rfl, h1⟩
  have TW := hid h1
  have G := hid (good2_start h1.good)
  clear h1
  go_wp2_with fail
  have TW2 := hid (((TW.out.row (E := 55) w1.heap.size rfl 3).lit (E := 3) (w1.heap.size + 1) (by simp) [1] (n := 1) rfl rfl (by decide)).turn)
  clear TW
  go_loopw [10, 11, 12] (fun vs vk q wr => ∃ (i g1 c1 g2 c2 n : Nat) (l : List Tr) (x : Se) (L : List T), i ≤ 20 ∧ i ≤ len ∧ vs = .slice (some ⟨g1, 0, none⟩) n c1 ∧ vk = .slice (some ⟨g2, 0, none⟩) (n + 1) c2 ∧ q = .int .i64 i ∧ Hid (Two W wr b pa pb x (se0 1 3 2 1) L 20000 [RowR 55 3 (.slice (some ⟨g1, 0, none⟩) n c1) n (trC l), RowR 3 1 (.slice (some ⟨g2, 0, none⟩) (n + 1) c2) (n + 1) (nums .i64 (knowns l []))]) ∧ Hid (Good2 L x (se0 1 3 2 1)) ∧ Hid (SentX L l) ∧ Hid (n = l.length) ∧ Hid (x.oe ≤ i ∧ x.sent ≤ i ∧ L.length ≤ 3 + 3 * i ∧ n ≤ i) ∧ Hid (AllL L) ∧ Hid (Non L 1)) (fun _ _ q _ => 20 - (intOf q).toNat)
  case atStart => exact ⟨0, _, _, _, _, 0, [], _, _, by omega, by omega, rfl, rfl, rfl, TW2, G, hid (SentX.nil _), hid rfl, hid ⟨by decide, by decide, by decide, by decide⟩, hid all_pl3, hid ⟨0, ⟨by decide, by decide, rfl⟩⟩⟩
  case round =>
    clear TW2 G
    obtain ⟨i, g1, c1, g2, c2, n, l, x, L, hi, hil, rfl, rfl, rfl, TW, G, SO, HN, S, AL, N1⟩ := hrel
    obtain ⟨wl, hwl⟩ : ∃ wl : World, wl = wr := ⟨_, rfl⟩
    rw [← hwl] at TW ⊢
    clear hwl wr
    by_cases hlt : i < len ∧ i < 20
    · have hd1 : decide ((i : Int) < (len : Int)) = true := by simp; omega
      have hd1' : decide (i < len) = true := by simp; omega
      have hd2 : decide ((i : Int) < 20) = true := by simp; omega
      have z4 : IntKind.i64.wrap ((i : Int) + 1) = (i : Int) + 1 := IntWalk.i64_in _ (by omega)
      obtain ⟨z, hz⟩ : ∃ z, zs[i]? = some z := ⟨zs[i]'(by rw [← Hlen.out]; exact hlt.1), List.getElem?_eq_getElem _⟩
      obtain ⟨z0, z1, gg, oo, rfl, hc0⟩ := (Hzs.out.later TW.out.below) i z hz
      have z0' : 0 ≤ z := by simpa [IntKind.min, IntKind.signed] using z0
      have z1' : z ≤ 255 := by simpa [IntKind.max, IntKind.signed, IntKind.bits] using z1
      have zj0 : (0 : Int) ≤ (i : Int) := by omega
      have zj1 : (i : Int) < (len : Int) := by omega
      obtain ⟨r, hr1⟩ : ∃ r, z.tmod 3 = r := ⟨_, rfl⟩
      have hr3 : 0 ≤ r ∧ r ≤ 3 := by rw [← hr1, Int.tmod_eq_emod_of_nonneg z0']; omega
      have y1 : IntKind.u8.wrap r = r := IntWalk.u8_in _ (by omega)
      have HLT := hid hlt
      clear hlt hi hil hz z0 z1
      by_cases he : r = 0
      · have e1 : (r == 0) = true := by simpa using he
        clear he hr3
        go_wp2_with fail
        refine (step_f AL.out (by have := S.out.1; have := HLT.out; omega) (by have := S.out.2.2.1; have := HLT.out; omega) G.out TW.out).mono ?_
        rintro e w2 ⟨kk, L', rfl, h1, h2, h3, h4, h5⟩
        clear TW G
        have TW := hid h1
        have G := hid h2
        have SO2 := hid (SO.out.ext h3)
        have N2 := hid (N1.out.ext h3)
        have N5 := hid h4
        have AL2 := hid h5
        clear h1 h2 h3 h4 h5 SO AL N1
        go_wp2_with fail
        go_roundw
        case rel => exact ⟨i + 1, g1, c1, g2, c2, n, l, _, L', (by have := HLT.out; omega), (by have := HLT.out; omega), rfl, rfl, by go_num, TW, G, SO2, HN, hid ⟨by have := S.out.1; dsimp only; omega, by dsimp only; omega, by have := S.out.2.2.1; have := N5.out; omega, by have := S.out.2.2.2; omega⟩, AL2, N2⟩
        case measure => have := HLT.out; simp [intOf]; omega
      · have e1 : (r == 0) = false := by simpa using he
        clear he hr3
        go_wp2_with fail
        refine (seal_f (s := ⟨#[120]⟩) AL.out (by decide) (by have := S.out.2.1; have := HLT.out; omega) (by have := S.out.2.2.1; have := HLT.out; omega) G.out TW.out).mono ?_
        obtain ⟨e0, he0⟩ : ∃ e, x.oe = e := ⟨_, rfl⟩
        obtain ⟨n0, hn0⟩ : ∃ n, x.sent = n := ⟨_, rfl⟩
        rw [he0, hn0]
        rintro e w2 ⟨c, L', rfl, h1, h2, h3, h4, h5, h6⟩
        clear TW
        have TW := hid h1
        have G2 := hid h2
        have SO2 : Hid (SentX L' (l ++ [(e0, n0, c)])) := hid ((SO.out.ext h4).snoc h3 ⟨by rw [← hn0]; exact G.out.xo.s0, by have := S.out.2.1; have := HLT.out; dsimp only; omega⟩ (by have := S.out.1; have := HLT.out; dsimp only; omega))
        have N2 := hid (N1.out.ext h4)
        have N5 := hid h5
        have AL2 := hid h6
        have HE0 := hid he0
        have HN0 := hid hn0
        clear h1 h2 h3 h4 h5 h6 SO G AL N1 he0 hn0
        obtain ⟨Ss, hA, hB⟩ := TW.out.first
        have HA := hid hA
        have HB := hid hB
        clear hA hB TW
        go_wp2_with (at_builtin; refine append_tr (l := l) (e0, n0, c) rfl (.tmp 70) (.tmp 75) rfl rfl HA.out (by rfl) (by rfl) (by have := S.out.2.2.2; have := HLT.out; omega) ?_; intro g3 c3 w3 h3; have TW3 := hid ((HB.out _ _ h3).turn); clear h3 HA HB; obtain ⟨Ss2, hA, hB⟩ := TW3.out.first; have HA := hid hA; have HB := hid hB; clear hA hB TW3; go_wp2_with (at_builtin; refine append_num (k := .i64) (zs := knowns l []) Try.underlying33 hi0 hz0 hs0 hy0 (by decide) rfl (.tmp 77) (.tmp 79) rfl HA.out (by rfl) c (by rfl) (by have := S.out.2.2.2; have := HLT.out; omega) ?_; intro g4 c4 w4 h4; have TW4 := hid ((HB.out _ _ h4).turn); clear h4 HA HB))
        go_roundw
        case rel => exact ⟨i + 1, g3, c3, g4, c4, n + 1, l ++ [(e0, n0, c)], _, L', (by have := HLT.out; omega), (by have := HLT.out; omega), by first | rfl | trivial, by first | rfl | trivial, by go_num, hid (by rw [show knowns (l ++ [(e0, n0, c)]) [] = knowns l [] ++ [c] by simp [knowns]]; exact TW4.out), G2, SO2, hid (by rw [List.length_append, ← HN.out]; rfl), hid ⟨by have := S.out.1; have := HE0.out; dsimp only; omega, by have := S.out.2.1; have := HN0.out; dsimp only; omega, by have := S.out.2.2.1; have := N5.out; omega, by have := S.out.2.2.2; omega⟩, AL2, N2⟩
        case measure => have := HLT.out; simp [intOf]; omega
    · have hd1 : decide ((i : Int) < (len : Int)) = true := by simp; omega
      have hd1' : decide (i < len) = true := by simp; omega
      have hd2 : decide ((i : Int) < 20) = false := by simp; omega
      have NL : Hid (L.length ≤ 63) := hid (by have := S.out.2.2.1; omega)
      have NN : Hid (n ≤ 20) := hid (by have := S.out.2.2.2; omega)
      clear hlt hi hil S hl20
      go_wp2_with fail
      clear hd1 hd1'
      try clear hd2
      go_loopw [17] (fun q wr => ∃ (j : Nat) (y : Se) (M : List T), j ≤ 20 ∧ j ≤ len2 ∧ q = .int .i64 j ∧ Hid (Two W wr b pa pb x y M 20000 [RowR 55 3 (.slice (some ⟨g1, 0, none⟩) n c1) n (trC l), RowR 3 1 (.slice (some ⟨g2, 0, none⟩) (n + 1) c2) (n + 1) (nums .i64 (knowns l []))]) ∧ Hid (Good2 M x y) ∧ Hid (SentX M l) ∧ Hid (M.length ≤ 63 + 9 * j) ∧ Hid (AllL M) ∧ Hid (Non M 1) ∧ Hid (y.ok = 3)) (fun q _ => 20 - (intOf q).toNat)
      case atStart => exact ⟨0, _, _, by omega, by omega, rfl, TW, G, SO, hid (by have := NL.out; omega), AL, N1, hid rfl⟩
      case round =>
        clear TW G SO NL AL N1
        obtain ⟨j, y, M, hj, hjl, rfl, TW, G, SO, NM, AL, N1, OK⟩ := hrel
        obtain ⟨wl, hwl⟩ : ∃ wl : World, wl = wr := ⟨_, rfl⟩
        rw [← hwl] at TW ⊢
        clear hwl wr
        by_cases hlt : j < len2 ∧ j < 20 ∧ 0 < n
        · have hd1 : decide ((j : Int) < (len2 : Int)) = true := by simp; omega
          have hd1' : decide (j < len2) = true := by simp; omega
          have hd2 : decide ((j : Int) < 20) = true := by simp; omega
          have hd3 : decide ((0 : Int) < (n : Int)) = true := by simp; omega
          have hd3' : decide (0 < n) = true := by simp; omega
          have z4 : IntKind.i64.wrap ((j : Int) + 1) = (j : Int) + 1 := IntWalk.i64_in _ (by omega)
          obtain ⟨z, hz⟩ : ∃ z, zs2[j]? = some z := ⟨zs2[j]'(by rw [← Hlen2.out]; exact hlt.1), List.getElem?_eq_getElem _⟩
          obtain ⟨z0, z1, gg, oo, rfl, hc0⟩ := (Hzs2.out.later TW.out.below) j z hz
          have z0' : 0 ≤ z := by simpa [IntKind.min, IntKind.signed] using z0
          have z1' : z ≤ 255 := by simpa [IntKind.max, IntKind.signed, IntKind.bits] using z1
          have zj0 : (0 : Int) ≤ (j : Int) := by omega
          have zj1 : (j : Int) < (len2 : Int) := by omega
          have n0 : ((n : Int) == 0) = false := by simp; omega
          have n0' : (n == 0) = false := by simp; omega
          have hkr := mod_range z (show (1 : Int) ≤ n by omega)
          obtain ⟨kk, hkk⟩ : ∃ kk : Nat, z.tmod n = kk := ⟨(z % n).toNat, by rw [Int.tmod_eq_emod_of_nonneg z0']; omega⟩
          have hkn : kk < n := by rw [Int.tmod_eq_emod_of_nonneg z0'] at hkk; omega
          have v1 : IntKind.i64.wrap z = z := IntWalk.i64_in _ (by omega)
          have v2 : IntKind.i64.wrap (kk : Int) = kk := IntWalk.i64_in _ (by have := NN.out; omega)
          have k0 : (0 : Int) ≤ (kk : Int) := by omega
          have k1 : (kk : Int) < (n : Int) := by omega
          obtain ⟨⟨eK, nK, cK⟩, hzK⟩ : ∃ u, l[kk]? = some u := ⟨l[kk]'(by rw [← HN.out]; exact hkn), List.getElem?_eq_getElem _⟩
          have a0 : ∀ x : Later wl, x.w.cell? ⟨g1, kk * 3, none⟩ = some (.int .i64 eK) := fun x => x.cell (TW.out.tr_cell hzK).1
          have a1 : ∀ x : Later wl, x.w.cell? ⟨g1, kk * 3 + 1, none⟩ = some (.int .i64 nK) := fun x => x.cell (TW.out.tr_cell hzK).2.1
          have a2 : ∀ x : Later wl, x.w.cell? ⟨g1, kk * 3 + 2, none⟩ = some (.int .i64 cK) := fun x => x.cell (TW.out.tr_cell hzK).2.2
          have HB := hid (show (0 ≤ nK ∧ nK < 256) ∧ eK ≤ 100 ∧ 0 ≤ eK from ⟨(SO.out kk _ hzK).2.1, (SO.out kk _ hzK).2.2, (SO.out kk _ hzK).1.1⟩)
          have HLT := hid hlt
          clear hlt hj hjl hz z0 z1 hkr hkn hzK
          go_wp2_with fail
          refine wp_region_turn (C := fun w' => ∃ x : Later wl, w' = x.w) 16 _ (by kernel_rfl) (by kernel_rfl) rfl rfl ⟨⟨_, (Below.refl _ _).drew⟩, rfl⟩ ?_
          simp only [List.take_succ_cons, List.take_zero, List.drop_succ_cons, List.drop_zero]
          repeat (go_big_quiet_step (fail))
          refine wpQuiet_nil ?_
          intro wt hwt KK hKK
          have HK := hid hKK
          clear hKK
          obtain ⟨⟨wt, hbt⟩, rfl⟩ := hwt
          have TWt := hid (TW.out.still hbt)
          clear hbt TW a0 a1 a2
          go_wp2_with fail
          refine (open_f (e := eK) (n := nK) (c := cK) AL.out OK.out (by have := HB.out; omega) (by have := HB.out; omega) (by have := HB.out; omega) (by have := HB.out; omega) G.out TWt.out).mono ?_
          rintro e w3 ⟨t, er, y3, M3, rfl, h1, h2, h3, h4, h5⟩
          clear TWt
          have TW := hid h1
          replace G := hid h2
          replace SO := hid (SO.out.ext h3.1)
          replace N1 := hid (N1.out.ext h3.1)
          replace NM := hid (show M3.length ≤ 72 + 9 * j by have := h3.2.2; have := NM.out; omega)
          replace AL := hid h4
          replace OK := hid h5
          clear h1 h2 h3 h4 h5 hc0
          go_wp2_with fail
          refine HK.out _ _ ⟨fun w' => w' = w3, rfl, ?_⟩
          clear HK
          refine wpQuiet_nil ?_
          rintro w3 rfl
          go_wp2_with fail
          go_roundw
          case rel => exact ⟨j + 1, y3, M3, (by have := HLT.out; omega), (by have := HLT.out; omega), by go_num, TW, G, SO, hid (by have := NM.out; omega), AL, N1, OK⟩
          case measure => have := HLT.out; simp [intOf]; omega
        · have hex2 : (decide ((j : Int) < (len2 : Int)) = false ∧ decide (j < len2) = false) ∨ (decide ((j : Int) < (len2 : Int)) = true ∧ decide (j < len2) = true ∧ decide ((j : Int) < 20) = false) ∨ (decide ((j : Int) < (len2 : Int)) = true ∧ decide (j < len2) = true ∧ decide ((j : Int) < 20) = true ∧ decide ((0 : Int) < (n : Int)) = false ∧ decide (0 < n) = false) := by
            by_cases h : j < len2
            · by_cases h' : j < 20
              · right; right; refine ⟨by simp; omega, by simp; omega, by simp; omega, by simp; omega, by simp; omega⟩
              · right; left; refine ⟨by simp; omega, by simp; omega, by simp; omega⟩
            · left; refine ⟨by simp; omega, by simp; omega⟩
          replace NM : Hid (M.length ≤ 243) := hid (by have := NM.out; omega)
          clear hlt hj hjl
          rcases hex2 with ⟨hd1, hd1'⟩ | ⟨hd1, hd1', hd2⟩ | ⟨hd1, hd1', hd2, hd3, hd3'⟩
          · go_wp2_with fail
            clear hd1 hd1'
            try clear hd2
            try clear hd3 hd3'
            obtain ⟨hl, hhl⟩ : ∃ h, 2 + (kKeys y.rc.es).length = h := ⟨_, rfl⟩
            refine (keys_two G.out.yo.rc.len TW.out.swap).mono ?_
            rw [hhl]
            rintro e w4 ⟨a3, c3, rfl, h1⟩
            clear TW
            have hl8 : hl ≤ 6 := by have := G.out.yo.rc.len; have : (kKeys y.rc.es).length = y.rc.es.length := by simp [kKeys]
                                    omega
            have hl2 : 2 ≤ hl := by omega
            obtain ⟨Sx, hx1, hx2⟩ := h1.first
            obtain ⟨g3, cx, hx3, _⟩ := hx1.row_cell (j := 0) (u := .int .i64 y.ok) (by simp [nums])
            simp only [Value.slice.injEq] at hx3
            obtain ⟨rfl, _, rfl⟩ := hx3
            clear hx1 hx2
            have TWa := hid (h1.swap.pull 2 rfl)
            have HL := hid hhl
            have HL8 := hid hl8
            have HL2 := hid hl2
            have hheld : hl = ([y.ok, y.rc.ik] ++ kKeys y.rc.es).length := by simp; omega
            have HHE := hid hheld
            have hcl : ∀ (i : Nat) (z : Int), ([y.ok, y.rc.ik] ++ kKeys y.rc.es)[i]? = some z → w4.cell? ⟨g3, 0 + i, none⟩ = some (.int .i64 z) := fun i z hz => by
              rw [Nat.zero_add]
              exact (h1.num_at hz).1
            have HCL := hid hcl
            clear h1 hhl hl8 hl2 hheld hcl
            obtain ⟨Ss, hA, hB⟩ := TWa.out.first
            have HA := hid hA
            have HB := hid hB
            clear hA hB TWa
            go_wp2_with (at_builtin; refine append_ints (k := .i64) (zs := knowns l []) (ys := [y.ok, y.rc.ik] ++ kKeys y.rc.es) (g := g3) (c := c3) Try.underlying33 hi0 hz0 hs0 hy0 (by decide) rfl (.tmp 123) (.tmp 124) rfl (by simp) HA.out HCL.out (by rfl) (by rw [← HHE.out]; rfl) (by rw [← HHE.out]; have := HL8.out; have := NN.out; omega) ?_; intro g4 c4 w5 h4; rw [← HHE.out] at h4 ⊢; have TW4 := hid (HB.out _ _ h4); clear h4 HA HB HCL; obtain ⟨pf, hpf⟩ : ∃ p, w5.heap.size = p := ⟨_, rfl⟩; have TW := hid ((TW4.out.boxk (o := .cells #[.bool dh, .bool kem] 69 (0, 0)) pf hpf).turn); clear TW4)
            rw [show knowns l [] ++ ([y.ok, y.rc.ik] ++ kKeys y.rc.es) = knowns l ([y.ok, y.rc.ik] ++ kKeys y.rc.es) by simp [knowns]] at TW
            have TW2 : Hid (Two W (w5.alloc (.cells #[.bool dh, .bool kem] 69 (0, 0))) b pa pb x y M 20000 [RowR 3 1 (.slice (some ⟨g4, 0, none⟩) (n + 1 + hl) c4) (n + 1 + hl) (nums .i64 (knowns l ([y.ok, y.rc.ik] ++ kKeys y.rc.es))), Blk pf (.cells #[.bool dh, .bool kem] 69 (0, 0)), RowR 3 1 (.slice (some ⟨g3, 0, none⟩) hl c3) hl (nums .i64 ([y.ok, y.rc.ik] ++ kKeys y.rc.es)), RowR 55 3 (.slice (some ⟨g1, 0, none⟩) n c1) n (trC l)]) := TW
            clear TW
            refine (now_two TW2.out.swap).mono ?_
            obtain ⟨ie, hie⟩ : ∃ e, y.rc.ie = e := ⟨_, rfl⟩
            rw [hie]
            rintro e w6 ⟨rfl, h1⟩
            clear TW2
            have TW := hid h1.swap
            have HIE := hid hie
            have d9 : decide ((hl : Int) < 2) = false := by have := HL2.out; simp; omega
            have d9' : decide (hl < 2) = false := by have := HL2.out; simp; omega
            clear h1 hie hpf
            have hKI := knows_in G.out SO.out OK.out
            have KI := hid hKI
            clear hKI
            go_wp2_with fail
            clear d9 d9'
            go_loopw [24] (fun q wr => ∃ r : Nat, r ≤ n ∧ q = .int .i64 r ∧ Hid (Two W wr b pa pb x y M 20000 [RowR 3 1 (.slice (some ⟨g4, 0, none⟩) (n + 1 + hl) c4) (n + 1 + hl) (nums .i64 (knowns l ([y.ok, y.rc.ik] ++ kKeys y.rc.es))), Blk pf (.cells #[.bool dh, .bool kem] 69 (0, 0)), RowR 3 1 (.slice (some ⟨g3, 0, none⟩) hl c3) hl (nums .i64 ([y.ok, y.rc.ik] ++ kKeys y.rc.es)), RowR 55 3 (.slice (some ⟨g1, 0, none⟩) n c1) n (trC l)])) (fun q _ => n - (intOf q).toNat)
            case atStart => exact ⟨0, by omega, rfl, TW⟩
            case round =>
              clear TW
              obtain ⟨r, hr1, rfl, TW⟩ := hrel
              obtain ⟨w7, hw7⟩ : ∃ w7 : World, w7 = wr := ⟨_, rfl⟩
              rw [← hw7] at TW ⊢
              clear hw7 wr
              by_cases hlt : r < n
              · have hd1 : decide ((r : Int) < (n : Int)) = true := by simp; omega
                have hd1' : decide (r < n) = true := by simp; omega
                have z4 : IntKind.i64.wrap ((r : Int) + 1) = (r : Int) + 1 := IntWalk.i64_in _ (by have := NN.out; omega)
                have r0 : (0 : Int) ≤ (r : Int) := by omega
                have r1 : (r : Int) < (n : Int) := by omega
                obtain ⟨⟨eK, nK, cK⟩, hzK⟩ : ∃ u, l[r]? = some u := ⟨l[r]'(by rw [← HN.out]; exact hlt), List.getElem?_eq_getElem _⟩
                obtain ⟨yk, p0, hsea, hyk, hiff⟩ := can_text G.out AL.out N1.out SO.out OK.out hzK dh kem
                rw [HIE.out] at hiff
                have a2 := ((TW.out.pull 3 rfl).tr_cell hzK).2.2
                have ZK := hid hzK
                have HSEA := hid hsea
                have HYK := hid hyk
                have HIFF := hid hiff
                have HLT := hid hlt
                clear hlt hr1 hzK hsea hyk hiff
                go_wp2_with fail
                refine (get_sea HSEA.out TW.out).mono ?_
                rintro e w8 ⟨rfl, h1⟩
                clear TW a2
                obtain ⟨pt, hpt⟩ : ∃ p, w8.heap.size = p := ⟨_, rfl⟩
                have TW := hid ((h1.boxk (o := .cells #[.int .i64 10, .string ⟨#[]⟩, .int .u64 nK, .int .i64 yk, .int .i64 1, .int .i64 p0] 47 (0, 0)) pt hpt).turn)
                have hk := (TW.out.pull 2 rfl).blk
                have f0 := (cell_of_heap hk 0).trans (show _ = some (.bool dh) from rfl)
                have f1 := (cell_of_heap hk 1).trans (show _ = some (.bool kem) from rfl)
                clear hk
                have hk := (TW.out.pull 1 rfl).blk
                have t3 := (cell_of_heap hk 3).trans (show _ = some (.int .i64 yk) from rfl)
                clear hk
                clear h1
                go_wp2_with fail
                refine (can_two dh kem (some ⟨g4, 0, none⟩) c4 KI.out HYK.out TW.out).mono ?_
                rintro e w10 ⟨p, rfl, hp, h1⟩
                clear TW f0 f1 t3 hpt
                have TW := hid h1
                have HP := hid hp
                clear h1 hp
                go_wp2_with fail
                go_loopw [29, 30] (fun v q wr => ∃ (j2 kq : Nat) (kb : Bool), j2 ≤ (kKeys y.rc.es).length ∧ v = .bool kb ∧ q = .int .i64 kq ∧ Hid (kq = 2 + j2) ∧ Hid (kb = decide (yk ∈ (kKeys y.rc.es).take j2)) ∧ Hid (Two W wr b pa pb x y M 20000 [RowR 3 1 (.slice (some ⟨g4, 0, none⟩) (n + 1 + hl) c4) (n + 1 + hl) (nums .i64 (knowns l ([y.ok, y.rc.ik] ++ kKeys y.rc.es))), Blk pt (.cells #[.int .i64 10, .string ⟨#[]⟩, .int .u64 nK, .int .i64 yk, .int .i64 1, .int .i64 p0] 47 (0, 0)), Blk pf (.cells #[.bool dh, .bool kem] 69 (0, 0)), RowR 3 1 (.slice (some ⟨g3, 0, none⟩) hl c3) hl (nums .i64 ([y.ok, y.rc.ik] ++ kKeys y.rc.es)), RowR 55 3 (.slice (some ⟨g1, 0, none⟩) n c1) n (trC l)])) (fun _ q _ => hl - (intOf q).toNat)
                case atStart => exact ⟨0, 2, false, by omega, rfl, rfl, hid rfl, hid (by simp), TW⟩
                case round =>
                  clear TW
                  obtain ⟨j2, kq, kb, hj2, rfl, rfl, HQ, HKB, TW⟩ := hrel
                  obtain ⟨w11, hw11⟩ : ∃ w11 : World, w11 = wr := ⟨_, rfl⟩
                  rw [← hw11] at TW ⊢
                  clear hw11 wr
                  by_cases hlt2 : kq < hl
                  · have hd2 : decide ((kq : Int) < (hl : Int)) = true := by simp; omega
                    have hd2' : decide (kq < hl) = true := by simp; omega
                    have z5 : IntKind.i64.wrap ((kq : Int) + 1) = (kq : Int) + 1 := IntWalk.i64_in _ (by have := HL8.out; omega)
                    have q0 : (0 : Int) ≤ (kq : Int) := by omega
                    have q1 : (kq : Int) < (hl : Int) := by omega
                    have hj3 : j2 < (kKeys y.rc.es).length := by have := HL.out; have := HQ.out; omega
                    obtain ⟨u, hu⟩ : ∃ u, (kKeys y.rc.es)[j2]? = some u := ⟨(kKeys y.rc.es)[j2], List.getElem?_eq_getElem hj3⟩
                    have hu2 : ([y.ok, y.rc.ik] ++ kKeys y.rc.es)[kq]? = some u := by
                      rw [HQ.out, List.getElem?_append_right (by simp)]
                      simpa using hu
                    have c0 : ∀ z : Later w11, z.w.cell? ⟨g3, kq, none⟩ = some (.int .i64 u) := fun z => z.cell ((TW.out.pull 3 rfl).num_at hu2).1
                    have hk := (TW.out.pull 1 rfl).blk
                    have t3 : ∀ z : Later w11, z.w.cell? ⟨pt, 3, none⟩ = some (.int .i64 yk) := fun z => z.cell ((cell_of_heap hk 3).trans rfl)
                    have hnext : decide (yk ∈ (kKeys y.rc.es).take (j2 + 1)) = (kb || (u == yk)) := by
                      rw [HKB.out, List.take_add_one, hu]
                      by_cases h1 : yk ∈ (kKeys y.rc.es).take j2
                      · simp [h1]
                      · have h2 := beq_dec u yk
                        simp [h1, h2]
                    have HNX := hid hnext
                    have HLT2 := hid hlt2
                    have HJ3 := hid hj3
                    clear hk hlt2 hj2 hj3 hu hu2 hnext
                    cases kb
                    · by_cases hu : u = yk
                      · have e1 : (u == yk) = true := by simpa using hu
                        clear hu
                        go_wp2_with fail
                        refine wp_region_calm (by kernel_rfl) (by kernel_rfl) ?_
                        repeat (go_big_quiet_step (fail))
                        refine wpQuiet_nil ?_
                        intro wc hwc
                        obtain ⟨⟨wc, hbc⟩, rfl⟩ := hwc
                        replace TW := hid (TW.out.still hbc)
                        clear c0 t3 hbc
                        go_wp2_with fail
                        go_roundw
                        case rel => exact ⟨j2 + 1, kq + 1, true, by have := HJ3.out; omega, rfl, by go_num, hid (by have := HQ.out; omega), hid (by rw [HNX.out, e1]; rfl), TW⟩
                        case measure => have := HLT2.out; simp [intOf]; omega
                      · have e1 : (u == yk) = false := by simpa using hu
                        clear hu
                        go_wp2_with fail
                        refine wp_region_calm (by kernel_rfl) (by kernel_rfl) ?_
                        repeat (go_big_quiet_step (fail))
                        refine wpQuiet_nil ?_
                        intro wc hwc
                        obtain ⟨⟨wc, hbc⟩, rfl⟩ := hwc
                        replace TW := hid (TW.out.still hbc)
                        clear c0 t3 hbc
                        go_wp2_with fail
                        go_roundw
                        case rel => exact ⟨j2 + 1, kq + 1, false, by have := HJ3.out; omega, rfl, by go_num, hid (by have := HQ.out; omega), hid (by rw [HNX.out, e1]; rfl), TW⟩
                        case measure => have := HLT2.out; simp [intOf]; omega
                    · go_wp2_with fail
                      refine wp_region_calm (by kernel_rfl) (by kernel_rfl) ?_
                      repeat (go_big_quiet_step (fail))
                      refine wpQuiet_nil ?_
                      intro wc hwc
                      obtain ⟨⟨wc, hbc⟩, rfl⟩ := hwc
                      replace TW := hid (TW.out.still hbc)
                      clear c0 t3 hbc
                      go_wp2_with fail
                      go_roundw
                      case rel => exact ⟨j2 + 1, kq + 1, true, by have := HJ3.out; omega, rfl, by go_num, hid (by have := HQ.out; omega), hid (by rw [HNX.out]; rfl), TW⟩
                      case measure => have := HLT2.out; simp [intOf]; omega
                  · have hd2 : decide ((kq : Int) < (hl : Int)) = false := by simp; omega
                    have hd2' : decide (kq < hl) = false := by simp; omega
                    have hkb : kb = decide (yk ∈ kKeys y.rc.es) := by
                      have h1 := HKB.out
                      rw [List.take_of_length_le (by have := HL.out; have := HQ.out; omega)] at h1
                      exact h1
                    have a0 := ((TW.out.pull 4 rfl).tr_cell ZK.out).1
                    by_cases hge : ie ≤ eK
                    · have e2 : decide (ie ≤ eK) = true := by simpa using hge
                      have hpt : p = true := HP.out.2 (HIFF.out.2 (.inl hge))
                      subst hpt
                      clear hge hlt2 hj2 hkb
                      go_wp2_with fail
                      go_roundw
                      case rel => exact ⟨r + 1, by have := HLT.out; omega, by go_num, hid TW.out.turn.dropR⟩
                      case measure => have := HLT.out; simp [intOf]; omega
                    · have e2 : decide (ie ≤ eK) = false := by simpa using hge
                      have hpk : p = kb := by
                        rw [hkb]
                        by_cases h1 : yk ∈ kKeys y.rc.es
                        · rw [decide_eq_true h1]; exact HP.out.2 (HIFF.out.2 (.inr h1))
                        · rw [decide_eq_false h1]
                          cases p with
                          | false => rfl
                          | true => exact absurd (HIFF.out.1 (HP.out.1 rfl)) (by rintro (h2 | h2); exact hge h2; exact h1 h2)
                      subst hpk
                      clear hge hlt2 hj2 hkb
                      cases p
                      · go_wp2_with fail
                        go_roundw
                        case rel => exact ⟨r + 1, by have := HLT.out; omega, by go_num, hid TW.out.turn.dropR⟩
                        case measure => have := HLT.out; simp [intOf]; omega
                      · go_wp2_with fail
                        go_roundw
                        case rel => exact ⟨r + 1, by have := HLT.out; omega, by go_num, hid TW.out.turn.dropR⟩
                        case measure => have := HLT.out; simp [intOf]; omega
              · have hd1 : decide ((r : Int) < (n : Int)) = false := by simp; omega
                have hd1' : decide (r < n) = false := by simp; omega
                have hk := (TW.out.pull 1 rfl).blk
                have f0 := (cell_of_heap hk 0).trans (show _ = some (.bool dh) from rfl)
                have f1 := (cell_of_heap hk 1).trans (show _ = some (.bool kem) from rfl)
                clear hk hlt hr1
                go_wp2_with fail
                refine (can_two dh kem (some ⟨g4, 0, none⟩) c4 KI.out (show 1 ≤ (2 : Int) ∧ (2 : Int) ≤ M.length from ⟨by decide, by have := G.out.le; omega⟩) TW.out).mono ?_
                rintro e w8 ⟨p, rfl, hp, h1⟩
                clear TW f0 f1
                have TW := hid h1
                rw [can_first G.out AL.out N1.out SO.out OK.out, HIE.out] at hp
                clear h1
                by_cases h0 : ie = 0
                · have e2 : (ie == 0) = true := by simpa using h0
                  have hpt : p = true := hp.2 h0
                  subst hpt
                  clear hp h0
                  go_wp2_with fail
                  refine (fixed19_calls _).mono ?_
                  rintro e w9 ⟨rfl, h1⟩
                  have T2 := hid (TW.out.below.trans (h1.mono TW.out.below.size))
                  clear h1
                  go_wp2_with fail
                  go_ret
                  exact ⟨rfl, T2.out⟩
                · have e2 : (ie == 0) = false := by simpa using h0
                  have hpt : p = false := by
                    cases p with
                    | false => rfl
                    | true => exact absurd (hp.1 rfl) h0
                  subst hpt
                  clear hp h0
                  go_wp2_with fail
                  refine (fixed19_calls _).mono ?_
                  rintro e w9 ⟨rfl, h1⟩
                  have T2 := hid (TW.out.below.trans (h1.mono TW.out.below.size))
                  clear h1
                  go_wp2_with fail
                  go_ret
                  exact ⟨rfl, T2.out⟩
          · go_wp2_with fail
            clear hd1 hd1'
            try clear hd2
            try clear hd3 hd3'
            obtain ⟨hl, hhl⟩ : ∃ h, 2 + (kKeys y.rc.es).length = h := ⟨_, rfl⟩
            refine (keys_two G.out.yo.rc.len TW.out.swap).mono ?_
            rw [hhl]
            rintro e w4 ⟨a3, c3, rfl, h1⟩
            clear TW
            have hl8 : hl ≤ 6 := by have := G.out.yo.rc.len; have : (kKeys y.rc.es).length = y.rc.es.length := by simp [kKeys]
                                    omega
            have hl2 : 2 ≤ hl := by omega
            obtain ⟨Sx, hx1, hx2⟩ := h1.first
            obtain ⟨g3, cx, hx3, _⟩ := hx1.row_cell (j := 0) (u := .int .i64 y.ok) (by simp [nums])
            simp only [Value.slice.injEq] at hx3
            obtain ⟨rfl, _, rfl⟩ := hx3
            clear hx1 hx2
            have TWa := hid (h1.swap.pull 2 rfl)
            have HL := hid hhl
            have HL8 := hid hl8
            have HL2 := hid hl2
            have hheld : hl = ([y.ok, y.rc.ik] ++ kKeys y.rc.es).length := by simp; omega
            have HHE := hid hheld
            have hcl : ∀ (i : Nat) (z : Int), ([y.ok, y.rc.ik] ++ kKeys y.rc.es)[i]? = some z → w4.cell? ⟨g3, 0 + i, none⟩ = some (.int .i64 z) := fun i z hz => by
              rw [Nat.zero_add]
              exact (h1.num_at hz).1
            have HCL := hid hcl
            clear h1 hhl hl8 hl2 hheld hcl
            obtain ⟨Ss, hA, hB⟩ := TWa.out.first
            have HA := hid hA
            have HB := hid hB
            clear hA hB TWa
            go_wp2_with (at_builtin; refine append_ints (k := .i64) (zs := knowns l []) (ys := [y.ok, y.rc.ik] ++ kKeys y.rc.es) (g := g3) (c := c3) Try.underlying33 hi0 hz0 hs0 hy0 (by decide) rfl (.tmp 123) (.tmp 124) rfl (by simp) HA.out HCL.out (by rfl) (by rw [← HHE.out]; rfl) (by rw [← HHE.out]; have := HL8.out; have := NN.out; omega) ?_; intro g4 c4 w5 h4; rw [← HHE.out] at h4 ⊢; have TW4 := hid (HB.out _ _ h4); clear h4 HA HB HCL; obtain ⟨pf, hpf⟩ : ∃ p, w5.heap.size = p := ⟨_, rfl⟩; have TW := hid ((TW4.out.boxk (o := .cells #[.bool dh, .bool kem] 69 (0, 0)) pf hpf).turn); clear TW4)
            rw [show knowns l [] ++ ([y.ok, y.rc.ik] ++ kKeys y.rc.es) = knowns l ([y.ok, y.rc.ik] ++ kKeys y.rc.es) by simp [knowns]] at TW
            have TW2 : Hid (Two W (w5.alloc (.cells #[.bool dh, .bool kem] 69 (0, 0))) b pa pb x y M 20000 [RowR 3 1 (.slice (some ⟨g4, 0, none⟩) (n + 1 + hl) c4) (n + 1 + hl) (nums .i64 (knowns l ([y.ok, y.rc.ik] ++ kKeys y.rc.es))), Blk pf (.cells #[.bool dh, .bool kem] 69 (0, 0)), RowR 3 1 (.slice (some ⟨g3, 0, none⟩) hl c3) hl (nums .i64 ([y.ok, y.rc.ik] ++ kKeys y.rc.es)), RowR 55 3 (.slice (some ⟨g1, 0, none⟩) n c1) n (trC l)]) := TW
            clear TW
            refine (now_two TW2.out.swap).mono ?_
            obtain ⟨ie, hie⟩ : ∃ e, y.rc.ie = e := ⟨_, rfl⟩
            rw [hie]
            rintro e w6 ⟨rfl, h1⟩
            clear TW2
            have TW := hid h1.swap
            have HIE := hid hie
            have d9 : decide ((hl : Int) < 2) = false := by have := HL2.out; simp; omega
            have d9' : decide (hl < 2) = false := by have := HL2.out; simp; omega
            clear h1 hie hpf
            have hKI := knows_in G.out SO.out OK.out
            have KI := hid hKI
            clear hKI
            go_wp2_with fail
            clear d9 d9'
            go_loopw [24] (fun q wr => ∃ r : Nat, r ≤ n ∧ q = .int .i64 r ∧ Hid (Two W wr b pa pb x y M 20000 [RowR 3 1 (.slice (some ⟨g4, 0, none⟩) (n + 1 + hl) c4) (n + 1 + hl) (nums .i64 (knowns l ([y.ok, y.rc.ik] ++ kKeys y.rc.es))), Blk pf (.cells #[.bool dh, .bool kem] 69 (0, 0)), RowR 3 1 (.slice (some ⟨g3, 0, none⟩) hl c3) hl (nums .i64 ([y.ok, y.rc.ik] ++ kKeys y.rc.es)), RowR 55 3 (.slice (some ⟨g1, 0, none⟩) n c1) n (trC l)])) (fun q _ => n - (intOf q).toNat)
            case atStart => exact ⟨0, by omega, rfl, TW⟩
            case round =>
              clear TW
              obtain ⟨r, hr1, rfl, TW⟩ := hrel
              obtain ⟨w7, hw7⟩ : ∃ w7 : World, w7 = wr := ⟨_, rfl⟩
              rw [← hw7] at TW ⊢
              clear hw7 wr
              by_cases hlt : r < n
              · have hd1 : decide ((r : Int) < (n : Int)) = true := by simp; omega
                have hd1' : decide (r < n) = true := by simp; omega
                have z4 : IntKind.i64.wrap ((r : Int) + 1) = (r : Int) + 1 := IntWalk.i64_in _ (by have := NN.out; omega)
                have r0 : (0 : Int) ≤ (r : Int) := by omega
                have r1 : (r : Int) < (n : Int) := by omega
                obtain ⟨⟨eK, nK, cK⟩, hzK⟩ : ∃ u, l[r]? = some u := ⟨l[r]'(by rw [← HN.out]; exact hlt), List.getElem?_eq_getElem _⟩
                obtain ⟨yk, p0, hsea, hyk, hiff⟩ := can_text G.out AL.out N1.out SO.out OK.out hzK dh kem
                rw [HIE.out] at hiff
                have a2 := ((TW.out.pull 3 rfl).tr_cell hzK).2.2
                have ZK := hid hzK
                have HSEA := hid hsea
                have HYK := hid hyk
                have HIFF := hid hiff
                have HLT := hid hlt
                clear hlt hr1 hzK hsea hyk hiff
                go_wp2_with fail
                refine (get_sea HSEA.out TW.out).mono ?_
                rintro e w8 ⟨rfl, h1⟩
                clear TW a2
                obtain ⟨pt, hpt⟩ : ∃ p, w8.heap.size = p := ⟨_, rfl⟩
                have TW := hid ((h1.boxk (o := .cells #[.int .i64 10, .string ⟨#[]⟩, .int .u64 nK, .int .i64 yk, .int .i64 1, .int .i64 p0] 47 (0, 0)) pt hpt).turn)
                have hk := (TW.out.pull 2 rfl).blk
                have f0 := (cell_of_heap hk 0).trans (show _ = some (.bool dh) from rfl)
                have f1 := (cell_of_heap hk 1).trans (show _ = some (.bool kem) from rfl)
                clear hk
                have hk := (TW.out.pull 1 rfl).blk
                have t3 := (cell_of_heap hk 3).trans (show _ = some (.int .i64 yk) from rfl)
                clear hk
                clear h1
                go_wp2_with fail
                refine (can_two dh kem (some ⟨g4, 0, none⟩) c4 KI.out HYK.out TW.out).mono ?_
                rintro e w10 ⟨p, rfl, hp, h1⟩
                clear TW f0 f1 t3 hpt
                have TW := hid h1
                have HP := hid hp
                clear h1 hp
                go_wp2_with fail
                go_loopw [29, 30] (fun v q wr => ∃ (j2 kq : Nat) (kb : Bool), j2 ≤ (kKeys y.rc.es).length ∧ v = .bool kb ∧ q = .int .i64 kq ∧ Hid (kq = 2 + j2) ∧ Hid (kb = decide (yk ∈ (kKeys y.rc.es).take j2)) ∧ Hid (Two W wr b pa pb x y M 20000 [RowR 3 1 (.slice (some ⟨g4, 0, none⟩) (n + 1 + hl) c4) (n + 1 + hl) (nums .i64 (knowns l ([y.ok, y.rc.ik] ++ kKeys y.rc.es))), Blk pt (.cells #[.int .i64 10, .string ⟨#[]⟩, .int .u64 nK, .int .i64 yk, .int .i64 1, .int .i64 p0] 47 (0, 0)), Blk pf (.cells #[.bool dh, .bool kem] 69 (0, 0)), RowR 3 1 (.slice (some ⟨g3, 0, none⟩) hl c3) hl (nums .i64 ([y.ok, y.rc.ik] ++ kKeys y.rc.es)), RowR 55 3 (.slice (some ⟨g1, 0, none⟩) n c1) n (trC l)])) (fun _ q _ => hl - (intOf q).toNat)
                case atStart => exact ⟨0, 2, false, by omega, rfl, rfl, hid rfl, hid (by simp), TW⟩
                case round =>
                  clear TW
                  obtain ⟨j2, kq, kb, hj2, rfl, rfl, HQ, HKB, TW⟩ := hrel
                  obtain ⟨w11, hw11⟩ : ∃ w11 : World, w11 = wr := ⟨_, rfl⟩
                  rw [← hw11] at TW ⊢
                  clear hw11 wr
                  by_cases hlt2 : kq < hl
                  · have hd2 : decide ((kq : Int) < (hl : Int)) = true := by simp; omega
                    have hd2' : decide (kq < hl) = true := by simp; omega
                    have z5 : IntKind.i64.wrap ((kq : Int) + 1) = (kq : Int) + 1 := IntWalk.i64_in _ (by have := HL8.out; omega)
                    have q0 : (0 : Int) ≤ (kq : Int) := by omega
                    have q1 : (kq : Int) < (hl : Int) := by omega
                    have hj3 : j2 < (kKeys y.rc.es).length := by have := HL.out; have := HQ.out; omega
                    obtain ⟨u, hu⟩ : ∃ u, (kKeys y.rc.es)[j2]? = some u := ⟨(kKeys y.rc.es)[j2], List.getElem?_eq_getElem hj3⟩
                    have hu2 : ([y.ok, y.rc.ik] ++ kKeys y.rc.es)[kq]? = some u := by
                      rw [HQ.out, List.getElem?_append_right (by simp)]
                      simpa using hu
                    have c0 : ∀ z : Later w11, z.w.cell? ⟨g3, kq, none⟩ = some (.int .i64 u) := fun z => z.cell ((TW.out.pull 3 rfl).num_at hu2).1
                    have hk := (TW.out.pull 1 rfl).blk
                    have t3 : ∀ z : Later w11, z.w.cell? ⟨pt, 3, none⟩ = some (.int .i64 yk) := fun z => z.cell ((cell_of_heap hk 3).trans rfl)
                    have hnext : decide (yk ∈ (kKeys y.rc.es).take (j2 + 1)) = (kb || (u == yk)) := by
                      rw [HKB.out, List.take_add_one, hu]
                      by_cases h1 : yk ∈ (kKeys y.rc.es).take j2
                      · simp [h1]
                      · have h2 := beq_dec u yk
                        simp [h1, h2]
                    have HNX := hid hnext
                    have HLT2 := hid hlt2
                    have HJ3 := hid hj3
                    clear hk hlt2 hj2 hj3 hu hu2 hnext
                    cases kb
                    · by_cases hu : u = yk
                      · have e1 : (u == yk) = true := by simpa using hu
                        clear hu
                        go_wp2_with fail
                        refine wp_region_calm (by kernel_rfl) (by kernel_rfl) ?_
                        repeat (go_big_quiet_step (fail))
                        refine wpQuiet_nil ?_
                        intro wc hwc
                        obtain ⟨⟨wc, hbc⟩, rfl⟩ := hwc
                        replace TW := hid (TW.out.still hbc)
                        clear c0 t3 hbc
                        go_wp2_with fail
                        go_roundw
                        case rel => exact ⟨j2 + 1, kq + 1, true, by have := HJ3.out; omega, rfl, by go_num, hid (by have := HQ.out; omega), hid (by rw [HNX.out, e1]; rfl), TW⟩
                        case measure => have := HLT2.out; simp [intOf]; omega
                      · have e1 : (u == yk) = false := by simpa using hu
                        clear hu
                        go_wp2_with fail
                        refine wp_region_calm (by kernel_rfl) (by kernel_rfl) ?_
                        repeat (go_big_quiet_step (fail))
                        refine wpQuiet_nil ?_
                        intro wc hwc
                        obtain ⟨⟨wc, hbc⟩, rfl⟩ := hwc
                        replace TW := hid (TW.out.still hbc)
                        clear c0 t3 hbc
                        go_wp2_with fail
                        go_roundw
                        case rel => exact ⟨j2 + 1, kq + 1, false, by have := HJ3.out; omega, rfl, by go_num, hid (by have := HQ.out; omega), hid (by rw [HNX.out, e1]; rfl), TW⟩
                        case measure => have := HLT2.out; simp [intOf]; omega
                    · go_wp2_with fail
                      refine wp_region_calm (by kernel_rfl) (by kernel_rfl) ?_
                      repeat (go_big_quiet_step (fail))
                      refine wpQuiet_nil ?_
                      intro wc hwc
                      obtain ⟨⟨wc, hbc⟩, rfl⟩ := hwc
                      replace TW := hid (TW.out.still hbc)
                      clear c0 t3 hbc
                      go_wp2_with fail
                      go_roundw
                      case rel => exact ⟨j2 + 1, kq + 1, true, by have := HJ3.out; omega, rfl, by go_num, hid (by have := HQ.out; omega), hid (by rw [HNX.out]; rfl), TW⟩
                      case measure => have := HLT2.out; simp [intOf]; omega
                  · have hd2 : decide ((kq : Int) < (hl : Int)) = false := by simp; omega
                    have hd2' : decide (kq < hl) = false := by simp; omega
                    have hkb : kb = decide (yk ∈ kKeys y.rc.es) := by
                      have h1 := HKB.out
                      rw [List.take_of_length_le (by have := HL.out; have := HQ.out; omega)] at h1
                      exact h1
                    have a0 := ((TW.out.pull 4 rfl).tr_cell ZK.out).1
                    by_cases hge : ie ≤ eK
                    · have e2 : decide (ie ≤ eK) = true := by simpa using hge
                      have hpt : p = true := HP.out.2 (HIFF.out.2 (.inl hge))
                      subst hpt
                      clear hge hlt2 hj2 hkb
                      go_wp2_with fail
                      go_roundw
                      case rel => exact ⟨r + 1, by have := HLT.out; omega, by go_num, hid TW.out.turn.dropR⟩
                      case measure => have := HLT.out; simp [intOf]; omega
                    · have e2 : decide (ie ≤ eK) = false := by simpa using hge
                      have hpk : p = kb := by
                        rw [hkb]
                        by_cases h1 : yk ∈ kKeys y.rc.es
                        · rw [decide_eq_true h1]; exact HP.out.2 (HIFF.out.2 (.inr h1))
                        · rw [decide_eq_false h1]
                          cases p with
                          | false => rfl
                          | true => exact absurd (HIFF.out.1 (HP.out.1 rfl)) (by rintro (h2 | h2); exact hge h2; exact h1 h2)
                      subst hpk
                      clear hge hlt2 hj2 hkb
                      cases p
                      · go_wp2_with fail
                        go_roundw
                        case rel => exact ⟨r + 1, by have := HLT.out; omega, by go_num, hid TW.out.turn.dropR⟩
                        case measure => have := HLT.out; simp [intOf]; omega
                      · go_wp2_with fail
                        go_roundw
                        case rel => exact ⟨r + 1, by have := HLT.out; omega, by go_num, hid TW.out.turn.dropR⟩
                        case measure => have := HLT.out; simp [intOf]; omega
              · have hd1 : decide ((r : Int) < (n : Int)) = false := by simp; omega
                have hd1' : decide (r < n) = false := by simp; omega
                have hk := (TW.out.pull 1 rfl).blk
                have f0 := (cell_of_heap hk 0).trans (show _ = some (.bool dh) from rfl)
                have f1 := (cell_of_heap hk 1).trans (show _ = some (.bool kem) from rfl)
                clear hk hlt hr1
                go_wp2_with fail
                refine (can_two dh kem (some ⟨g4, 0, none⟩) c4 KI.out (show 1 ≤ (2 : Int) ∧ (2 : Int) ≤ M.length from ⟨by decide, by have := G.out.le; omega⟩) TW.out).mono ?_
                rintro e w8 ⟨p, rfl, hp, h1⟩
                clear TW f0 f1
                have TW := hid h1
                rw [can_first G.out AL.out N1.out SO.out OK.out, HIE.out] at hp
                clear h1
                by_cases h0 : ie = 0
                · have e2 : (ie == 0) = true := by simpa using h0
                  have hpt : p = true := hp.2 h0
                  subst hpt
                  clear hp h0
                  go_wp2_with fail
                  refine (fixed19_calls _).mono ?_
                  rintro e w9 ⟨rfl, h1⟩
                  have T2 := hid (TW.out.below.trans (h1.mono TW.out.below.size))
                  clear h1
                  go_wp2_with fail
                  go_ret
                  exact ⟨rfl, T2.out⟩
                · have e2 : (ie == 0) = false := by simpa using h0
                  have hpt : p = false := by
                    cases p with
                    | false => rfl
                    | true => exact absurd (hp.1 rfl) h0
                  subst hpt
                  clear hp h0
                  go_wp2_with fail
                  refine (fixed19_calls _).mono ?_
                  rintro e w9 ⟨rfl, h1⟩
                  have T2 := hid (TW.out.below.trans (h1.mono TW.out.below.size))
                  clear h1
                  go_wp2_with fail
                  go_ret
                  exact ⟨rfl, T2.out⟩
          · go_wp2_with fail
            clear hd1 hd1'
            try clear hd2
            try clear hd3 hd3'
            obtain ⟨hl, hhl⟩ : ∃ h, 2 + (kKeys y.rc.es).length = h := ⟨_, rfl⟩
            refine (keys_two G.out.yo.rc.len TW.out.swap).mono ?_
            rw [hhl]
            rintro e w4 ⟨a3, c3, rfl, h1⟩
            clear TW
            have hl8 : hl ≤ 6 := by have := G.out.yo.rc.len; have : (kKeys y.rc.es).length = y.rc.es.length := by simp [kKeys]
                                    omega
            have hl2 : 2 ≤ hl := by omega
            obtain ⟨Sx, hx1, hx2⟩ := h1.first
            obtain ⟨g3, cx, hx3, _⟩ := hx1.row_cell (j := 0) (u := .int .i64 y.ok) (by simp [nums])
            simp only [Value.slice.injEq] at hx3
            obtain ⟨rfl, _, rfl⟩ := hx3
            clear hx1 hx2
            have TWa := hid (h1.swap.pull 2 rfl)
            have HL := hid hhl
            have HL8 := hid hl8
            have HL2 := hid hl2
            have hheld : hl = ([y.ok, y.rc.ik] ++ kKeys y.rc.es).length := by simp; omega
            have HHE := hid hheld
            have hcl : ∀ (i : Nat) (z : Int), ([y.ok, y.rc.ik] ++ kKeys y.rc.es)[i]? = some z → w4.cell? ⟨g3, 0 + i, none⟩ = some (.int .i64 z) := fun i z hz => by
              rw [Nat.zero_add]
              exact (h1.num_at hz).1
            have HCL := hid hcl
            clear h1 hhl hl8 hl2 hheld hcl
            obtain ⟨Ss, hA, hB⟩ := TWa.out.first
            have HA := hid hA
            have HB := hid hB
            clear hA hB TWa
            go_wp2_with (at_builtin; refine append_ints (k := .i64) (zs := knowns l []) (ys := [y.ok, y.rc.ik] ++ kKeys y.rc.es) (g := g3) (c := c3) Try.underlying33 hi0 hz0 hs0 hy0 (by decide) rfl (.tmp 123) (.tmp 124) rfl (by simp) HA.out HCL.out (by rfl) (by rw [← HHE.out]; rfl) (by rw [← HHE.out]; have := HL8.out; have := NN.out; omega) ?_; intro g4 c4 w5 h4; rw [← HHE.out] at h4 ⊢; have TW4 := hid (HB.out _ _ h4); clear h4 HA HB HCL; obtain ⟨pf, hpf⟩ : ∃ p, w5.heap.size = p := ⟨_, rfl⟩; have TW := hid ((TW4.out.boxk (o := .cells #[.bool dh, .bool kem] 69 (0, 0)) pf hpf).turn); clear TW4)
            rw [show knowns l [] ++ ([y.ok, y.rc.ik] ++ kKeys y.rc.es) = knowns l ([y.ok, y.rc.ik] ++ kKeys y.rc.es) by simp [knowns]] at TW
            have TW2 : Hid (Two W (w5.alloc (.cells #[.bool dh, .bool kem] 69 (0, 0))) b pa pb x y M 20000 [RowR 3 1 (.slice (some ⟨g4, 0, none⟩) (n + 1 + hl) c4) (n + 1 + hl) (nums .i64 (knowns l ([y.ok, y.rc.ik] ++ kKeys y.rc.es))), Blk pf (.cells #[.bool dh, .bool kem] 69 (0, 0)), RowR 3 1 (.slice (some ⟨g3, 0, none⟩) hl c3) hl (nums .i64 ([y.ok, y.rc.ik] ++ kKeys y.rc.es)), RowR 55 3 (.slice (some ⟨g1, 0, none⟩) n c1) n (trC l)]) := TW
            clear TW
            refine (now_two TW2.out.swap).mono ?_
            obtain ⟨ie, hie⟩ : ∃ e, y.rc.ie = e := ⟨_, rfl⟩
            rw [hie]
            rintro e w6 ⟨rfl, h1⟩
            clear TW2
            have TW := hid h1.swap
            have HIE := hid hie
            have d9 : decide ((hl : Int) < 2) = false := by have := HL2.out; simp; omega
            have d9' : decide (hl < 2) = false := by have := HL2.out; simp; omega
            clear h1 hie hpf
            have hKI := knows_in G.out SO.out OK.out
            have KI := hid hKI
            clear hKI
            go_wp2_with fail
            clear d9 d9'
            go_loopw [24] (fun q wr => ∃ r : Nat, r ≤ n ∧ q = .int .i64 r ∧ Hid (Two W wr b pa pb x y M 20000 [RowR 3 1 (.slice (some ⟨g4, 0, none⟩) (n + 1 + hl) c4) (n + 1 + hl) (nums .i64 (knowns l ([y.ok, y.rc.ik] ++ kKeys y.rc.es))), Blk pf (.cells #[.bool dh, .bool kem] 69 (0, 0)), RowR 3 1 (.slice (some ⟨g3, 0, none⟩) hl c3) hl (nums .i64 ([y.ok, y.rc.ik] ++ kKeys y.rc.es)), RowR 55 3 (.slice (some ⟨g1, 0, none⟩) n c1) n (trC l)])) (fun q _ => n - (intOf q).toNat)
            case atStart => exact ⟨0, by omega, rfl, TW⟩
            case round =>
              clear TW
              obtain ⟨r, hr1, rfl, TW⟩ := hrel
              obtain ⟨w7, hw7⟩ : ∃ w7 : World, w7 = wr := ⟨_, rfl⟩
              rw [← hw7] at TW ⊢
              clear hw7 wr
              by_cases hlt : r < n
              · have hd1 : decide ((r : Int) < (n : Int)) = true := by simp; omega
                have hd1' : decide (r < n) = true := by simp; omega
                have z4 : IntKind.i64.wrap ((r : Int) + 1) = (r : Int) + 1 := IntWalk.i64_in _ (by have := NN.out; omega)
                have r0 : (0 : Int) ≤ (r : Int) := by omega
                have r1 : (r : Int) < (n : Int) := by omega
                obtain ⟨⟨eK, nK, cK⟩, hzK⟩ : ∃ u, l[r]? = some u := ⟨l[r]'(by rw [← HN.out]; exact hlt), List.getElem?_eq_getElem _⟩
                obtain ⟨yk, p0, hsea, hyk, hiff⟩ := can_text G.out AL.out N1.out SO.out OK.out hzK dh kem
                rw [HIE.out] at hiff
                have a2 := ((TW.out.pull 3 rfl).tr_cell hzK).2.2
                have ZK := hid hzK
                have HSEA := hid hsea
                have HYK := hid hyk
                have HIFF := hid hiff
                have HLT := hid hlt
                clear hlt hr1 hzK hsea hyk hiff
                go_wp2_with fail
                refine (get_sea HSEA.out TW.out).mono ?_
                rintro e w8 ⟨rfl, h1⟩
                clear TW a2
                obtain ⟨pt, hpt⟩ : ∃ p, w8.heap.size = p := ⟨_, rfl⟩
                have TW := hid ((h1.boxk (o := .cells #[.int .i64 10, .string ⟨#[]⟩, .int .u64 nK, .int .i64 yk, .int .i64 1, .int .i64 p0] 47 (0, 0)) pt hpt).turn)
                have hk := (TW.out.pull 2 rfl).blk
                have f0 := (cell_of_heap hk 0).trans (show _ = some (.bool dh) from rfl)
                have f1 := (cell_of_heap hk 1).trans (show _ = some (.bool kem) from rfl)
                clear hk
                have hk := (TW.out.pull 1 rfl).blk
                have t3 := (cell_of_heap hk 3).trans (show _ = some (.int .i64 yk) from rfl)
                clear hk
                clear h1
                go_wp2_with fail
                refine (can_two dh kem (some ⟨g4, 0, none⟩) c4 KI.out HYK.out TW.out).mono ?_
                rintro e w10 ⟨p, rfl, hp, h1⟩
                clear TW f0 f1 t3 hpt
                have TW := hid h1
                have HP := hid hp
                clear h1 hp
                go_wp2_with fail
                go_loopw [29, 30] (fun v q wr => ∃ (j2 kq : Nat) (kb : Bool), j2 ≤ (kKeys y.rc.es).length ∧ v = .bool kb ∧ q = .int .i64 kq ∧ Hid (kq = 2 + j2) ∧ Hid (kb = decide (yk ∈ (kKeys y.rc.es).take j2)) ∧ Hid (Two W wr b pa pb x y M 20000 [RowR 3 1 (.slice (some ⟨g4, 0, none⟩) (n + 1 + hl) c4) (n + 1 + hl) (nums .i64 (knowns l ([y.ok, y.rc.ik] ++ kKeys y.rc.es))), Blk pt (.cells #[.int .i64 10, .string ⟨#[]⟩, .int .u64 nK, .int .i64 yk, .int .i64 1, .int .i64 p0] 47 (0, 0)), Blk pf (.cells #[.bool dh, .bool kem] 69 (0, 0)), RowR 3 1 (.slice (some ⟨g3, 0, none⟩) hl c3) hl (nums .i64 ([y.ok, y.rc.ik] ++ kKeys y.rc.es)), RowR 55 3 (.slice (some ⟨g1, 0, none⟩) n c1) n (trC l)])) (fun _ q _ => hl - (intOf q).toNat)
                case atStart => exact ⟨0, 2, false, by omega, rfl, rfl, hid rfl, hid (by simp), TW⟩
                case round =>
                  clear TW
                  obtain ⟨j2, kq, kb, hj2, rfl, rfl, HQ, HKB, TW⟩ := hrel
                  obtain ⟨w11, hw11⟩ : ∃ w11 : World, w11 = wr := ⟨_, rfl⟩
                  rw [← hw11] at TW ⊢
                  clear hw11 wr
                  by_cases hlt2 : kq < hl
                  · have hd2 : decide ((kq : Int) < (hl : Int)) = true := by simp; omega
                    have hd2' : decide (kq < hl) = true := by simp; omega
                    have z5 : IntKind.i64.wrap ((kq : Int) + 1) = (kq : Int) + 1 := IntWalk.i64_in _ (by have := HL8.out; omega)
                    have q0 : (0 : Int) ≤ (kq : Int) := by omega
                    have q1 : (kq : Int) < (hl : Int) := by omega
                    have hj3 : j2 < (kKeys y.rc.es).length := by have := HL.out; have := HQ.out; omega
                    obtain ⟨u, hu⟩ : ∃ u, (kKeys y.rc.es)[j2]? = some u := ⟨(kKeys y.rc.es)[j2], List.getElem?_eq_getElem hj3⟩
                    have hu2 : ([y.ok, y.rc.ik] ++ kKeys y.rc.es)[kq]? = some u := by
                      rw [HQ.out, List.getElem?_append_right (by simp)]
                      simpa using hu
                    have c0 : ∀ z : Later w11, z.w.cell? ⟨g3, kq, none⟩ = some (.int .i64 u) := fun z => z.cell ((TW.out.pull 3 rfl).num_at hu2).1
                    have hk := (TW.out.pull 1 rfl).blk
                    have t3 : ∀ z : Later w11, z.w.cell? ⟨pt, 3, none⟩ = some (.int .i64 yk) := fun z => z.cell ((cell_of_heap hk 3).trans rfl)
                    have hnext : decide (yk ∈ (kKeys y.rc.es).take (j2 + 1)) = (kb || (u == yk)) := by
                      rw [HKB.out, List.take_add_one, hu]
                      by_cases h1 : yk ∈ (kKeys y.rc.es).take j2
                      · simp [h1]
                      · have h2 := beq_dec u yk
                        simp [h1, h2]
                    have HNX := hid hnext
                    have HLT2 := hid hlt2
                    have HJ3 := hid hj3
                    clear hk hlt2 hj2 hj3 hu hu2 hnext
                    cases kb
                    · by_cases hu : u = yk
                      · have e1 : (u == yk) = true := by simpa using hu
                        clear hu
                        go_wp2_with fail
                        refine wp_region_calm (by kernel_rfl) (by kernel_rfl) ?_
                        repeat (go_big_quiet_step (fail))
                        refine wpQuiet_nil ?_
                        intro wc hwc
                        obtain ⟨⟨wc, hbc⟩, rfl⟩ := hwc
                        replace TW := hid (TW.out.still hbc)
                        clear c0 t3 hbc
                        go_wp2_with fail
                        go_roundw
                        case rel => exact ⟨j2 + 1, kq + 1, true, by have := HJ3.out; omega, rfl, by go_num, hid (by have := HQ.out; omega), hid (by rw [HNX.out, e1]; rfl), TW⟩
                        case measure => have := HLT2.out; simp [intOf]; omega
                      · have e1 : (u == yk) = false := by simpa using hu
                        clear hu
                        go_wp2_with fail
                        refine wp_region_calm (by kernel_rfl) (by kernel_rfl) ?_
                        repeat (go_big_quiet_step (fail))
                        refine wpQuiet_nil ?_
                        intro wc hwc
                        obtain ⟨⟨wc, hbc⟩, rfl⟩ := hwc
                        replace TW := hid (TW.out.still hbc)
                        clear c0 t3 hbc
                        go_wp2_with fail
                        go_roundw
                        case rel => exact ⟨j2 + 1, kq + 1, false, by have := HJ3.out; omega, rfl, by go_num, hid (by have := HQ.out; omega), hid (by rw [HNX.out, e1]; rfl), TW⟩
                        case measure => have := HLT2.out; simp [intOf]; omega
                    · go_wp2_with fail
                      refine wp_region_calm (by kernel_rfl) (by kernel_rfl) ?_
                      repeat (go_big_quiet_step (fail))
                      refine wpQuiet_nil ?_
                      intro wc hwc
                      obtain ⟨⟨wc, hbc⟩, rfl⟩ := hwc
                      replace TW := hid (TW.out.still hbc)
                      clear c0 t3 hbc
                      go_wp2_with fail
                      go_roundw
                      case rel => exact ⟨j2 + 1, kq + 1, true, by have := HJ3.out; omega, rfl, by go_num, hid (by have := HQ.out; omega), hid (by rw [HNX.out]; rfl), TW⟩
                      case measure => have := HLT2.out; simp [intOf]; omega
                  · have hd2 : decide ((kq : Int) < (hl : Int)) = false := by simp; omega
                    have hd2' : decide (kq < hl) = false := by simp; omega
                    have hkb : kb = decide (yk ∈ kKeys y.rc.es) := by
                      have h1 := HKB.out
                      rw [List.take_of_length_le (by have := HL.out; have := HQ.out; omega)] at h1
                      exact h1
                    have a0 := ((TW.out.pull 4 rfl).tr_cell ZK.out).1
                    by_cases hge : ie ≤ eK
                    · have e2 : decide (ie ≤ eK) = true := by simpa using hge
                      have hpt : p = true := HP.out.2 (HIFF.out.2 (.inl hge))
                      subst hpt
                      clear hge hlt2 hj2 hkb
                      go_wp2_with fail
                      go_roundw
                      case rel => exact ⟨r + 1, by have := HLT.out; omega, by go_num, hid TW.out.turn.dropR⟩
                      case measure => have := HLT.out; simp [intOf]; omega
                    · have e2 : decide (ie ≤ eK) = false := by simpa using hge
                      have hpk : p = kb := by
                        rw [hkb]
                        by_cases h1 : yk ∈ kKeys y.rc.es
                        · rw [decide_eq_true h1]; exact HP.out.2 (HIFF.out.2 (.inr h1))
                        · rw [decide_eq_false h1]
                          cases p with
                          | false => rfl
                          | true => exact absurd (HIFF.out.1 (HP.out.1 rfl)) (by rintro (h2 | h2); exact hge h2; exact h1 h2)
                      subst hpk
                      clear hge hlt2 hj2 hkb
                      cases p
                      · go_wp2_with fail
                        go_roundw
                        case rel => exact ⟨r + 1, by have := HLT.out; omega, by go_num, hid TW.out.turn.dropR⟩
                        case measure => have := HLT.out; simp [intOf]; omega
                      · go_wp2_with fail
                        go_roundw
                        case rel => exact ⟨r + 1, by have := HLT.out; omega, by go_num, hid TW.out.turn.dropR⟩
                        case measure => have := HLT.out; simp [intOf]; omega
              · have hd1 : decide ((r : Int) < (n : Int)) = false := by simp; omega
                have hd1' : decide (r < n) = false := by simp; omega
                have hk := (TW.out.pull 1 rfl).blk
                have f0 := (cell_of_heap hk 0).trans (show _ = some (.bool dh) from rfl)
                have f1 := (cell_of_heap hk 1).trans (show _ = some (.bool kem) from rfl)
                clear hk hlt hr1
                go_wp2_with fail
                refine (can_two dh kem (some ⟨g4, 0, none⟩) c4 KI.out (show 1 ≤ (2 : Int) ∧ (2 : Int) ≤ M.length from ⟨by decide, by have := G.out.le; omega⟩) TW.out).mono ?_
                rintro e w8 ⟨p, rfl, hp, h1⟩
                clear TW f0 f1
                have TW := hid h1
                rw [can_first G.out AL.out N1.out SO.out OK.out, HIE.out] at hp
                clear h1
                by_cases h0 : ie = 0
                · have e2 : (ie == 0) = true := by simpa using h0
                  have hpt : p = true := hp.2 h0
                  subst hpt
                  clear hp h0
                  go_wp2_with fail
                  refine (fixed19_calls _).mono ?_
                  rintro e w9 ⟨rfl, h1⟩
                  have T2 := hid (TW.out.below.trans (h1.mono TW.out.below.size))
                  clear h1
                  go_wp2_with fail
                  go_ret
                  exact ⟨rfl, T2.out⟩
                · have e2 : (ie == 0) = false := by simpa using h0
                  have hpt : p = false := by
                    cases p with
                    | false => rfl
                    | true => exact absurd (hp.1 rfl) h0
                  subst hpt
                  clear hp h0
                  go_wp2_with fail
                  refine (fixed19_calls _).mono ?_
                  rintro e w9 ⟨rfl, h1⟩
                  have T2 := hid (TW.out.below.trans (h1.mono TW.out.below.size))
                  clear h1
                  go_wp2_with fail
                  go_ret
                  exact ⟨rfl, T2.out⟩
theorem sessForward_walk (ad : Option Addr) (len cap : Nat) (zs : List Int) (ad2 : Option Addr) (len2 cap2 : Nat) (zs2 : List Int) (x2 : Int) (_b2 : 0 ≤ x2) (_b2' : x2 ≤ 255) (W : World) (hlen : len = zs.length) (hmax : len ≤ maxLen) (hzs : NumsIn .u8 W ad zs) (hlen2 : len2 = zs2.length) (hmax2 : len2 ≤ maxLen) (hzs2 : NumsIn .u8 W ad2 zs2) :
    Calls Try.prog 16 #[.slice ad len cap, .slice ad2 len2 cap2, .int .u8 x2] W fun e w' => e = .returned (.bool true) ∧ Below W.heap.size W w' :=
  (Nat.lt_or_ge 20 len).symm.elim (fun h => sessForward_walkA ad len cap zs ad2 len2 cap2 zs2 x2 _b2 _b2' W hlen hmax hzs hlen2 hmax2 hzs2 h) (fun h => sessForward_walkB ad len cap zs ad2 len2 cap2 zs2 x2 _b2 _b2' W hlen hmax hzs hlen2 hmax2 hzs2 h)
end Go.Proofs.Ytpcfmafokkffgaa
