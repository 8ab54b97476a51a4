/-
  A walk through the statement SessOnce. For every script and every order.
-/
import Derived.Test.YtpcfmafokkffgaaZ12
namespace Go.Proofs.Ytpcfmafokkffgaa
open Go.RowKit

/-- How often each came: not more than once, and what came is shut. -/
def CameOk (r : Rc) (l : List Tr) (cs : List Int) : Prop := cs.length = l.length ∧ ∀ (k : Nat) (z : Tr) (c : Int), l[k]? = some z → cs[k]? = some c → c = 0 ∨ (c = 1 ∧ Shut r z.1 z.2.1)
theorem CameOk.start {r : Rc} {l : List Tr} {n : Nat} (hn : n = l.length) : CameOk r l (List.replicate n 0) := ⟨by simp [hn], fun k z c _ h2 => by
  have := List.mem_of_getElem? h2
  exact .inl (List.eq_of_mem_replicate this)⟩
theorem CameOk.later {r r' : Rc} {L : List T} {l : List Tr} {cs : List Int} (h : CameOk r l cs) (so : SentOk L l) (hs : ∀ e n, 0 ≤ n → Shut r e n → Shut r' e n) : CameOk r' l cs := ⟨h.1, fun k z c h1 h2 => by
  rcases h.2 k z c h1 h2 with h3 | ⟨h3, h4⟩
  · exact .inl h3
  · exact .inr ⟨h3, hs _ _ (so k z h1).2.1.1 h4⟩⟩
theorem CameOk.new {r : Rc} {l : List Tr} {cs : List Int} {k : Nat} {z : Tr} {c : Int} (h : CameOk r l cs) (h1 : l[k]? = some z) (h2 : cs[k]? = some c) (hs : ¬ Shut r z.1 z.2.1) : c = 0 := by
  rcases h.2 k z c h1 h2 with h3 | ⟨_, h4⟩
  · exact h3
  · exact absurd h4 hs
theorem CameOk.set {r : Rc} {l : List Tr} {cs : List Int} {k : Nat} {z : Tr} (h : CameOk r l cs) (h1 : l[k]? = some z) (hs : Shut r z.1 z.2.1) : CameOk r l (cs.set k 1) := ⟨by simp [h.1], fun j y c h2 h3 => by
  by_cases e : k = j
  · subst e
    rw [h1] at h2
    cases h2
    rw [List.getElem?_set_self (by have := (List.getElem?_eq_some_iff.1 h1).1; have := h.1; omega)] at h3
    cases h3
    exact .inr ⟨rfl, hs⟩
  · rw [List.getElem?_set_ne e] at h3
    exact h.2 j y c h2 h3⟩
theorem CameOk.le {r : Rc} {l : List Tr} {cs : List Int} {k : Nat} {c : Int} (h : CameOk r l cs) (h2 : cs[k]? = some c) : c ≤ 1 := by
  have hk := (List.getElem?_eq_some_iff.1 h2).1
  have := h.1
  rcases h.2 k (l[k]'(by omega)) c (List.getElem?_eq_getElem _) h2 with h3 | ⟨h3, _⟩ <;> omega

set_option maxRecDepth 100000 in
set_option maxHeartbeats 32000000 in
theorem sessOnce_walkA (ad : Option Addr) (len cap : Nat) (zs : List Int) (ad2 : Option Addr) (len2 cap2 : Nat) (zs2 : List Int) (W : World) (hlen : len = zs.length) (hmax : len ≤ maxLen) (hzs : NumsIn .u8 W ad zs) (hlen2 : len2 = zs2.length) (hmax2 : len2 ≤ maxLen) (hzs2 : NumsIn .u8 W ad2 zs2) (hl30 : len ≤ 30) :
    Calls Try.prog 10 #[.slice ad len cap, .slice ad2 len2 cap2] W fun e w' => e = .returned (.bool true) ∧ Below W.heap.size W w' := by
  have Hlen := hid hlen
  have Hzs := hid hzs
  have hm : len ≤ 9223372036854775807 := by unfold maxLen at hmax; exact hmax
  have Hlen2 := hid hlen2
  have Hzs2 := hid hzs2
  have hm2 : len2 ≤ 9223372036854775807 := by unfold maxLen at hmax2; exact hmax2
  obtain ⟨i0, hi0, hz0, hs0, hy0⟩ := info_int
  clear hlen hmax hzs hlen2 hmax2 hzs2
  go_enter Try.func10, Try.ntmps10
  go_wp2_with fail
  refine (pair_two (W := W)).mono ?_
  rintro e w1 ⟨b, pa, pb, rfl, h1⟩
  have TW := hid h1
  have G := hid (good2_start h1.good)
  clear h1
  go_wp2_with fail
  have TW2 := hid ((TW.out.row (E := 55) w1.heap.size rfl 3).row (E := 3) (w1.heap.size + 1) (by simp) 1).turn
  clear TW
  go_loopw [8, 9, 10] (fun vs vc q wr => ∃ (i g1 c1 g2 c2 n : Nat) (l : List Tr) (x : Se) (L : List T), i ≤ 30 ∧ i ≤ len ∧ vs = .slice (some ⟨g1, 0, none⟩) n c1 ∧ vc = .slice (some ⟨g2, 0, none⟩) n c2 ∧ q = .int .i64 i ∧ Hid (Two W wr b pa pb x (se0 1 3 2 1) L 20000 [RowR 55 3 (.slice (some ⟨g1, 0, none⟩) n c1) n (trC l), RowR 3 1 (.slice (some ⟨g2, 0, none⟩) n c2) n (nums .i64 (List.replicate n 0))]) ∧ Hid (Good2 L x (se0 1 3 2 1)) ∧ Hid (SentOk L l) ∧ Hid (n = l.length) ∧ Hid (x.oe ≤ i ∧ x.sent ≤ i ∧ L.length ≤ 3 + 3 * i ∧ n ≤ i)) (fun _ _ q _ => 30 - (intOf q).toNat)
  case atStart => exact ⟨0, _, _, _, _, 0, [], _, _, by omega, by omega, rfl, rfl, rfl, TW2, G, hid (SentOk.nil _), hid rfl, hid ⟨by decide, by decide, by decide, by decide⟩⟩
  case round =>
    clear TW2 G
    obtain ⟨i, g1, c1, g2, c2, n, l, x, L, hi, hil, rfl, rfl, rfl, TW, G, SO, HN, S⟩ := hrel
    obtain ⟨wl, hwl⟩ : ∃ wl : World, wl = wr := ⟨_, rfl⟩
    rw [← hwl] at TW ⊢
    clear hwl wr
    by_cases hlt : i < len ∧ i < 30
    · have hd1 : decide ((i : Int) < (len : Int)) = true := by simp; omega
      have hd1' : decide (i < len) = true := by simp; omega
      have hd2 : decide ((i : Int) < 30) = true := by simp; omega
      have z4 : IntKind.i64.wrap ((i : Int) + 1) = (i : Int) + 1 := IntWalk.i64_in _ (by omega)
      obtain ⟨z, hz⟩ : ∃ z, zs[i]? = some z := ⟨zs[i]'(by rw [← Hlen.out]; exact hlt.1), List.getElem?_eq_getElem _⟩
      obtain ⟨z0, z1, gg, oo, rfl, hc0⟩ := (Hzs.out.later TW.out.below) i z hz
      have z0' : 0 ≤ z := by simpa [IntKind.min, IntKind.signed] using z0
      have z1' : z ≤ 255 := by simpa [IntKind.max, IntKind.signed, IntKind.bits] using z1
      have zj0 : (0 : Int) ≤ (i : Int) := by omega
      have zj1 : (i : Int) < (len : Int) := by omega
      obtain ⟨r, hr1⟩ : ∃ r, z.tmod 4 = r := ⟨_, rfl⟩
      have hr2 : 0 ≤ r ∧ r ≤ 3 := by rw [← hr1, Int.tmod_eq_emod_of_nonneg z0']; omega
      have y1 : IntKind.u8.wrap r = r := IntWalk.u8_in _ (by omega)
      have HLT := hid hlt
      clear hlt hi hil hz z0 z1
      by_cases he : r = 0
      · have e1 : (r == 0) = true := by simpa using he
        clear he hr2
        go_wp2_with fail
        refine (step_g (by have := S.out.1; have := HLT.out; omega) (by have := S.out.2.2.1; have := HLT.out; omega) G.out TW.out).mono ?_
        rintro e w2 ⟨kk, L', rfl, h1, h2, h3, h4⟩
        clear TW G
        have TW := hid h1
        have G := hid h2
        have SO2 := hid (SO.out.ext h3)
        have N5 := hid h4
        clear h1 h2 h3 h4 SO
        go_wp2_with fail
        go_roundw
        case rel => exact ⟨i + 1, g1, c1, g2, c2, n, l, _, L', (by have := HLT.out; omega), (by have := HLT.out; omega), rfl, rfl, by go_num, TW, G, SO2, HN, hid ⟨by have := S.out.1; dsimp only; omega, by dsimp only; omega, by have := S.out.2.2.1; have := N5.out; omega, by have := S.out.2.2.2; omega⟩⟩
        case measure => have := HLT.out; simp [intOf]; omega
      · have e1 : (r == 0) = false := by simpa using he
        have y2 : IntKind.u8.wrap (n : Int) = n := IntWalk.u8_in _ (by have := S.out.2.2.2; have := HLT.out; omega)
        clear he hr2
        obtain ⟨wp, hwp⟩ : ∃ wp, wl.heap.size = wp := ⟨_, rfl⟩
        have cs := str_one (w := wl) n hwp
        go_wp2_with fail
        refine (seal_g (s := ⟨#[UInt8.ofNat n]⟩) (show (1 : Nat) ≤ 1000 by decide) (by have := S.out.2.1; have := HLT.out; omega) (by have := S.out.2.2.1; have := HLT.out; omega) G.out (TW.out.still ((Below.refl _ _).alloc (Nat.le_refl _) _))).mono ?_
        obtain ⟨e0, he0⟩ : ∃ e, x.oe = e := ⟨_, rfl⟩
        obtain ⟨n0, hn0⟩ : ∃ n, x.sent = n := ⟨_, rfl⟩
        rw [he0, hn0]
        rintro e w2 ⟨c, L', rfl, h1, h2, h3, h4, h5⟩
        clear TW
        have TW := hid h1
        have G2 := hid h2
        have SO2 : Hid (SentOk L' (l ++ [(e0, n0, c)])) := hid ((SO.out.ext h4).snoc (by rw [← HN.out]; exact h3) ⟨by rw [← hn0]; exact G.out.xo.s0, by have := S.out.2.1; have := HLT.out; dsimp only; omega⟩ (by have := S.out.1; have := HLT.out; dsimp only; omega))
        have N5 := hid h5
        have HE0 := hid he0
        have HN0 := hid hn0
        clear h1 h2 h3 h4 h5 SO G cs hwp he0 hn0
        obtain ⟨Ss, hA, hB⟩ := TW.out.first
        have HA := hid hA
        have HB := hid hB
        clear hA hB TW
        go_wp2_with (at_builtin; refine append_tr (l := l) (e0, n0, c) rfl (.tmp 67) (.tmp 72) rfl rfl HA.out (by rfl) (by rfl) (by have := S.out.2.2.2; have := HLT.out; omega) ?_; intro g3 c3 w3 h3; have TW3 := hid ((HB.out _ _ h3).turn); clear h3 HA HB; obtain ⟨Ss2, hA, hB⟩ := TW3.out.first; have HA := hid hA; have HB := hid hB; clear hA hB TW3; go_wp2_with (at_builtin; refine append_num (k := .i64) (zs := List.replicate n 0) Try.underlying33 hi0 hz0 hs0 hy0 (by decide) rfl (.tmp 74) (.tmp 75) rfl HA.out (by rfl) 0 (by rfl) (by have := S.out.2.2.2; have := HLT.out; omega) ?_; intro g4 c4 w4 h4; have TW4 := hid ((HB.out _ _ h4).turn); clear h4 HA HB))
        go_roundw
        case rel => exact ⟨i + 1, g3, c3, g4, c4, n + 1, l ++ [(e0, n0, c)], _, L', (by have := HLT.out; omega), (by have := HLT.out; omega), by first | rfl | trivial, by first | rfl | trivial, by go_num, hid (by rw [List.replicate_succ']; exact TW4.out), G2, SO2, hid (by rw [List.length_append, ← HN.out]; rfl), hid ⟨by have := S.out.1; have := HE0.out; dsimp only; omega, by have := S.out.2.1; have := HN0.out; dsimp only; omega, by have := S.out.2.2.1; have := N5.out; omega, by have := S.out.2.2.2; omega⟩⟩
        case measure => have := HLT.out; simp [intOf]; omega
    · have hd1 : decide ((i : Int) < (len : Int)) = false := by simp; omega
      have hd1' : decide (i < len) = false := by simp; omega
      have NL : Hid (L.length ≤ 93) := hid (by have := S.out.2.2.1; omega)
      have NN : Hid (n ≤ 30) := hid (by have := S.out.2.2.2; omega)
      clear hlt hi hil S hi0 hz0 hs0 hy0 i0 hl30
      go_wp2_with fail
      clear hd1 hd1'
      try clear hd2
      go_loopw [15] (fun q wr => ∃ (j : Nat) (cs : List Int) (y : Se) (M : List T), j ≤ 60 ∧ j ≤ len2 ∧ q = .int .i64 j ∧ Hid (Two W wr b pa pb x y M 20000 [RowR 55 3 (.slice (some ⟨g1, 0, none⟩) n c1) n (trC l), RowR 3 1 (.slice (some ⟨g2, 0, none⟩) n c2) n (nums .i64 cs)]) ∧ Hid (Good2 M x y) ∧ Hid (SentOk M l) ∧ Hid (CameOk y.rc l cs) ∧ Hid (M.length ≤ 93 + 27 * j)) (fun q _ => 60 - (intOf q).toNat)
      case atStart => exact ⟨0, List.replicate n 0, _, _, by omega, by omega, rfl, TW, G, SO, hid (CameOk.start HN.out), hid (by have := NL.out; omega)⟩
      case round =>
        clear TW G SO NL
        obtain ⟨j, cs, y, M, hj, hjl, rfl, TW, G, SO, CO, NM⟩ := hrel
        obtain ⟨wl, hwl⟩ : ∃ wl : World, wl = wr := ⟨_, rfl⟩
        rw [← hwl] at TW ⊢
        clear hwl wr
        by_cases hlt : j < len2 ∧ j < 60 ∧ 0 < n
        · have hd1 : decide ((j : Int) < (len2 : Int)) = true := by simp; omega
          have hd1' : decide (j < len2) = true := by simp; omega
          have hd2 : decide ((j : Int) < 60) = true := by simp; omega
          have hd3 : decide ((0 : Int) < (n : Int)) = true := by simp; omega
          have hd3' : decide (0 < n) = true := by simp; omega
          have z4 : IntKind.i64.wrap ((j : Int) + 1) = (j : Int) + 1 := IntWalk.i64_in _ (by omega)
          obtain ⟨z, hz⟩ : ∃ z, zs2[j]? = some z := ⟨zs2[j]'(by rw [← Hlen2.out]; exact hlt.1), List.getElem?_eq_getElem _⟩
          obtain ⟨z0, z1, gg, oo, rfl, hc0⟩ := (Hzs2.out.later TW.out.below) j z hz
          have z0' : 0 ≤ z := by simpa [IntKind.min, IntKind.signed] using z0
          have z1' : z ≤ 255 := by simpa [IntKind.max, IntKind.signed, IntKind.bits] using z1
          have zj0 : (0 : Int) ≤ (j : Int) := by omega
          have zj1 : (j : Int) < (len2 : Int) := by omega
          have n0 : ((n : Int) == 0) = false := by simp; omega
          have n0' : (n == 0) = false := by simp; omega
          have hkr := mod_range z (show (1 : Int) ≤ n by omega)
          obtain ⟨kk, hkk⟩ : ∃ kk : Nat, z.tmod n = kk := ⟨(z % n).toNat, by rw [Int.tmod_eq_emod_of_nonneg z0']; omega⟩
          have hkn : kk < n := by rw [Int.tmod_eq_emod_of_nonneg z0'] at hkk; omega
          have hmr := mod_range ((kk : Int) + j) (show (1 : Int) ≤ n by omega)
          obtain ⟨mm, hmm⟩ : ∃ mm : Nat, ((kk : Int) + j).tmod n = mm := ⟨(((kk : Int) + j) % n).toNat, by rw [Int.tmod_eq_emod_of_nonneg (by omega)]; omega⟩
          have hmn : mm < n := by rw [Int.tmod_eq_emod_of_nonneg (by omega)] at hmm; omega
          have v1 : IntKind.i64.wrap z = z := IntWalk.i64_in _ (by omega)
          have v2 : IntKind.i64.wrap (kk : Int) = kk := IntWalk.i64_in _ (by have := NN.out; omega)
          have v3 : IntKind.i64.wrap ((kk : Int) + j) = (kk : Int) + j := IntWalk.i64_in _ (by have := NN.out; omega)
          have v4 : IntKind.i64.wrap (mm : Int) = mm := IntWalk.i64_in _ (by have := NN.out; omega)
          have v5 : IntKind.u8.wrap (kk : Int) = kk := IntWalk.u8_in _ (by have := NN.out; omega)
          have k0 : (0 : Int) ≤ (kk : Int) := by omega
          have k1 : (kk : Int) < (n : Int) := by omega
          have m0 : (0 : Int) ≤ (mm : Int) := by omega
          have m1 : (mm : Int) < (n : Int) := by omega
          obtain ⟨⟨eK, nK, cK⟩, hzK⟩ : ∃ u, l[kk]? = some u := ⟨l[kk]'(by rw [← HN.out]; exact hkn), List.getElem?_eq_getElem _⟩
          obtain ⟨⟨eM, nM, cM⟩, hzM⟩ : ∃ u, l[mm]? = some u := ⟨l[mm]'(by rw [← HN.out]; exact hmn), List.getElem?_eq_getElem _⟩
          obtain ⟨cc, hcc⟩ : ∃ u, cs[kk]? = some u := ⟨cs[kk]'(by rw [CO.out.1, ← HN.out]; exact hkn), List.getElem?_eq_getElem _⟩
          have ZK := hid hzK
          have ZM := hid hzM
          have CC := hid hcc
          have HLT := hid hlt
          have HB := hid (show (0 ≤ nK ∧ nK < 256) ∧ eK ≤ 100 ∧ 0 ≤ eK from ⟨(SO.out kk _ hzK).2.1, (SO.out kk _ hzK).2.2, (SO.out kk _ hzK).1.1⟩)
          clear hlt hj hjl hz z0 z1 hkr hkn hmr hmn hzK hzM hcc
          have a0 : ∀ x : Later wl, x.w.cell? ⟨g1, kk * 3, none⟩ = some (.int .i64 eK) := fun x => x.cell (TW.out.tr_cell ZK.out).1
          have a1 : ∀ x : Later wl, x.w.cell? ⟨g1, kk * 3 + 1, none⟩ = some (.int .i64 nK) := fun x => x.cell (TW.out.tr_cell ZK.out).2.1
          have a2 : ∀ x : Later wl, x.w.cell? ⟨g1, kk * 3 + 2, none⟩ = some (.int .i64 cK) := fun x => x.cell (TW.out.tr_cell ZK.out).2.2
          have b0 : ∀ x : Later wl, x.w.cell? ⟨g1, mm * 3, none⟩ = some (.int .i64 eM) := fun x => x.cell (TW.out.tr_cell ZM.out).1
          have b1 : ∀ x : Later wl, x.w.cell? ⟨g1, mm * 3 + 1, none⟩ = some (.int .i64 nM) := fun x => x.cell (TW.out.tr_cell ZM.out).2.1
          have b2 : ∀ x : Later wl, x.w.cell? ⟨g1, mm * 3 + 2, none⟩ = some (.int .i64 cM) := fun x => x.cell (TW.out.tr_cell ZM.out).2.2
          go_wp2_with fail
          refine wp_region_turn (C := fun w' => ∃ x : Later wl, w' = x.w) 16 _ (by kernel_rfl) (by kernel_rfl) rfl rfl ⟨⟨_, (Below.refl _ _).drew⟩, rfl⟩ ?_
          simp only [List.take_succ_cons, List.take_zero, List.drop_succ_cons, List.drop_zero]
          repeat (go_big_quiet_step (fail))
          refine wpQuiet_nil ?_
          intro wt hwt KK hKK
          have HK := hid hKK
          clear hKK
          obtain ⟨⟨wt, hbt⟩, rfl⟩ := hwt
          have TWt := hid (TW.out.still hbt)
          clear hbt TW a0 a1 a2 b0 b1 b2
          go_wp2_with fail
          refine (open_g (e := eK) (n := nK) (c := cK) (by have := HB.out; omega) (by have := HB.out; omega) (by have := HB.out; omega) (by have := HB.out; omega) G.out TWt.out).mono ?_
          rintro e w3 ⟨t, er, y3, M3, hop, rfl, h1, h2, h3, h4, h5, h6⟩
          clear TWt
          have TW := hid h1
          replace G := hid h2
          replace SO := hid (SO.out.ext h3.1)
          replace NM := hid (show M3.length ≤ 102 + 27 * j by have := h3.2.2; have := NM.out; omega)
          have H6 := hid h6
          have H4 := hid h4
          clear h1 h2 h3 h4 h6 hop hc0
          go_wp2_with fail
          refine HK.out _ _ ⟨fun w' => w' = w3, rfl, ?_⟩
          clear HK
          repeat (go_big_quiet_step (fail))
          refine wpQuiet_nil ?_
          rintro w3 rfl
          by_cases her : er = 0
          · have e1 : (er == 0) = true := by simpa using her
            obtain ⟨o1, o2, o3⟩ := H4.out her
            have ht : t = ⟨#[UInt8.ofNat kk]⟩ := (o1.inj G.out.nc G.out.nc (SO.out kk _ ZK.out).1).2.2.2.2
            have hc1 : cc = 0 := CO.out.new ZK.out CC.out o2
            subst ht
            subst hc1
            replace CO := hid ((CO.out.later SO.out H6.out).set ZK.out o3)
            clear o1 o2 o3 H4 H6 her h5
            obtain ⟨s1, s2, s3⟩ := TW.out.turn.num_at CC.out
            have v6 : IntKind.i64.wrap ((0 : Int) + 1) = 1 := by decide
            have cvt := str_one (w := w3.setCell ⟨g2, kk, none⟩ (.int .i64 1)) (k := w3.heap.size) kk (by simp)
            have TW2 := hid (TW.out.turn.num_set (k := kk) 1).turn
            go_wp2_with fail
            obtain ⟨w4, hw4⟩ : ∃ w4, (w3.setCell ⟨g2, kk, none⟩ (.int .i64 1)).alloc (.cells #[.int .u8 kk] 5 (0, 0)) = w4 := ⟨_, rfl⟩
            clear TW
            have TW : Hid (Two W w4 b pa pb x y3 M3 20000 [RowR 55 3 (.slice (some ⟨g1, 0, none⟩) n c1) n (trC l), RowR 3 1 (.slice (some ⟨g2, 0, none⟩) n c2) n (nums .i64 (cs.set kk 1))]) := hid (by rw [← hw4]; exact TW2.out.still ((Below.refl _ _).alloc (Nat.le_refl _) _))
            rw [hw4]
            clear TW2 hw4 cvt s1 s2 s3
            have a0 : ∀ x : Later w4, x.w.cell? ⟨g1, kk * 3, none⟩ = some (.int .i64 eK) := fun x => x.cell (TW.out.tr_cell ZK.out).1
            have a1 : ∀ x : Later w4, x.w.cell? ⟨g1, kk * 3 + 1, none⟩ = some (.int .i64 nK) := fun x => x.cell (TW.out.tr_cell ZK.out).2.1
            have a2 : ∀ x : Later w4, x.w.cell? ⟨g1, kk * 3 + 2, none⟩ = some (.int .i64 cK) := fun x => x.cell (TW.out.tr_cell ZK.out).2.2
            have b0 : ∀ x : Later w4, x.w.cell? ⟨g1, mm * 3, none⟩ = some (.int .i64 eM) := fun x => x.cell (TW.out.tr_cell ZM.out).1
            have b1 : ∀ x : Later w4, x.w.cell? ⟨g1, mm * 3 + 1, none⟩ = some (.int .i64 nM) := fun x => x.cell (TW.out.tr_cell ZM.out).2.1
            have b2 : ∀ x : Later w4, x.w.cell? ⟨g1, mm * 3 + 2, none⟩ = some (.int .i64 cM) := fun x => x.cell (TW.out.tr_cell ZM.out).2.2
            by_cases f1 : eM = eK
            · have d1 : (eM != eK) = false := by simpa using f1
              by_cases f2 : nM = nK
              · have d2 : (nM != nK) = false := by simpa using f2
                clear f1 f2
                go_wp2_with fail
                refine wp_region_calm (by kernel_rfl) (by kernel_rfl) ?_
                repeat (go_big_quiet_step (fail))
                refine wpQuiet_nil ?_
                intro wc hwc
                obtain ⟨⟨wc, hbc⟩, rfl⟩ := hwc
                replace TW := hid (TW.out.still hbc)
                clear a0 a1 a2 b0 b1 b2 hbc
                go_wp2_with fail
                go_roundw
                case rel => exact ⟨j + 1, _, _, M3, (by have := HLT.out; omega), (by have := HLT.out; omega), by go_num, TW, G, SO, CO, hid (by have := NM.out; omega)⟩
                case measure => have := HLT.out; simp [intOf]; omega
              · have d2 : (nM != nK) = true := by simpa using f2
                have DF : Hid (¬ (eM = eK ∧ nM = nK)) := hid fun h => f2 h.2
                clear f1 f2
                go_wp2_with fail
                refine wp_region_calm (by kernel_rfl) (by kernel_rfl) ?_
                repeat (go_big_quiet_step (fail))
                refine wpQuiet_nil ?_
                intro wc hwc
                obtain ⟨⟨wc, hbc⟩, rfl⟩ := hwc
                replace TW := hid (TW.out.still hbc)
                clear a0 a1 a2 b0 b1 b2 hbc
                have a0 : ∀ x : Later wc, x.w.cell? ⟨g1, kk * 3, none⟩ = some (.int .i64 eK) := fun x => x.cell (TW.out.tr_cell ZK.out).1
                have a1 : ∀ x : Later wc, x.w.cell? ⟨g1, kk * 3 + 1, none⟩ = some (.int .i64 nK) := fun x => x.cell (TW.out.tr_cell ZK.out).2.1
                have a2 : ∀ x : Later wc, x.w.cell? ⟨g1, kk * 3 + 2, none⟩ = some (.int .i64 cK) := fun x => x.cell (TW.out.tr_cell ZK.out).2.2
                have b0 : ∀ x : Later wc, x.w.cell? ⟨g1, mm * 3, none⟩ = some (.int .i64 eM) := fun x => x.cell (TW.out.tr_cell ZM.out).1
                have b1 : ∀ x : Later wc, x.w.cell? ⟨g1, mm * 3 + 1, none⟩ = some (.int .i64 nM) := fun x => x.cell (TW.out.tr_cell ZM.out).2.1
                have b2 : ∀ x : Later wc, x.w.cell? ⟨g1, mm * 3 + 2, none⟩ = some (.int .i64 cM) := fun x => x.cell (TW.out.tr_cell ZM.out).2.2
                go_wp2_with fail
                refine wp_region_turn (C := fun w' => ∃ x : Later wc, w' = x.w) 16 _ (by kernel_rfl) (by kernel_rfl) rfl rfl ⟨⟨_, (Below.refl _ _).drew⟩, rfl⟩ ?_
                simp only [List.take_succ_cons, List.take_zero, List.drop_succ_cons, List.drop_zero]
                repeat (go_big_quiet_step (fail))
                refine wpQuiet_nil ?_
                intro wt hwt KK hKK
                have HK := hid hKK
                clear hKK
                obtain ⟨⟨wt, hbt⟩, rfl⟩ := hwt
                have TWt := hid (TW.out.still hbt)
                clear hbt TW a0 a1 a2 b0 b1 b2
                go_wp2_with fail
                refine (open_g (e := eK) (n := nK) (c := cM) (by have := HB.out; omega) (by have := HB.out; omega) (by have := HB.out; omega) (by have := HB.out; omega) G.out TWt.out).mono ?_
                rintro e w5 ⟨t5, er5, y5, M5, hop5, rfl, h1, h2, h3, h4, h5, h6⟩
                have hne5 : er5 ≠ 0 := by
                  have := open_no (m := 20000) (e := eK) (n := nK) G.out.g G.out.nc G.out.nc G.out.yo G.out.yr (SO.out mm _ ZM.out).1 (fun h => DF.out ⟨h.2.2.1, h.2.2.2⟩)
                  rw [hop5] at this
                  exact this
                have hy5 := h5 hne5
                subst hy5
                have e5 : (er5 == 0) = false := by simpa using hne5
                clear TWt
                have TW := hid h1
                replace G := hid h2
                replace SO := hid (SO.out.ext h3.1)
                replace NM := hid (show M5.length ≤ 111 + 27 * j by have := h3.2.2; have := NM.out; omega)
                clear h1 h2 h3 h4 h5 h6 hop5 hne5
                go_wp2_with fail
                refine HK.out _ _ ⟨fun w' => w' = w5, rfl, ?_⟩
                clear HK
                repeat (go_big_quiet_step (fail))
                refine wpQuiet_nil ?_
                rintro w5 rfl
                have a0 : ∀ x : Later w5, x.w.cell? ⟨g1, kk * 3, none⟩ = some (.int .i64 eK) := fun x => x.cell (TW.out.tr_cell ZK.out).1
                have a1 : ∀ x : Later w5, x.w.cell? ⟨g1, kk * 3 + 1, none⟩ = some (.int .i64 nK) := fun x => x.cell (TW.out.tr_cell ZK.out).2.1
                have a2 : ∀ x : Later w5, x.w.cell? ⟨g1, kk * 3 + 2, none⟩ = some (.int .i64 cK) := fun x => x.cell (TW.out.tr_cell ZK.out).2.2
                have b0 : ∀ x : Later w5, x.w.cell? ⟨g1, mm * 3, none⟩ = some (.int .i64 eM) := fun x => x.cell (TW.out.tr_cell ZM.out).1
                have b1 : ∀ x : Later w5, x.w.cell? ⟨g1, mm * 3 + 1, none⟩ = some (.int .i64 nM) := fun x => x.cell (TW.out.tr_cell ZM.out).2.1
                have b2 : ∀ x : Later w5, x.w.cell? ⟨g1, mm * 3 + 2, none⟩ = some (.int .i64 cM) := fun x => x.cell (TW.out.tr_cell ZM.out).2.2
                go_wp2_with fail
                refine wp_region_turn (C := fun w' => ∃ x : Later w5, w' = x.w) 16 _ (by kernel_rfl) (by kernel_rfl) rfl rfl ⟨⟨_, (Below.refl _ _).drew⟩, rfl⟩ ?_
                simp only [List.take_succ_cons, List.take_zero, List.drop_succ_cons, List.drop_zero]
                repeat (go_big_quiet_step (fail))
                refine wpQuiet_nil ?_
                intro wt hwt KK hKK
                have HK := hid hKK
                clear hKK
                obtain ⟨⟨wt, hbt⟩, rfl⟩ := hwt
                have TWt := hid (TW.out.still hbt)
                clear hbt TW a0 a1 a2 b0 b1 b2
                go_wp2_with fail
                refine (openx_g (e := eK) (n := nK) (c := cK) (by have := HB.out; omega) (by have := HB.out; omega) (by have := HB.out; omega) (by have := HB.out; omega) (SO.out kk _ ZK.out).1 G.out TWt.out).mono ?_
                rintro e w6 ⟨t6, er6, M6, hop6, hne6, rfl, h1, h2, h3⟩
                have e6 : (er6 == 0) = false := by simpa using hne6
                clear TWt
                have TW := hid h1
                replace G := hid h2
                replace SO := hid (SO.out.ext h3.1)
                replace NM := hid (show M6.length ≤ 120 + 27 * j by have := h3.2.2; have := NM.out; omega)
                clear h1 h2 h3 hop6 hne6
                go_wp2_with fail
                refine HK.out _ _ ⟨fun w' => w' = w6, rfl, ?_⟩
                clear HK
                repeat (go_big_quiet_step (fail))
                refine wpQuiet_nil ?_
                rintro w6 rfl
                go_wp2_with fail
                go_roundw
                case rel => exact ⟨j + 1, _, _, M6, (by have := HLT.out; omega), (by have := HLT.out; omega), by go_num, TW, G, SO, CO, hid (by have := NM.out; omega)⟩
                case measure => have := HLT.out; simp [intOf]; omega
            · have d1 : (eM != eK) = true := by simpa using f1
              have DF : Hid (¬ (eM = eK ∧ nM = nK)) := hid fun h => f1 h.1
              clear f1
              go_wp2_with fail
              refine wp_region_calm (by kernel_rfl) (by kernel_rfl) ?_
              repeat (go_big_quiet_step (fail))
              refine wpQuiet_nil ?_
              intro wc hwc
              obtain ⟨⟨wc, hbc⟩, rfl⟩ := hwc
              replace TW := hid (TW.out.still hbc)
              clear a0 a1 a2 b0 b1 b2 hbc
              have a0 : ∀ x : Later wc, x.w.cell? ⟨g1, kk * 3, none⟩ = some (.int .i64 eK) := fun x => x.cell (TW.out.tr_cell ZK.out).1
              have a1 : ∀ x : Later wc, x.w.cell? ⟨g1, kk * 3 + 1, none⟩ = some (.int .i64 nK) := fun x => x.cell (TW.out.tr_cell ZK.out).2.1
              have a2 : ∀ x : Later wc, x.w.cell? ⟨g1, kk * 3 + 2, none⟩ = some (.int .i64 cK) := fun x => x.cell (TW.out.tr_cell ZK.out).2.2
              have b0 : ∀ x : Later wc, x.w.cell? ⟨g1, mm * 3, none⟩ = some (.int .i64 eM) := fun x => x.cell (TW.out.tr_cell ZM.out).1
              have b1 : ∀ x : Later wc, x.w.cell? ⟨g1, mm * 3 + 1, none⟩ = some (.int .i64 nM) := fun x => x.cell (TW.out.tr_cell ZM.out).2.1
              have b2 : ∀ x : Later wc, x.w.cell? ⟨g1, mm * 3 + 2, none⟩ = some (.int .i64 cM) := fun x => x.cell (TW.out.tr_cell ZM.out).2.2
              go_wp2_with fail
              refine wp_region_turn (C := fun w' => ∃ x : Later wc, w' = x.w) 16 _ (by kernel_rfl) (by kernel_rfl) rfl rfl ⟨⟨_, (Below.refl _ _).drew⟩, rfl⟩ ?_
              simp only [List.take_succ_cons, List.take_zero, List.drop_succ_cons, List.drop_zero]
              repeat (go_big_quiet_step (fail))
              refine wpQuiet_nil ?_
              intro wt hwt KK hKK
              have HK := hid hKK
              clear hKK
              obtain ⟨⟨wt, hbt⟩, rfl⟩ := hwt
              have TWt := hid (TW.out.still hbt)
              clear hbt TW a0 a1 a2 b0 b1 b2
              go_wp2_with fail
              refine (open_g (e := eK) (n := nK) (c := cM) (by have := HB.out; omega) (by have := HB.out; omega) (by have := HB.out; omega) (by have := HB.out; omega) G.out TWt.out).mono ?_
              rintro e w5 ⟨t5, er5, y5, M5, hop5, rfl, h1, h2, h3, h4, h5, h6⟩
              have hne5 : er5 ≠ 0 := by
                have := open_no (m := 20000) (e := eK) (n := nK) G.out.g G.out.nc G.out.nc G.out.yo G.out.yr (SO.out mm _ ZM.out).1 (fun h => DF.out ⟨h.2.2.1, h.2.2.2⟩)
                rw [hop5] at this
                exact this
              have hy5 := h5 hne5
              subst hy5
              have e5 : (er5 == 0) = false := by simpa using hne5
              clear TWt
              have TW := hid h1
              replace G := hid h2
              replace SO := hid (SO.out.ext h3.1)
              replace NM := hid (show M5.length ≤ 111 + 27 * j by have := h3.2.2; have := NM.out; omega)
              clear h1 h2 h3 h4 h5 h6 hop5 hne5
              go_wp2_with fail
              refine HK.out _ _ ⟨fun w' => w' = w5, rfl, ?_⟩
              clear HK
              repeat (go_big_quiet_step (fail))
              refine wpQuiet_nil ?_
              rintro w5 rfl
              have a0 : ∀ x : Later w5, x.w.cell? ⟨g1, kk * 3, none⟩ = some (.int .i64 eK) := fun x => x.cell (TW.out.tr_cell ZK.out).1
              have a1 : ∀ x : Later w5, x.w.cell? ⟨g1, kk * 3 + 1, none⟩ = some (.int .i64 nK) := fun x => x.cell (TW.out.tr_cell ZK.out).2.1
              have a2 : ∀ x : Later w5, x.w.cell? ⟨g1, kk * 3 + 2, none⟩ = some (.int .i64 cK) := fun x => x.cell (TW.out.tr_cell ZK.out).2.2
              have b0 : ∀ x : Later w5, x.w.cell? ⟨g1, mm * 3, none⟩ = some (.int .i64 eM) := fun x => x.cell (TW.out.tr_cell ZM.out).1
              have b1 : ∀ x : Later w5, x.w.cell? ⟨g1, mm * 3 + 1, none⟩ = some (.int .i64 nM) := fun x => x.cell (TW.out.tr_cell ZM.out).2.1
              have b2 : ∀ x : Later w5, x.w.cell? ⟨g1, mm * 3 + 2, none⟩ = some (.int .i64 cM) := fun x => x.cell (TW.out.tr_cell ZM.out).2.2
              go_wp2_with fail
              refine wp_region_turn (C := fun w' => ∃ x : Later w5, w' = x.w) 16 _ (by kernel_rfl) (by kernel_rfl) rfl rfl ⟨⟨_, (Below.refl _ _).drew⟩, rfl⟩ ?_
              simp only [List.take_succ_cons, List.take_zero, List.drop_succ_cons, List.drop_zero]
              repeat (go_big_quiet_step (fail))
              refine wpQuiet_nil ?_
              intro wt hwt KK hKK
              have HK := hid hKK
              clear hKK
              obtain ⟨⟨wt, hbt⟩, rfl⟩ := hwt
              have TWt := hid (TW.out.still hbt)
              clear hbt TW a0 a1 a2 b0 b1 b2
              go_wp2_with fail
              refine (openx_g (e := eK) (n := nK) (c := cK) (by have := HB.out; omega) (by have := HB.out; omega) (by have := HB.out; omega) (by have := HB.out; omega) (SO.out kk _ ZK.out).1 G.out TWt.out).mono ?_
              rintro e w6 ⟨t6, er6, M6, hop6, hne6, rfl, h1, h2, h3⟩
              have e6 : (er6 == 0) = false := by simpa using hne6
              clear TWt
              have TW := hid h1
              replace G := hid h2
              replace SO := hid (SO.out.ext h3.1)
              replace NM := hid (show M6.length ≤ 120 + 27 * j by have := h3.2.2; have := NM.out; omega)
              clear h1 h2 h3 hop6 hne6
              go_wp2_with fail
              refine HK.out _ _ ⟨fun w' => w' = w6, rfl, ?_⟩
              clear HK
              repeat (go_big_quiet_step (fail))
              refine wpQuiet_nil ?_
              rintro w6 rfl
              go_wp2_with fail
              go_roundw
              case rel => exact ⟨j + 1, _, _, M6, (by have := HLT.out; omega), (by have := HLT.out; omega), by go_num, TW, G, SO, CO, hid (by have := NM.out; omega)⟩
              case measure => have := HLT.out; simp [intOf]; omega
          · have e1 : (er == 0) = false := by simpa using her
            have hy := h5 her
            subst hy
            clear her H4 H6 h5
            have a0 : ∀ x : Later w3, x.w.cell? ⟨g1, kk * 3, none⟩ = some (.int .i64 eK) := fun x => x.cell (TW.out.tr_cell ZK.out).1
            have a1 : ∀ x : Later w3, x.w.cell? ⟨g1, kk * 3 + 1, none⟩ = some (.int .i64 nK) := fun x => x.cell (TW.out.tr_cell ZK.out).2.1
            have a2 : ∀ x : Later w3, x.w.cell? ⟨g1, kk * 3 + 2, none⟩ = some (.int .i64 cK) := fun x => x.cell (TW.out.tr_cell ZK.out).2.2
            have b0 : ∀ x : Later w3, x.w.cell? ⟨g1, mm * 3, none⟩ = some (.int .i64 eM) := fun x => x.cell (TW.out.tr_cell ZM.out).1
            have b1 : ∀ x : Later w3, x.w.cell? ⟨g1, mm * 3 + 1, none⟩ = some (.int .i64 nM) := fun x => x.cell (TW.out.tr_cell ZM.out).2.1
            have b2 : ∀ x : Later w3, x.w.cell? ⟨g1, mm * 3 + 2, none⟩ = some (.int .i64 cM) := fun x => x.cell (TW.out.tr_cell ZM.out).2.2
            by_cases f1 : eM = eK
            · have d1 : (eM != eK) = false := by simpa using f1
              by_cases f2 : nM = nK
              · have d2 : (nM != nK) = false := by simpa using f2
                clear f1 f2
                go_wp2_with fail
                refine wp_region_calm (by kernel_rfl) (by kernel_rfl) ?_
                repeat (go_big_quiet_step (fail))
                refine wpQuiet_nil ?_
                intro wc hwc
                obtain ⟨⟨wc, hbc⟩, rfl⟩ := hwc
                replace TW := hid (TW.out.still hbc)
                clear a0 a1 a2 b0 b1 b2 hbc
                go_wp2_with fail
                go_roundw
                case rel => exact ⟨j + 1, _, _, M3, (by have := HLT.out; omega), (by have := HLT.out; omega), by go_num, TW, G, SO, CO, hid (by have := NM.out; omega)⟩
                case measure => have := HLT.out; simp [intOf]; omega
              · have d2 : (nM != nK) = true := by simpa using f2
                have DF : Hid (¬ (eM = eK ∧ nM = nK)) := hid fun h => f2 h.2
                clear f1 f2
                go_wp2_with fail
                refine wp_region_calm (by kernel_rfl) (by kernel_rfl) ?_
                repeat (go_big_quiet_step (fail))
                refine wpQuiet_nil ?_
                intro wc hwc
                obtain ⟨⟨wc, hbc⟩, rfl⟩ := hwc
                replace TW := hid (TW.out.still hbc)
                clear a0 a1 a2 b0 b1 b2 hbc
                have a0 : ∀ x : Later wc, x.w.cell? ⟨g1, kk * 3, none⟩ = some (.int .i64 eK) := fun x => x.cell (TW.out.tr_cell ZK.out).1
                have a1 : ∀ x : Later wc, x.w.cell? ⟨g1, kk * 3 + 1, none⟩ = some (.int .i64 nK) := fun x => x.cell (TW.out.tr_cell ZK.out).2.1
                have a2 : ∀ x : Later wc, x.w.cell? ⟨g1, kk * 3 + 2, none⟩ = some (.int .i64 cK) := fun x => x.cell (TW.out.tr_cell ZK.out).2.2
                have b0 : ∀ x : Later wc, x.w.cell? ⟨g1, mm * 3, none⟩ = some (.int .i64 eM) := fun x => x.cell (TW.out.tr_cell ZM.out).1
                have b1 : ∀ x : Later wc, x.w.cell? ⟨g1, mm * 3 + 1, none⟩ = some (.int .i64 nM) := fun x => x.cell (TW.out.tr_cell ZM.out).2.1
                have b2 : ∀ x : Later wc, x.w.cell? ⟨g1, mm * 3 + 2, none⟩ = some (.int .i64 cM) := fun x => x.cell (TW.out.tr_cell ZM.out).2.2
                go_wp2_with fail
                refine wp_region_turn (C := fun w' => ∃ x : Later wc, w' = x.w) 16 _ (by kernel_rfl) (by kernel_rfl) rfl rfl ⟨⟨_, (Below.refl _ _).drew⟩, rfl⟩ ?_
                simp only [List.take_succ_cons, List.take_zero, List.drop_succ_cons, List.drop_zero]
                repeat (go_big_quiet_step (fail))
                refine wpQuiet_nil ?_
                intro wt hwt KK hKK
                have HK := hid hKK
                clear hKK
                obtain ⟨⟨wt, hbt⟩, rfl⟩ := hwt
                have TWt := hid (TW.out.still hbt)
                clear hbt TW a0 a1 a2 b0 b1 b2
                go_wp2_with fail
                refine (open_g (e := eK) (n := nK) (c := cM) (by have := HB.out; omega) (by have := HB.out; omega) (by have := HB.out; omega) (by have := HB.out; omega) G.out TWt.out).mono ?_
                rintro e w5 ⟨t5, er5, y5, M5, hop5, rfl, h1, h2, h3, h4, h5, h6⟩
                have hne5 : er5 ≠ 0 := by
                  have := open_no (m := 20000) (e := eK) (n := nK) G.out.g G.out.nc G.out.nc G.out.yo G.out.yr (SO.out mm _ ZM.out).1 (fun h => DF.out ⟨h.2.2.1, h.2.2.2⟩)
                  rw [hop5] at this
                  exact this
                have hy5 := h5 hne5
                subst hy5
                have e5 : (er5 == 0) = false := by simpa using hne5
                clear TWt
                have TW := hid h1
                replace G := hid h2
                replace SO := hid (SO.out.ext h3.1)
                replace NM := hid (show M5.length ≤ 111 + 27 * j by have := h3.2.2; have := NM.out; omega)
                clear h1 h2 h3 h4 h5 h6 hop5 hne5
                go_wp2_with fail
                refine HK.out _ _ ⟨fun w' => w' = w5, rfl, ?_⟩
                clear HK
                repeat (go_big_quiet_step (fail))
                refine wpQuiet_nil ?_
                rintro w5 rfl
                have a0 : ∀ x : Later w5, x.w.cell? ⟨g1, kk * 3, none⟩ = some (.int .i64 eK) := fun x => x.cell (TW.out.tr_cell ZK.out).1
                have a1 : ∀ x : Later w5, x.w.cell? ⟨g1, kk * 3 + 1, none⟩ = some (.int .i64 nK) := fun x => x.cell (TW.out.tr_cell ZK.out).2.1
                have a2 : ∀ x : Later w5, x.w.cell? ⟨g1, kk * 3 + 2, none⟩ = some (.int .i64 cK) := fun x => x.cell (TW.out.tr_cell ZK.out).2.2
                have b0 : ∀ x : Later w5, x.w.cell? ⟨g1, mm * 3, none⟩ = some (.int .i64 eM) := fun x => x.cell (TW.out.tr_cell ZM.out).1
                have b1 : ∀ x : Later w5, x.w.cell? ⟨g1, mm * 3 + 1, none⟩ = some (.int .i64 nM) := fun x => x.cell (TW.out.tr_cell ZM.out).2.1
                have b2 : ∀ x : Later w5, x.w.cell? ⟨g1, mm * 3 + 2, none⟩ = some (.int .i64 cM) := fun x => x.cell (TW.out.tr_cell ZM.out).2.2
                go_wp2_with fail
                refine wp_region_turn (C := fun w' => ∃ x : Later w5, w' = x.w) 16 _ (by kernel_rfl) (by kernel_rfl) rfl rfl ⟨⟨_, (Below.refl _ _).drew⟩, rfl⟩ ?_
                simp only [List.take_succ_cons, List.take_zero, List.drop_succ_cons, List.drop_zero]
                repeat (go_big_quiet_step (fail))
                refine wpQuiet_nil ?_
                intro wt hwt KK hKK
                have HK := hid hKK
                clear hKK
                obtain ⟨⟨wt, hbt⟩, rfl⟩ := hwt
                have TWt := hid (TW.out.still hbt)
                clear hbt TW a0 a1 a2 b0 b1 b2
                go_wp2_with fail
                refine (openx_g (e := eK) (n := nK) (c := cK) (by have := HB.out; omega) (by have := HB.out; omega) (by have := HB.out; omega) (by have := HB.out; omega) (SO.out kk _ ZK.out).1 G.out TWt.out).mono ?_
                rintro e w6 ⟨t6, er6, M6, hop6, hne6, rfl, h1, h2, h3⟩
                have e6 : (er6 == 0) = false := by simpa using hne6
                clear TWt
                have TW := hid h1
                replace G := hid h2
                replace SO := hid (SO.out.ext h3.1)
                replace NM := hid (show M6.length ≤ 120 + 27 * j by have := h3.2.2; have := NM.out; omega)
                clear h1 h2 h3 hop6 hne6
                go_wp2_with fail
                refine HK.out _ _ ⟨fun w' => w' = w6, rfl, ?_⟩
                clear HK
                repeat (go_big_quiet_step (fail))
                refine wpQuiet_nil ?_
                rintro w6 rfl
                go_wp2_with fail
                go_roundw
                case rel => exact ⟨j + 1, _, _, M6, (by have := HLT.out; omega), (by have := HLT.out; omega), by go_num, TW, G, SO, CO, hid (by have := NM.out; omega)⟩
                case measure => have := HLT.out; simp [intOf]; omega
            · have d1 : (eM != eK) = true := by simpa using f1
              have DF : Hid (¬ (eM = eK ∧ nM = nK)) := hid fun h => f1 h.1
              clear f1
              go_wp2_with fail
              refine wp_region_calm (by kernel_rfl) (by kernel_rfl) ?_
              repeat (go_big_quiet_step (fail))
              refine wpQuiet_nil ?_
              intro wc hwc
              obtain ⟨⟨wc, hbc⟩, rfl⟩ := hwc
              replace TW := hid (TW.out.still hbc)
              clear a0 a1 a2 b0 b1 b2 hbc
              have a0 : ∀ x : Later wc, x.w.cell? ⟨g1, kk * 3, none⟩ = some (.int .i64 eK) := fun x => x.cell (TW.out.tr_cell ZK.out).1
              have a1 : ∀ x : Later wc, x.w.cell? ⟨g1, kk * 3 + 1, none⟩ = some (.int .i64 nK) := fun x => x.cell (TW.out.tr_cell ZK.out).2.1
              have a2 : ∀ x : Later wc, x.w.cell? ⟨g1, kk * 3 + 2, none⟩ = some (.int .i64 cK) := fun x => x.cell (TW.out.tr_cell ZK.out).2.2
              have b0 : ∀ x : Later wc, x.w.cell? ⟨g1, mm * 3, none⟩ = some (.int .i64 eM) := fun x => x.cell (TW.out.tr_cell ZM.out).1
              have b1 : ∀ x : Later wc, x.w.cell? ⟨g1, mm * 3 + 1, none⟩ = some (.int .i64 nM) := fun x => x.cell (TW.out.tr_cell ZM.out).2.1
              have b2 : ∀ x : Later wc, x.w.cell? ⟨g1, mm * 3 + 2, none⟩ = some (.int .i64 cM) := fun x => x.cell (TW.out.tr_cell ZM.out).2.2
              go_wp2_with fail
              refine wp_region_turn (C := fun w' => ∃ x : Later wc, w' = x.w) 16 _ (by kernel_rfl) (by kernel_rfl) rfl rfl ⟨⟨_, (Below.refl _ _).drew⟩, rfl⟩ ?_
              simp only [List.take_succ_cons, List.take_zero, List.drop_succ_cons, List.drop_zero]
              repeat (go_big_quiet_step (fail))
              refine wpQuiet_nil ?_
              intro wt hwt KK hKK
              have HK := hid hKK
              clear hKK
              obtain ⟨⟨wt, hbt⟩, rfl⟩ := hwt
              have TWt := hid (TW.out.still hbt)
              clear hbt TW a0 a1 a2 b0 b1 b2
              go_wp2_with fail
              refine (open_g (e := eK) (n := nK) (c := cM) (by have := HB.out; omega) (by have := HB.out; omega) (by have := HB.out; omega) (by have := HB.out; omega) G.out TWt.out).mono ?_
              rintro e w5 ⟨t5, er5, y5, M5, hop5, rfl, h1, h2, h3, h4, h5, h6⟩
              have hne5 : er5 ≠ 0 := by
                have := open_no (m := 20000) (e := eK) (n := nK) G.out.g G.out.nc G.out.nc G.out.yo G.out.yr (SO.out mm _ ZM.out).1 (fun h => DF.out ⟨h.2.2.1, h.2.2.2⟩)
                rw [hop5] at this
                exact this
              have hy5 := h5 hne5
              subst hy5
              have e5 : (er5 == 0) = false := by simpa using hne5
              clear TWt
              have TW := hid h1
              replace G := hid h2
              replace SO := hid (SO.out.ext h3.1)
              replace NM := hid (show M5.length ≤ 111 + 27 * j by have := h3.2.2; have := NM.out; omega)
              clear h1 h2 h3 h4 h5 h6 hop5 hne5
              go_wp2_with fail
              refine HK.out _ _ ⟨fun w' => w' = w5, rfl, ?_⟩
              clear HK
              repeat (go_big_quiet_step (fail))
              refine wpQuiet_nil ?_
              rintro w5 rfl
              have a0 : ∀ x : Later w5, x.w.cell? ⟨g1, kk * 3, none⟩ = some (.int .i64 eK) := fun x => x.cell (TW.out.tr_cell ZK.out).1
              have a1 : ∀ x : Later w5, x.w.cell? ⟨g1, kk * 3 + 1, none⟩ = some (.int .i64 nK) := fun x => x.cell (TW.out.tr_cell ZK.out).2.1
              have a2 : ∀ x : Later w5, x.w.cell? ⟨g1, kk * 3 + 2, none⟩ = some (.int .i64 cK) := fun x => x.cell (TW.out.tr_cell ZK.out).2.2
              have b0 : ∀ x : Later w5, x.w.cell? ⟨g1, mm * 3, none⟩ = some (.int .i64 eM) := fun x => x.cell (TW.out.tr_cell ZM.out).1
              have b1 : ∀ x : Later w5, x.w.cell? ⟨g1, mm * 3 + 1, none⟩ = some (.int .i64 nM) := fun x => x.cell (TW.out.tr_cell ZM.out).2.1
              have b2 : ∀ x : Later w5, x.w.cell? ⟨g1, mm * 3 + 2, none⟩ = some (.int .i64 cM) := fun x => x.cell (TW.out.tr_cell ZM.out).2.2
              go_wp2_with fail
              refine wp_region_turn (C := fun w' => ∃ x : Later w5, w' = x.w) 16 _ (by kernel_rfl) (by kernel_rfl) rfl rfl ⟨⟨_, (Below.refl _ _).drew⟩, rfl⟩ ?_
              simp only [List.take_succ_cons, List.take_zero, List.drop_succ_cons, List.drop_zero]
              repeat (go_big_quiet_step (fail))
              refine wpQuiet_nil ?_
              intro wt hwt KK hKK
              have HK := hid hKK
              clear hKK
              obtain ⟨⟨wt, hbt⟩, rfl⟩ := hwt
              have TWt := hid (TW.out.still hbt)
              clear hbt TW a0 a1 a2 b0 b1 b2
              go_wp2_with fail
              refine (openx_g (e := eK) (n := nK) (c := cK) (by have := HB.out; omega) (by have := HB.out; omega) (by have := HB.out; omega) (by have := HB.out; omega) (SO.out kk _ ZK.out).1 G.out TWt.out).mono ?_
              rintro e w6 ⟨t6, er6, M6, hop6, hne6, rfl, h1, h2, h3⟩
              have e6 : (er6 == 0) = false := by simpa using hne6
              clear TWt
              have TW := hid h1
              replace G := hid h2
              replace SO := hid (SO.out.ext h3.1)
              replace NM := hid (show M6.length ≤ 120 + 27 * j by have := h3.2.2; have := NM.out; omega)
              clear h1 h2 h3 hop6 hne6
              go_wp2_with fail
              refine HK.out _ _ ⟨fun w' => w' = w6, rfl, ?_⟩
              clear HK
              repeat (go_big_quiet_step (fail))
              refine wpQuiet_nil ?_
              rintro w6 rfl
              go_wp2_with fail
              go_roundw
              case rel => exact ⟨j + 1, _, _, M6, (by have := HLT.out; omega), (by have := HLT.out; omega), by go_num, TW, G, SO, CO, hid (by have := NM.out; omega)⟩
              case measure => have := HLT.out; simp [intOf]; omega
        · have hex2 : (decide ((j : Int) < (len2 : Int)) = false ∧ decide (j < len2) = false) ∨ (decide ((j : Int) < (len2 : Int)) = true ∧ decide (j < len2) = true ∧ decide ((j : Int) < 60) = false) ∨ (decide ((j : Int) < (len2 : Int)) = true ∧ decide (j < len2) = true ∧ decide ((j : Int) < 60) = true ∧ decide ((0 : Int) < (n : Int)) = false ∧ decide (0 < n) = false) := by
            by_cases h : j < len2
            · by_cases h' : j < 60
              · right; right; refine ⟨by simp; omega, by simp; omega, by simp; omega, by simp; omega, by simp; omega⟩
              · right; left; refine ⟨by simp; omega, by simp; omega, by simp; omega⟩
            · left; refine ⟨by simp; omega, by simp; omega⟩
          clear hlt hj hjl
          rcases hex2 with ⟨hd1, hd1'⟩ | ⟨hd1, hd1', hd2⟩ | ⟨hd1, hd1', hd2, hd3, hd3'⟩
          · go_wp2_with fail
            clear hd1 hd1'
            try clear hd2
            try clear hd3 hd3'
            go_loopw [24] (fun q wr => ∃ r : Nat, r ≤ n ∧ q = .int .i64 r ∧ Hid (Two W wr b pa pb x y M 20000 [RowR 55 3 (.slice (some ⟨g1, 0, none⟩) n c1) n (trC l), RowR 3 1 (.slice (some ⟨g2, 0, none⟩) n c2) n (nums .i64 cs)])) (fun q _ => n - (intOf q).toNat)
            case atStart => exact ⟨0, by omega, rfl, TW⟩
            case round =>
              clear TW
              obtain ⟨r, hr1, rfl, TW⟩ := hrel
              obtain ⟨w5, hw5⟩ : ∃ w5 : World, w5 = wr := ⟨_, rfl⟩
              rw [← hw5] at TW ⊢
              clear hw5 wr
              by_cases hlt : r < n
              · have hd1 : decide ((r : Int) < (n : Int)) = true := by simp; omega
                have hd1' : decide (r < n) = true := by simp; omega
                have z4 : IntKind.i64.wrap ((r : Int) + 1) = (r : Int) + 1 := IntWalk.i64_in _ (by have := NN.out; omega)
                obtain ⟨cc, hcc⟩ : ∃ u, cs[r]? = some u := ⟨cs[r]'(by rw [CO.out.1, ← HN.out]; exact hlt), List.getElem?_eq_getElem _⟩
                obtain ⟨s1, s2, s3⟩ := TW.out.turn.num_at hcc
                have hle := CO.out.le hcc
                have hd3 : decide (1 < cc) = false := by simp; omega
                have r0 : (0 : Int) ≤ (r : Int) := by omega
                have r1 : (r : Int) < (n : Int) := by omega
                have HLT := hid hlt
                clear hlt hr1 hcc hle
                go_wp2_with fail
                go_roundw
                case rel => exact ⟨r + 1, (by have := HLT.out; omega), by go_num, TW⟩
                case measure => have := HLT.out; simp [intOf]; omega
              · have hd1 : decide ((r : Int) < (n : Int)) = false := by simp; omega
                have hd1' : decide (r < n) = false := by simp; omega
                clear hlt hr1
                go_wp2_with fail
                refine (fixed19_calls _).mono ?_
                rintro e w6 ⟨rfl, h1⟩
                have T2 := hid (TW.out.below.trans (h1.mono TW.out.below.size))
                clear h1
                go_wp2_with fail
                go_ret
                exact ⟨rfl, T2.out⟩
          · go_wp2_with fail
            clear hd1 hd1'
            try clear hd2
            try clear hd3 hd3'
            go_loopw [24] (fun q wr => ∃ r : Nat, r ≤ n ∧ q = .int .i64 r ∧ Hid (Two W wr b pa pb x y M 20000 [RowR 55 3 (.slice (some ⟨g1, 0, none⟩) n c1) n (trC l), RowR 3 1 (.slice (some ⟨g2, 0, none⟩) n c2) n (nums .i64 cs)])) (fun q _ => n - (intOf q).toNat)
            case atStart => exact ⟨0, by omega, rfl, TW⟩
            case round =>
              clear TW
              obtain ⟨r, hr1, rfl, TW⟩ := hrel
              obtain ⟨w5, hw5⟩ : ∃ w5 : World, w5 = wr := ⟨_, rfl⟩
              rw [← hw5] at TW ⊢
              clear hw5 wr
              by_cases hlt : r < n
              · have hd1 : decide ((r : Int) < (n : Int)) = true := by simp; omega
                have hd1' : decide (r < n) = true := by simp; omega
                have z4 : IntKind.i64.wrap ((r : Int) + 1) = (r : Int) + 1 := IntWalk.i64_in _ (by have := NN.out; omega)
                obtain ⟨cc, hcc⟩ : ∃ u, cs[r]? = some u := ⟨cs[r]'(by rw [CO.out.1, ← HN.out]; exact hlt), List.getElem?_eq_getElem _⟩
                obtain ⟨s1, s2, s3⟩ := TW.out.turn.num_at hcc
                have hle := CO.out.le hcc
                have hd3 : decide (1 < cc) = false := by simp; omega
                have r0 : (0 : Int) ≤ (r : Int) := by omega
                have r1 : (r : Int) < (n : Int) := by omega
                have HLT := hid hlt
                clear hlt hr1 hcc hle
                go_wp2_with fail
                go_roundw
                case rel => exact ⟨r + 1, (by have := HLT.out; omega), by go_num, TW⟩
                case measure => have := HLT.out; simp [intOf]; omega
              · have hd1 : decide ((r : Int) < (n : Int)) = false := by simp; omega
                have hd1' : decide (r < n) = false := by simp; omega
                clear hlt hr1
                go_wp2_with fail
                refine (fixed19_calls _).mono ?_
                rintro e w6 ⟨rfl, h1⟩
                have T2 := hid (TW.out.below.trans (h1.mono TW.out.below.size))
                clear h1
                go_wp2_with fail
                go_ret
                exact ⟨rfl, T2.out⟩
          · go_wp2_with fail
            clear hd1 hd1'
            try clear hd2
            try clear hd3 hd3'
            go_loopw [24] (fun q wr => ∃ r : Nat, r ≤ n ∧ q = .int .i64 r ∧ Hid (Two W wr b pa pb x y M 20000 [RowR 55 3 (.slice (some ⟨g1, 0, none⟩) n c1) n (trC l), RowR 3 1 (.slice (some ⟨g2, 0, none⟩) n c2) n (nums .i64 cs)])) (fun q _ => n - (intOf q).toNat)
            case atStart => exact ⟨0, by omega, rfl, TW⟩
            case round =>
              clear TW
              obtain ⟨r, hr1, rfl, TW⟩ := hrel
              obtain ⟨w5, hw5⟩ : ∃ w5 : World, w5 = wr := ⟨_, rfl⟩
              rw [← hw5] at TW ⊢
              clear hw5 wr
              by_cases hlt : r < n
              · have hd1 : decide ((r : Int) < (n : Int)) = true := by simp; omega
                have hd1' : decide (r < n) = true := by simp; omega
                have z4 : IntKind.i64.wrap ((r : Int) + 1) = (r : Int) + 1 := IntWalk.i64_in _ (by have := NN.out; omega)
                obtain ⟨cc, hcc⟩ : ∃ u, cs[r]? = some u := ⟨cs[r]'(by rw [CO.out.1, ← HN.out]; exact hlt), List.getElem?_eq_getElem _⟩
                obtain ⟨s1, s2, s3⟩ := TW.out.turn.num_at hcc
                have hle := CO.out.le hcc
                have hd3 : decide (1 < cc) = false := by simp; omega
                have r0 : (0 : Int) ≤ (r : Int) := by omega
                have r1 : (r : Int) < (n : Int) := by omega
                have HLT := hid hlt
                clear hlt hr1 hcc hle
                go_wp2_with fail
                go_roundw
                case rel => exact ⟨r + 1, (by have := HLT.out; omega), by go_num, TW⟩
                case measure => have := HLT.out; simp [intOf]; omega
              · have hd1 : decide ((r : Int) < (n : Int)) = false := by simp; omega
                have hd1' : decide (r < n) = false := by simp; omega
                clear hlt hr1
                go_wp2_with fail
                refine (fixed19_calls _).mono ?_
                rintro e w6 ⟨rfl, h1⟩
                have T2 := hid (TW.out.below.trans (h1.mono TW.out.below.size))
                clear h1
                go_wp2_with fail
                go_ret
                exact ⟨rfl, T2.out⟩
set_option maxRecDepth 100000 in
set_option maxHeartbeats 32000000 in
theorem sessOnce_walkB (ad : Option Addr) (len cap : Nat) (zs : List Int) (ad2 : Option Addr) (len2 cap2 : Nat) (zs2 : List Int) (W : World) (hlen : len = zs.length) (hmax : len ≤ maxLen) (hzs : NumsIn .u8 W ad zs) (hlen2 : len2 = zs2.length) (hmax2 : len2 ≤ maxLen) (hzs2 : NumsIn .u8 W ad2 zs2) (hl30 : 30 < len) :
    Calls Try.prog 10 #[.slice ad len cap, .slice ad2 len2 cap2] W fun e w' => e = .returned (.bool true) ∧ Below W.heap.size W w' := by
  have Hlen := hid hlen
  have Hzs := hid hzs
  have hm : len ≤ 9223372036854775807 := by unfold maxLen at hmax; exact hmax
  have Hlen2 := hid hlen2
  have Hzs2 := hid hzs2
  have hm2 : len2 ≤ 9223372036854775807 := by unfold maxLen at hmax2; exact hmax2
  obtain ⟨i0, hi0, hz0, hs0, hy0⟩ := info_int
  clear hlen hmax hzs hlen2 hmax2 hzs2
  go_enter Try.func10, Try.ntmps10
  go_wp2_with fail
  refine (pair_two (W := W)).mono ?_
  rintro e w1 ⟨b, pa, pb, rfl, h1⟩
  have TW := hid h1
  have G := hid (good2_start h1.good)
  clear h1
  go_wp2_with fail
  have TW2 := hid ((TW.out.row (E := 55) w1.heap.size rfl 3).row (E := 3) (w1.heap.size + 1) (by simp) 1).turn
  clear TW
  go_loopw [8, 9, 10] (fun vs vc q wr => ∃ (i g1 c1 g2 c2 n : Nat) (l : List Tr) (x : Se) (L : List T), i ≤ 30 ∧ i ≤ len ∧ vs = .slice (some ⟨g1, 0, none⟩) n c1 ∧ vc = .slice (some ⟨g2, 0, none⟩) n c2 ∧ q = .int .i64 i ∧ Hid (Two W wr b pa pb x (se0 1 3 2 1) L 20000 [RowR 55 3 (.slice (some ⟨g1, 0, none⟩) n c1) n (trC l), RowR 3 1 (.slice (some ⟨g2, 0, none⟩) n c2) n (nums .i64 (List.replicate n 0))]) ∧ Hid (Good2 L x (se0 1 3 2 1)) ∧ Hid (SentOk L l) ∧ Hid (n = l.length) ∧ Hid (x.oe ≤ i ∧ x.sent ≤ i ∧ L.length ≤ 3 + 3 * i ∧ n ≤ i)) (fun _ _ q _ => 30 - (intOf q).toNat)
  case atStart => exact ⟨0, _, _, _, _, 0, [], _, _, by omega, by omega, rfl, rfl, rfl, TW2, G, hid (SentOk.nil _), hid rfl, hid ⟨by decide, by decide, by decide, by decide⟩⟩
  case round =>
    clear TW2 G
    obtain ⟨i, g1, c1, g2, c2, n, l, x, L, hi, hil, rfl, rfl, rfl, TW, G, SO, HN, S⟩ := hrel
    obtain ⟨wl, hwl⟩ : ∃ wl : World, wl = wr := ⟨_, rfl⟩
    rw [← hwl] at TW ⊢
    clear hwl wr
    by_cases hlt : i < len ∧ i < 30
    · have hd1 : decide ((i : Int) < (len : Int)) = true := by simp; omega
      have hd1' : decide (i < len) = true := by simp; omega
      have hd2 : decide ((i : Int) < 30) = true := by simp; omega
      have z4 : IntKind.i64.wrap ((i : Int) + 1) = (i : Int) + 1 := IntWalk.i64_in _ (by omega)
      obtain ⟨z, hz⟩ : ∃ z, zs[i]? = some z := ⟨zs[i]'(by rw [← Hlen.out]; exact hlt.1), List.getElem?_eq_getElem _⟩
      obtain ⟨z0, z1, gg, oo, rfl, hc0⟩ := (Hzs.out.later TW.out.below) i z hz
      have z0' : 0 ≤ z := by simpa [IntKind.min, IntKind.signed] using z0
      have z1' : z ≤ 255 := by simpa [IntKind.max, IntKind.signed, IntKind.bits] using z1
      have zj0 : (0 : Int) ≤ (i : Int) := by omega
      have zj1 : (i : Int) < (len : Int) := by omega
      obtain ⟨r, hr1⟩ : ∃ r, z.tmod 4 = r := ⟨_, rfl⟩
      have hr2 : 0 ≤ r ∧ r ≤ 3 := by rw [← hr1, Int.tmod_eq_emod_of_nonneg z0']; omega
      have y1 : IntKind.u8.wrap r = r := IntWalk.u8_in _ (by omega)
      have HLT := hid hlt
      clear hlt hi hil hz z0 z1
      by_cases he : r = 0
      · have e1 : (r == 0) = true := by simpa using he
        clear he hr2
        go_wp2_with fail
        refine (step_g (by have := S.out.1; have := HLT.out; omega) (by have := S.out.2.2.1; have := HLT.out; omega) G.out TW.out).mono ?_
        rintro e w2 ⟨kk, L', rfl, h1, h2, h3, h4⟩
        clear TW G
        have TW := hid h1
        have G := hid h2
        have SO2 := hid (SO.out.ext h3)
        have N5 := hid h4
        clear h1 h2 h3 h4 SO
        go_wp2_with fail
        go_roundw
        case rel => exact ⟨i + 1, g1, c1, g2, c2, n, l, _, L', (by have := HLT.out; omega), (by have := HLT.out; omega), rfl, rfl, by go_num, TW, G, SO2, HN, hid ⟨by have := S.out.1; dsimp only; omega, by dsimp only; omega, by have := S.out.2.2.1; have := N5.out; omega, by have := S.out.2.2.2; omega⟩⟩
        case measure => have := HLT.out; simp [intOf]; omega
      · have e1 : (r == 0) = false := by simpa using he
        have y2 : IntKind.u8.wrap (n : Int) = n := IntWalk.u8_in _ (by have := S.out.2.2.2; have := HLT.out; omega)
        clear he hr2
        obtain ⟨wp, hwp⟩ : ∃ wp, wl.heap.size = wp := ⟨_, rfl⟩
        have cs := str_one (w := wl) n hwp
        go_wp2_with fail
        refine (seal_g (s := ⟨#[UInt8.ofNat n]⟩) (show (1 : Nat) ≤ 1000 by decide) (by have := S.out.2.1; have := HLT.out; omega) (by have := S.out.2.2.1; have := HLT.out; omega) G.out (TW.out.still ((Below.refl _ _).alloc (Nat.le_refl _) _))).mono ?_
        obtain ⟨e0, he0⟩ : ∃ e, x.oe = e := ⟨_, rfl⟩
        obtain ⟨n0, hn0⟩ : ∃ n, x.sent = n := ⟨_, rfl⟩
        rw [he0, hn0]
        rintro e w2 ⟨c, L', rfl, h1, h2, h3, h4, h5⟩
        clear TW
        have TW := hid h1
        have G2 := hid h2
        have SO2 : Hid (SentOk L' (l ++ [(e0, n0, c)])) := hid ((SO.out.ext h4).snoc (by rw [← HN.out]; exact h3) ⟨by rw [← hn0]; exact G.out.xo.s0, by have := S.out.2.1; have := HLT.out; dsimp only; omega⟩ (by have := S.out.1; have := HLT.out; dsimp only; omega))
        have N5 := hid h5
        have HE0 := hid he0
        have HN0 := hid hn0
        clear h1 h2 h3 h4 h5 SO G cs hwp he0 hn0
        obtain ⟨Ss, hA, hB⟩ := TW.out.first
        have HA := hid hA
        have HB := hid hB
        clear hA hB TW
        go_wp2_with (at_builtin; refine append_tr (l := l) (e0, n0, c) rfl (.tmp 67) (.tmp 72) rfl rfl HA.out (by rfl) (by rfl) (by have := S.out.2.2.2; have := HLT.out; omega) ?_; intro g3 c3 w3 h3; have TW3 := hid ((HB.out _ _ h3).turn); clear h3 HA HB; obtain ⟨Ss2, hA, hB⟩ := TW3.out.first; have HA := hid hA; have HB := hid hB; clear hA hB TW3; go_wp2_with (at_builtin; refine append_num (k := .i64) (zs := List.replicate n 0) Try.underlying33 hi0 hz0 hs0 hy0 (by decide) rfl (.tmp 74) (.tmp 75) rfl HA.out (by rfl) 0 (by rfl) (by have := S.out.2.2.2; have := HLT.out; omega) ?_; intro g4 c4 w4 h4; have TW4 := hid ((HB.out _ _ h4).turn); clear h4 HA HB))
        go_roundw
        case rel => exact ⟨i + 1, g3, c3, g4, c4, n + 1, l ++ [(e0, n0, c)], _, L', (by have := HLT.out; omega), (by have := HLT.out; omega), by first | rfl | trivial, by first | rfl | trivial, by go_num, hid (by rw [List.replicate_succ']; exact TW4.out), G2, SO2, hid (by rw [List.length_append, ← HN.out]; rfl), hid ⟨by have := S.out.1; have := HE0.out; dsimp only; omega, by have := S.out.2.1; have := HN0.out; dsimp only; omega, by have := S.out.2.2.1; have := N5.out; omega, by have := S.out.2.2.2; omega⟩⟩
        case measure => have := HLT.out; simp [intOf]; omega
    · have hd1 : decide ((i : Int) < (len : Int)) = true := by simp; omega
      have hd1' : decide (i < len) = true := by simp; omega
      have hd2 : decide ((i : Int) < 30) = false := by simp; omega
      have NL : Hid (L.length ≤ 93) := hid (by have := S.out.2.2.1; omega)
      have NN : Hid (n ≤ 30) := hid (by have := S.out.2.2.2; omega)
      clear hlt hi hil S hi0 hz0 hs0 hy0 i0 hl30
      go_wp2_with fail
      clear hd1 hd1'
      try clear hd2
      go_loopw [15] (fun q wr => ∃ (j : Nat) (cs : List Int) (y : Se) (M : List T), j ≤ 60 ∧ j ≤ len2 ∧ q = .int .i64 j ∧ Hid (Two W wr b pa pb x y M 20000 [RowR 55 3 (.slice (some ⟨g1, 0, none⟩) n c1) n (trC l), RowR 3 1 (.slice (some ⟨g2, 0, none⟩) n c2) n (nums .i64 cs)]) ∧ Hid (Good2 M x y) ∧ Hid (SentOk M l) ∧ Hid (CameOk y.rc l cs) ∧ Hid (M.length ≤ 93 + 27 * j)) (fun q _ => 60 - (intOf q).toNat)
      case atStart => exact ⟨0, List.replicate n 0, _, _, by omega, by omega, rfl, TW, G, SO, hid (CameOk.start HN.out), hid (by have := NL.out; omega)⟩
      case round =>
        clear TW G SO NL
        obtain ⟨j, cs, y, M, hj, hjl, rfl, TW, G, SO, CO, NM⟩ := hrel
        obtain ⟨wl, hwl⟩ : ∃ wl : World, wl = wr := ⟨_, rfl⟩
        rw [← hwl] at TW ⊢
        clear hwl wr
        by_cases hlt : j < len2 ∧ j < 60 ∧ 0 < n
        · have hd1 : decide ((j : Int) < (len2 : Int)) = true := by simp; omega
          have hd1' : decide (j < len2) = true := by simp; omega
          have hd2 : decide ((j : Int) < 60) = true := by simp; omega
          have hd3 : decide ((0 : Int) < (n : Int)) = true := by simp; omega
          have hd3' : decide (0 < n) = true := by simp; omega
          have z4 : IntKind.i64.wrap ((j : Int) + 1) = (j : Int) + 1 := IntWalk.i64_in _ (by omega)
          obtain ⟨z, hz⟩ : ∃ z, zs2[j]? = some z := ⟨zs2[j]'(by rw [← Hlen2.out]; exact hlt.1), List.getElem?_eq_getElem _⟩
          obtain ⟨z0, z1, gg, oo, rfl, hc0⟩ := (Hzs2.out.later TW.out.below) j z hz
          have z0' : 0 ≤ z := by simpa [IntKind.min, IntKind.signed] using z0
          have z1' : z ≤ 255 := by simpa [IntKind.max, IntKind.signed, IntKind.bits] using z1
          have zj0 : (0 : Int) ≤ (j : Int) := by omega
          have zj1 : (j : Int) < (len2 : Int) := by omega
          have n0 : ((n : Int) == 0) = false := by simp; omega
          have n0' : (n == 0) = false := by simp; omega
          have hkr := mod_range z (show (1 : Int) ≤ n by omega)
          obtain ⟨kk, hkk⟩ : ∃ kk : Nat, z.tmod n = kk := ⟨(z % n).toNat, by rw [Int.tmod_eq_emod_of_nonneg z0']; omega⟩
          have hkn : kk < n := by rw [Int.tmod_eq_emod_of_nonneg z0'] at hkk; omega
          have hmr := mod_range ((kk : Int) + j) (show (1 : Int) ≤ n by omega)
          obtain ⟨mm, hmm⟩ : ∃ mm : Nat, ((kk : Int) + j).tmod n = mm := ⟨(((kk : Int) + j) % n).toNat, by rw [Int.tmod_eq_emod_of_nonneg (by omega)]; omega⟩
          have hmn : mm < n := by rw [Int.tmod_eq_emod_of_nonneg (by omega)] at hmm; omega
          have v1 : IntKind.i64.wrap z = z := IntWalk.i64_in _ (by omega)
          have v2 : IntKind.i64.wrap (kk : Int) = kk := IntWalk.i64_in _ (by have := NN.out; omega)
          have v3 : IntKind.i64.wrap ((kk : Int) + j) = (kk : Int) + j := IntWalk.i64_in _ (by have := NN.out; omega)
          have v4 : IntKind.i64.wrap (mm : Int) = mm := IntWalk.i64_in _ (by have := NN.out; omega)
          have v5 : IntKind.u8.wrap (kk : Int) = kk := IntWalk.u8_in _ (by have := NN.out; omega)
          have k0 : (0 : Int) ≤ (kk : Int) := by omega
          have k1 : (kk : Int) < (n : Int) := by omega
          have m0 : (0 : Int) ≤ (mm : Int) := by omega
          have m1 : (mm : Int) < (n : Int) := by omega
          obtain ⟨⟨eK, nK, cK⟩, hzK⟩ : ∃ u, l[kk]? = some u := ⟨l[kk]'(by rw [← HN.out]; exact hkn), List.getElem?_eq_getElem _⟩
          obtain ⟨⟨eM, nM, cM⟩, hzM⟩ : ∃ u, l[mm]? = some u := ⟨l[mm]'(by rw [← HN.out]; exact hmn), List.getElem?_eq_getElem _⟩
          obtain ⟨cc, hcc⟩ : ∃ u, cs[kk]? = some u := ⟨cs[kk]'(by rw [CO.out.1, ← HN.out]; exact hkn), List.getElem?_eq_getElem _⟩
          have ZK := hid hzK
          have ZM := hid hzM
          have CC := hid hcc
          have HLT := hid hlt
          have HB := hid (show (0 ≤ nK ∧ nK < 256) ∧ eK ≤ 100 ∧ 0 ≤ eK from ⟨(SO.out kk _ hzK).2.1, (SO.out kk _ hzK).2.2, (SO.out kk _ hzK).1.1⟩)
          clear hlt hj hjl hz z0 z1 hkr hkn hmr hmn hzK hzM hcc
          have a0 : ∀ x : Later wl, x.w.cell? ⟨g1, kk * 3, none⟩ = some (.int .i64 eK) := fun x => x.cell (TW.out.tr_cell ZK.out).1
          have a1 : ∀ x : Later wl, x.w.cell? ⟨g1, kk * 3 + 1, none⟩ = some (.int .i64 nK) := fun x => x.cell (TW.out.tr_cell ZK.out).2.1
          have a2 : ∀ x : Later wl, x.w.cell? ⟨g1, kk * 3 + 2, none⟩ = some (.int .i64 cK) := fun x => x.cell (TW.out.tr_cell ZK.out).2.2
          have b0 : ∀ x : Later wl, x.w.cell? ⟨g1, mm * 3, none⟩ = some (.int .i64 eM) := fun x => x.cell (TW.out.tr_cell ZM.out).1
          have b1 : ∀ x : Later wl, x.w.cell? ⟨g1, mm * 3 + 1, none⟩ = some (.int .i64 nM) := fun x => x.cell (TW.out.tr_cell ZM.out).2.1
          have b2 : ∀ x : Later wl, x.w.cell? ⟨g1, mm * 3 + 2, none⟩ = some (.int .i64 cM) := fun x => x.cell (TW.out.tr_cell ZM.out).2.2
          go_wp2_with fail
          refine wp_region_turn (C := fun w' => ∃ x : Later wl, w' = x.w) 16 _ (by kernel_rfl) (by kernel_rfl) rfl rfl ⟨⟨_, (Below.refl _ _).drew⟩, rfl⟩ ?_
          simp only [List.take_succ_cons, List.take_zero, List.drop_succ_cons, List.drop_zero]
          repeat (go_big_quiet_step (fail))
          refine wpQuiet_nil ?_
          intro wt hwt KK hKK
          have HK := hid hKK
          clear hKK
          obtain ⟨⟨wt, hbt⟩, rfl⟩ := hwt
          have TWt := hid (TW.out.still hbt)
          clear hbt TW a0 a1 a2 b0 b1 b2
          go_wp2_with fail
          refine (open_g (e := eK) (n := nK) (c := cK) (by have := HB.out; omega) (by have := HB.out; omega) (by have := HB.out; omega) (by have := HB.out; omega) G.out TWt.out).mono ?_
          rintro e w3 ⟨t, er, y3, M3, hop, rfl, h1, h2, h3, h4, h5, h6⟩
          clear TWt
          have TW := hid h1
          replace G := hid h2
          replace SO := hid (SO.out.ext h3.1)
          replace NM := hid (show M3.length ≤ 102 + 27 * j by have := h3.2.2; have := NM.out; omega)
          have H6 := hid h6
          have H4 := hid h4
          clear h1 h2 h3 h4 h6 hop hc0
          go_wp2_with fail
          refine HK.out _ _ ⟨fun w' => w' = w3, rfl, ?_⟩
          clear HK
          repeat (go_big_quiet_step (fail))
          refine wpQuiet_nil ?_
          rintro w3 rfl
          by_cases her : er = 0
          · have e1 : (er == 0) = true := by simpa using her
            obtain ⟨o1, o2, o3⟩ := H4.out her
            have ht : t = ⟨#[UInt8.ofNat kk]⟩ := (o1.inj G.out.nc G.out.nc (SO.out kk _ ZK.out).1).2.2.2.2
            have hc1 : cc = 0 := CO.out.new ZK.out CC.out o2
            subst ht
            subst hc1
            replace CO := hid ((CO.out.later SO.out H6.out).set ZK.out o3)
            clear o1 o2 o3 H4 H6 her h5
            obtain ⟨s1, s2, s3⟩ := TW.out.turn.num_at CC.out
            have v6 : IntKind.i64.wrap ((0 : Int) + 1) = 1 := by decide
            have cvt := str_one (w := w3.setCell ⟨g2, kk, none⟩ (.int .i64 1)) (k := w3.heap.size) kk (by simp)
            have TW2 := hid (TW.out.turn.num_set (k := kk) 1).turn
            go_wp2_with fail
            obtain ⟨w4, hw4⟩ : ∃ w4, (w3.setCell ⟨g2, kk, none⟩ (.int .i64 1)).alloc (.cells #[.int .u8 kk] 5 (0, 0)) = w4 := ⟨_, rfl⟩
            clear TW
            have TW : Hid (Two W w4 b pa pb x y3 M3 20000 [RowR 55 3 (.slice (some ⟨g1, 0, none⟩) n c1) n (trC l), RowR 3 1 (.slice (some ⟨g2, 0, none⟩) n c2) n (nums .i64 (cs.set kk 1))]) := hid (by rw [← hw4]; exact TW2.out.still ((Below.refl _ _).alloc (Nat.le_refl _) _))
            rw [hw4]
            clear TW2 hw4 cvt s1 s2 s3
            have a0 : ∀ x : Later w4, x.w.cell? ⟨g1, kk * 3, none⟩ = some (.int .i64 eK) := fun x => x.cell (TW.out.tr_cell ZK.out).1
            have a1 : ∀ x : Later w4, x.w.cell? ⟨g1, kk * 3 + 1, none⟩ = some (.int .i64 nK) := fun x => x.cell (TW.out.tr_cell ZK.out).2.1
            have a2 : ∀ x : Later w4, x.w.cell? ⟨g1, kk * 3 + 2, none⟩ = some (.int .i64 cK) := fun x => x.cell (TW.out.tr_cell ZK.out).2.2
            have b0 : ∀ x : Later w4, x.w.cell? ⟨g1, mm * 3, none⟩ = some (.int .i64 eM) := fun x => x.cell (TW.out.tr_cell ZM.out).1
            have b1 : ∀ x : Later w4, x.w.cell? ⟨g1, mm * 3 + 1, none⟩ = some (.int .i64 nM) := fun x => x.cell (TW.out.tr_cell ZM.out).2.1
            have b2 : ∀ x : Later w4, x.w.cell? ⟨g1, mm * 3 + 2, none⟩ = some (.int .i64 cM) := fun x => x.cell (TW.out.tr_cell ZM.out).2.2
            by_cases f1 : eM = eK
            · have d1 : (eM != eK) = false := by simpa using f1
              by_cases f2 : nM = nK
              · have d2 : (nM != nK) = false := by simpa using f2
                clear f1 f2
                go_wp2_with fail
                refine wp_region_calm (by kernel_rfl) (by kernel_rfl) ?_
                repeat (go_big_quiet_step (fail))
                refine wpQuiet_nil ?_
                intro wc hwc
                obtain ⟨⟨wc, hbc⟩, rfl⟩ := hwc
                replace TW := hid (TW.out.still hbc)
                clear a0 a1 a2 b0 b1 b2 hbc
                go_wp2_with fail
                go_roundw
                case rel => exact ⟨j + 1, _, _, M3, (by have := HLT.out; omega), (by have := HLT.out; omega), by go_num, TW, G, SO, CO, hid (by have := NM.out; omega)⟩
                case measure => have := HLT.out; simp [intOf]; omega
              · have d2 : (nM != nK) = true := by simpa using f2
                have DF : Hid (¬ (eM = eK ∧ nM = nK)) := hid fun h => f2 h.2
                clear f1 f2
                go_wp2_with fail
                refine wp_region_calm (by kernel_rfl) (by kernel_rfl) ?_
                repeat (go_big_quiet_step (fail))
                refine wpQuiet_nil ?_
                intro wc hwc
                obtain ⟨⟨wc, hbc⟩, rfl⟩ := hwc
                replace TW := hid (TW.out.still hbc)
                clear a0 a1 a2 b0 b1 b2 hbc
                have a0 : ∀ x : Later wc, x.w.cell? ⟨g1, kk * 3, none⟩ = some (.int .i64 eK) := fun x => x.cell (TW.out.tr_cell ZK.out).1
                have a1 : ∀ x : Later wc, x.w.cell? ⟨g1, kk * 3 + 1, none⟩ = some (.int .i64 nK) := fun x => x.cell (TW.out.tr_cell ZK.out).2.1
                have a2 : ∀ x : Later wc, x.w.cell? ⟨g1, kk * 3 + 2, none⟩ = some (.int .i64 cK) := fun x => x.cell (TW.out.tr_cell ZK.out).2.2
                have b0 : ∀ x : Later wc, x.w.cell? ⟨g1, mm * 3, none⟩ = some (.int .i64 eM) := fun x => x.cell (TW.out.tr_cell ZM.out).1
                have b1 : ∀ x : Later wc, x.w.cell? ⟨g1, mm * 3 + 1, none⟩ = some (.int .i64 nM) := fun x => x.cell (TW.out.tr_cell ZM.out).2.1
                have b2 : ∀ x : Later wc, x.w.cell? ⟨g1, mm * 3 + 2, none⟩ = some (.int .i64 cM) := fun x => x.cell (TW.out.tr_cell ZM.out).2.2
                go_wp2_with fail
                refine wp_region_turn (C := fun w' => ∃ x : Later wc, w' = x.w) 16 _ (by kernel_rfl) (by kernel_rfl) rfl rfl ⟨⟨_, (Below.refl _ _).drew⟩, rfl⟩ ?_
                simp only [List.take_succ_cons, List.take_zero, List.drop_succ_cons, List.drop_zero]
                repeat (go_big_quiet_step (fail))
                refine wpQuiet_nil ?_
                intro wt hwt KK hKK
                have HK := hid hKK
                clear hKK
                obtain ⟨⟨wt, hbt⟩, rfl⟩ := hwt
                have TWt := hid (TW.out.still hbt)
                clear hbt TW a0 a1 a2 b0 b1 b2
                go_wp2_with fail
                refine (open_g (e := eK) (n := nK) (c := cM) (by have := HB.out; omega) (by have := HB.out; omega) (by have := HB.out; omega) (by have := HB.out; omega) G.out TWt.out).mono ?_
                rintro e w5 ⟨t5, er5, y5, M5, hop5, rfl, h1, h2, h3, h4, h5, h6⟩
                have hne5 : er5 ≠ 0 := by
                  have := open_no (m := 20000) (e := eK) (n := nK) G.out.g G.out.nc G.out.nc G.out.yo G.out.yr (SO.out mm _ ZM.out).1 (fun h => DF.out ⟨h.2.2.1, h.2.2.2⟩)
                  rw [hop5] at this
                  exact this
                have hy5 := h5 hne5
                subst hy5
                have e5 : (er5 == 0) = false := by simpa using hne5
                clear TWt
                have TW := hid h1
                replace G := hid h2
                replace SO := hid (SO.out.ext h3.1)
                replace NM := hid (show M5.length ≤ 111 + 27 * j by have := h3.2.2; have := NM.out; omega)
                clear h1 h2 h3 h4 h5 h6 hop5 hne5
                go_wp2_with fail
                refine HK.out _ _ ⟨fun w' => w' = w5, rfl, ?_⟩
                clear HK
                repeat (go_big_quiet_step (fail))
                refine wpQuiet_nil ?_
                rintro w5 rfl
                have a0 : ∀ x : Later w5, x.w.cell? ⟨g1, kk * 3, none⟩ = some (.int .i64 eK) := fun x => x.cell (TW.out.tr_cell ZK.out).1
                have a1 : ∀ x : Later w5, x.w.cell? ⟨g1, kk * 3 + 1, none⟩ = some (.int .i64 nK) := fun x => x.cell (TW.out.tr_cell ZK.out).2.1
                have a2 : ∀ x : Later w5, x.w.cell? ⟨g1, kk * 3 + 2, none⟩ = some (.int .i64 cK) := fun x => x.cell (TW.out.tr_cell ZK.out).2.2
                have b0 : ∀ x : Later w5, x.w.cell? ⟨g1, mm * 3, none⟩ = some (.int .i64 eM) := fun x => x.cell (TW.out.tr_cell ZM.out).1
                have b1 : ∀ x : Later w5, x.w.cell? ⟨g1, mm * 3 + 1, none⟩ = some (.int .i64 nM) := fun x => x.cell (TW.out.tr_cell ZM.out).2.1
                have b2 : ∀ x : Later w5, x.w.cell? ⟨g1, mm * 3 + 2, none⟩ = some (.int .i64 cM) := fun x => x.cell (TW.out.tr_cell ZM.out).2.2
                go_wp2_with fail
                refine wp_region_turn (C := fun w' => ∃ x : Later w5, w' = x.w) 16 _ (by kernel_rfl) (by kernel_rfl) rfl rfl ⟨⟨_, (Below.refl _ _).drew⟩, rfl⟩ ?_
                simp only [List.take_succ_cons, List.take_zero, List.drop_succ_cons, List.drop_zero]
                repeat (go_big_quiet_step (fail))
                refine wpQuiet_nil ?_
                intro wt hwt KK hKK
                have HK := hid hKK
                clear hKK
                obtain ⟨⟨wt, hbt⟩, rfl⟩ := hwt
                have TWt := hid (TW.out.still hbt)
                clear hbt TW a0 a1 a2 b0 b1 b2
                go_wp2_with fail
                refine (openx_g (e := eK) (n := nK) (c := cK) (by have := HB.out; omega) (by have := HB.out; omega) (by have := HB.out; omega) (by have := HB.out; omega) (SO.out kk _ ZK.out).1 G.out TWt.out).mono ?_
                rintro e w6 ⟨t6, er6, M6, hop6, hne6, rfl, h1, h2, h3⟩
                have e6 : (er6 == 0) = false := by simpa using hne6
                clear TWt
                have TW := hid h1
                replace G := hid h2
                replace SO := hid (SO.out.ext h3.1)
                replace NM := hid (show M6.length ≤ 120 + 27 * j by have := h3.2.2; have := NM.out; omega)
                clear h1 h2 h3 hop6 hne6
                go_wp2_with fail
                refine HK.out _ _ ⟨fun w' => w' = w6, rfl, ?_⟩
                clear HK
                repeat (go_big_quiet_step (fail))
                refine wpQuiet_nil ?_
                rintro w6 rfl
                go_wp2_with fail
                go_roundw
                case rel => exact ⟨j + 1, _, _, M6, (by have := HLT.out; omega), (by have := HLT.out; omega), by go_num, TW, G, SO, CO, hid (by have := NM.out; omega)⟩
                case measure => have := HLT.out; simp [intOf]; omega
            · have d1 : (eM != eK) = true := by simpa using f1
              have DF : Hid (¬ (eM = eK ∧ nM = nK)) := hid fun h => f1 h.1
              clear f1
              go_wp2_with fail
              refine wp_region_calm (by kernel_rfl) (by kernel_rfl) ?_
              repeat (go_big_quiet_step (fail))
              refine wpQuiet_nil ?_
              intro wc hwc
              obtain ⟨⟨wc, hbc⟩, rfl⟩ := hwc
              replace TW := hid (TW.out.still hbc)
              clear a0 a1 a2 b0 b1 b2 hbc
              have a0 : ∀ x : Later wc, x.w.cell? ⟨g1, kk * 3, none⟩ = some (.int .i64 eK) := fun x => x.cell (TW.out.tr_cell ZK.out).1
              have a1 : ∀ x : Later wc, x.w.cell? ⟨g1, kk * 3 + 1, none⟩ = some (.int .i64 nK) := fun x => x.cell (TW.out.tr_cell ZK.out).2.1
              have a2 : ∀ x : Later wc, x.w.cell? ⟨g1, kk * 3 + 2, none⟩ = some (.int .i64 cK) := fun x => x.cell (TW.out.tr_cell ZK.out).2.2
              have b0 : ∀ x : Later wc, x.w.cell? ⟨g1, mm * 3, none⟩ = some (.int .i64 eM) := fun x => x.cell (TW.out.tr_cell ZM.out).1
              have b1 : ∀ x : Later wc, x.w.cell? ⟨g1, mm * 3 + 1, none⟩ = some (.int .i64 nM) := fun x => x.cell (TW.out.tr_cell ZM.out).2.1
              have b2 : ∀ x : Later wc, x.w.cell? ⟨g1, mm * 3 + 2, none⟩ = some (.int .i64 cM) := fun x => x.cell (TW.out.tr_cell ZM.out).2.2
              go_wp2_with fail
              refine wp_region_turn (C := fun w' => ∃ x : Later wc, w' = x.w) 16 _ (by kernel_rfl) (by kernel_rfl) rfl rfl ⟨⟨_, (Below.refl _ _).drew⟩, rfl⟩ ?_
              simp only [List.take_succ_cons, List.take_zero, List.drop_succ_cons, List.drop_zero]
              repeat (go_big_quiet_step (fail))
              refine wpQuiet_nil ?_
              intro wt hwt KK hKK
              have HK := hid hKK
              clear hKK
              obtain ⟨⟨wt, hbt⟩, rfl⟩ := hwt
              have TWt := hid (TW.out.still hbt)
              clear hbt TW a0 a1 a2 b0 b1 b2
              go_wp2_with fail
              refine (open_g (e := eK) (n := nK) (c := cM) (by have := HB.out; omega) (by have := HB.out; omega) (by have := HB.out; omega) (by have := HB.out; omega) G.out TWt.out).mono ?_
              rintro e w5 ⟨t5, er5, y5, M5, hop5, rfl, h1, h2, h3, h4, h5, h6⟩
              have hne5 : er5 ≠ 0 := by
                have := open_no (m := 20000) (e := eK) (n := nK) G.out.g G.out.nc G.out.nc G.out.yo G.out.yr (SO.out mm _ ZM.out).1 (fun h => DF.out ⟨h.2.2.1, h.2.2.2⟩)
                rw [hop5] at this
                exact this
              have hy5 := h5 hne5
              subst hy5
              have e5 : (er5 == 0) = false := by simpa using hne5
              clear TWt
              have TW := hid h1
              replace G := hid h2
              replace SO := hid (SO.out.ext h3.1)
              replace NM := hid (show M5.length ≤ 111 + 27 * j by have := h3.2.2; have := NM.out; omega)
              clear h1 h2 h3 h4 h5 h6 hop5 hne5
              go_wp2_with fail
              refine HK.out _ _ ⟨fun w' => w' = w5, rfl, ?_⟩
              clear HK
              repeat (go_big_quiet_step (fail))
              refine wpQuiet_nil ?_
              rintro w5 rfl
              have a0 : ∀ x : Later w5, x.w.cell? ⟨g1, kk * 3, none⟩ = some (.int .i64 eK) := fun x => x.cell (TW.out.tr_cell ZK.out).1
              have a1 : ∀ x : Later w5, x.w.cell? ⟨g1, kk * 3 + 1, none⟩ = some (.int .i64 nK) := fun x => x.cell (TW.out.tr_cell ZK.out).2.1
              have a2 : ∀ x : Later w5, x.w.cell? ⟨g1, kk * 3 + 2, none⟩ = some (.int .i64 cK) := fun x => x.cell (TW.out.tr_cell ZK.out).2.2
              have b0 : ∀ x : Later w5, x.w.cell? ⟨g1, mm * 3, none⟩ = some (.int .i64 eM) := fun x => x.cell (TW.out.tr_cell ZM.out).1
              have b1 : ∀ x : Later w5, x.w.cell? ⟨g1, mm * 3 + 1, none⟩ = some (.int .i64 nM) := fun x => x.cell (TW.out.tr_cell ZM.out).2.1
              have b2 : ∀ x : Later w5, x.w.cell? ⟨g1, mm * 3 + 2, none⟩ = some (.int .i64 cM) := fun x => x.cell (TW.out.tr_cell ZM.out).2.2
              go_wp2_with fail
              refine wp_region_turn (C := fun w' => ∃ x : Later w5, w' = x.w) 16 _ (by kernel_rfl) (by kernel_rfl) rfl rfl ⟨⟨_, (Below.refl _ _).drew⟩, rfl⟩ ?_
              simp only [List.take_succ_cons, List.take_zero, List.drop_succ_cons, List.drop_zero]
              repeat (go_big_quiet_step (fail))
              refine wpQuiet_nil ?_
              intro wt hwt KK hKK
              have HK := hid hKK
              clear hKK
              obtain ⟨⟨wt, hbt⟩, rfl⟩ := hwt
              have TWt := hid (TW.out.still hbt)
              clear hbt TW a0 a1 a2 b0 b1 b2
              go_wp2_with fail
              refine (openx_g (e := eK) (n := nK) (c := cK) (by have := HB.out; omega) (by have := HB.out; omega) (by have := HB.out; omega) (by have := HB.out; omega) (SO.out kk _ ZK.out).1 G.out TWt.out).mono ?_
              rintro e w6 ⟨t6, er6, M6, hop6, hne6, rfl, h1, h2, h3⟩
              have e6 : (er6 == 0) = false := by simpa using hne6
              clear TWt
              have TW := hid h1
              replace G := hid h2
              replace SO := hid (SO.out.ext h3.1)
              replace NM := hid (show M6.length ≤ 120 + 27 * j by have := h3.2.2; have := NM.out; omega)
              clear h1 h2 h3 hop6 hne6
              go_wp2_with fail
              refine HK.out _ _ ⟨fun w' => w' = w6, rfl, ?_⟩
              clear HK
              repeat (go_big_quiet_step (fail))
              refine wpQuiet_nil ?_
              rintro w6 rfl
              go_wp2_with fail
              go_roundw
              case rel => exact ⟨j + 1, _, _, M6, (by have := HLT.out; omega), (by have := HLT.out; omega), by go_num, TW, G, SO, CO, hid (by have := NM.out; omega)⟩
              case measure => have := HLT.out; simp [intOf]; omega
          · have e1 : (er == 0) = false := by simpa using her
            have hy := h5 her
            subst hy
            clear her H4 H6 h5
            have a0 : ∀ x : Later w3, x.w.cell? ⟨g1, kk * 3, none⟩ = some (.int .i64 eK) := fun x => x.cell (TW.out.tr_cell ZK.out).1
            have a1 : ∀ x : Later w3, x.w.cell? ⟨g1, kk * 3 + 1, none⟩ = some (.int .i64 nK) := fun x => x.cell (TW.out.tr_cell ZK.out).2.1
            have a2 : ∀ x : Later w3, x.w.cell? ⟨g1, kk * 3 + 2, none⟩ = some (.int .i64 cK) := fun x => x.cell (TW.out.tr_cell ZK.out).2.2
            have b0 : ∀ x : Later w3, x.w.cell? ⟨g1, mm * 3, none⟩ = some (.int .i64 eM) := fun x => x.cell (TW.out.tr_cell ZM.out).1
            have b1 : ∀ x : Later w3, x.w.cell? ⟨g1, mm * 3 + 1, none⟩ = some (.int .i64 nM) := fun x => x.cell (TW.out.tr_cell ZM.out).2.1
            have b2 : ∀ x : Later w3, x.w.cell? ⟨g1, mm * 3 + 2, none⟩ = some (.int .i64 cM) := fun x => x.cell (TW.out.tr_cell ZM.out).2.2
            by_cases f1 : eM = eK
            · have d1 : (eM != eK) = false := by simpa using f1
              by_cases f2 : nM = nK
              · have d2 : (nM != nK) = false := by simpa using f2
                clear f1 f2
                go_wp2_with fail
                refine wp_region_calm (by kernel_rfl) (by kernel_rfl) ?_
                repeat (go_big_quiet_step (fail))
                refine wpQuiet_nil ?_
                intro wc hwc
                obtain ⟨⟨wc, hbc⟩, rfl⟩ := hwc
                replace TW := hid (TW.out.still hbc)
                clear a0 a1 a2 b0 b1 b2 hbc
                go_wp2_with fail
                go_roundw
                case rel => exact ⟨j + 1, _, _, M3, (by have := HLT.out; omega), (by have := HLT.out; omega), by go_num, TW, G, SO, CO, hid (by have := NM.out; omega)⟩
                case measure => have := HLT.out; simp [intOf]; omega
              · have d2 : (nM != nK) = true := by simpa using f2
                have DF : Hid (¬ (eM = eK ∧ nM = nK)) := hid fun h => f2 h.2
                clear f1 f2
                go_wp2_with fail
                refine wp_region_calm (by kernel_rfl) (by kernel_rfl) ?_
                repeat (go_big_quiet_step (fail))
                refine wpQuiet_nil ?_
                intro wc hwc
                obtain ⟨⟨wc, hbc⟩, rfl⟩ := hwc
                replace TW := hid (TW.out.still hbc)
                clear a0 a1 a2 b0 b1 b2 hbc
                have a0 : ∀ x : Later wc, x.w.cell? ⟨g1, kk * 3, none⟩ = some (.int .i64 eK) := fun x => x.cell (TW.out.tr_cell ZK.out).1
                have a1 : ∀ x : Later wc, x.w.cell? ⟨g1, kk * 3 + 1, none⟩ = some (.int .i64 nK) := fun x => x.cell (TW.out.tr_cell ZK.out).2.1
                have a2 : ∀ x : Later wc, x.w.cell? ⟨g1, kk * 3 + 2, none⟩ = some (.int .i64 cK) := fun x => x.cell (TW.out.tr_cell ZK.out).2.2
                have b0 : ∀ x : Later wc, x.w.cell? ⟨g1, mm * 3, none⟩ = some (.int .i64 eM) := fun x => x.cell (TW.out.tr_cell ZM.out).1
                have b1 : ∀ x : Later wc, x.w.cell? ⟨g1, mm * 3 + 1, none⟩ = some (.int .i64 nM) := fun x => x.cell (TW.out.tr_cell ZM.out).2.1
                have b2 : ∀ x : Later wc, x.w.cell? ⟨g1, mm * 3 + 2, none⟩ = some (.int .i64 cM) := fun x => x.cell (TW.out.tr_cell ZM.out).2.2
                go_wp2_with fail
                refine wp_region_turn (C := fun w' => ∃ x : Later wc, w' = x.w) 16 _ (by kernel_rfl) (by kernel_rfl) rfl rfl ⟨⟨_, (Below.refl _ _).drew⟩, rfl⟩ ?_
                simp only [List.take_succ_cons, List.take_zero, List.drop_succ_cons, List.drop_zero]
                repeat (go_big_quiet_step (fail))
                refine wpQuiet_nil ?_
                intro wt hwt KK hKK
                have HK := hid hKK
                clear hKK
                obtain ⟨⟨wt, hbt⟩, rfl⟩ := hwt
                have TWt := hid (TW.out.still hbt)
                clear hbt TW a0 a1 a2 b0 b1 b2
                go_wp2_with fail
                refine (open_g (e := eK) (n := nK) (c := cM) (by have := HB.out; omega) (by have := HB.out; omega) (by have := HB.out; omega) (by have := HB.out; omega) G.out TWt.out).mono ?_
                rintro e w5 ⟨t5, er5, y5, M5, hop5, rfl, h1, h2, h3, h4, h5, h6⟩
                have hne5 : er5 ≠ 0 := by
                  have := open_no (m := 20000) (e := eK) (n := nK) G.out.g G.out.nc G.out.nc G.out.yo G.out.yr (SO.out mm _ ZM.out).1 (fun h => DF.out ⟨h.2.2.1, h.2.2.2⟩)
                  rw [hop5] at this
                  exact this
                have hy5 := h5 hne5
                subst hy5
                have e5 : (er5 == 0) = false := by simpa using hne5
                clear TWt
                have TW := hid h1
                replace G := hid h2
                replace SO := hid (SO.out.ext h3.1)
                replace NM := hid (show M5.length ≤ 111 + 27 * j by have := h3.2.2; have := NM.out; omega)
                clear h1 h2 h3 h4 h5 h6 hop5 hne5
                go_wp2_with fail
                refine HK.out _ _ ⟨fun w' => w' = w5, rfl, ?_⟩
                clear HK
                repeat (go_big_quiet_step (fail))
                refine wpQuiet_nil ?_
                rintro w5 rfl
                have a0 : ∀ x : Later w5, x.w.cell? ⟨g1, kk * 3, none⟩ = some (.int .i64 eK) := fun x => x.cell (TW.out.tr_cell ZK.out).1
                have a1 : ∀ x : Later w5, x.w.cell? ⟨g1, kk * 3 + 1, none⟩ = some (.int .i64 nK) := fun x => x.cell (TW.out.tr_cell ZK.out).2.1
                have a2 : ∀ x : Later w5, x.w.cell? ⟨g1, kk * 3 + 2, none⟩ = some (.int .i64 cK) := fun x => x.cell (TW.out.tr_cell ZK.out).2.2
                have b0 : ∀ x : Later w5, x.w.cell? ⟨g1, mm * 3, none⟩ = some (.int .i64 eM) := fun x => x.cell (TW.out.tr_cell ZM.out).1
                have b1 : ∀ x : Later w5, x.w.cell? ⟨g1, mm * 3 + 1, none⟩ = some (.int .i64 nM) := fun x => x.cell (TW.out.tr_cell ZM.out).2.1
                have b2 : ∀ x : Later w5, x.w.cell? ⟨g1, mm * 3 + 2, none⟩ = some (.int .i64 cM) := fun x => x.cell (TW.out.tr_cell ZM.out).2.2
                go_wp2_with fail
                refine wp_region_turn (C := fun w' => ∃ x : Later w5, w' = x.w) 16 _ (by kernel_rfl) (by kernel_rfl) rfl rfl ⟨⟨_, (Below.refl _ _).drew⟩, rfl⟩ ?_
                simp only [List.take_succ_cons, List.take_zero, List.drop_succ_cons, List.drop_zero]
                repeat (go_big_quiet_step (fail))
                refine wpQuiet_nil ?_
                intro wt hwt KK hKK
                have HK := hid hKK
                clear hKK
                obtain ⟨⟨wt, hbt⟩, rfl⟩ := hwt
                have TWt := hid (TW.out.still hbt)
                clear hbt TW a0 a1 a2 b0 b1 b2
                go_wp2_with fail
                refine (openx_g (e := eK) (n := nK) (c := cK) (by have := HB.out; omega) (by have := HB.out; omega) (by have := HB.out; omega) (by have := HB.out; omega) (SO.out kk _ ZK.out).1 G.out TWt.out).mono ?_
                rintro e w6 ⟨t6, er6, M6, hop6, hne6, rfl, h1, h2, h3⟩
                have e6 : (er6 == 0) = false := by simpa using hne6
                clear TWt
                have TW := hid h1
                replace G := hid h2
                replace SO := hid (SO.out.ext h3.1)
                replace NM := hid (show M6.length ≤ 120 + 27 * j by have := h3.2.2; have := NM.out; omega)
                clear h1 h2 h3 hop6 hne6
                go_wp2_with fail
                refine HK.out _ _ ⟨fun w' => w' = w6, rfl, ?_⟩
                clear HK
                repeat (go_big_quiet_step (fail))
                refine wpQuiet_nil ?_
                rintro w6 rfl
                go_wp2_with fail
                go_roundw
                case rel => exact ⟨j + 1, _, _, M6, (by have := HLT.out; omega), (by have := HLT.out; omega), by go_num, TW, G, SO, CO, hid (by have := NM.out; omega)⟩
                case measure => have := HLT.out; simp [intOf]; omega
            · have d1 : (eM != eK) = true := by simpa using f1
              have DF : Hid (¬ (eM = eK ∧ nM = nK)) := hid fun h => f1 h.1
              clear f1
              go_wp2_with fail
              refine wp_region_calm (by kernel_rfl) (by kernel_rfl) ?_
              repeat (go_big_quiet_step (fail))
              refine wpQuiet_nil ?_
              intro wc hwc
              obtain ⟨⟨wc, hbc⟩, rfl⟩ := hwc
              replace TW := hid (TW.out.still hbc)
              clear a0 a1 a2 b0 b1 b2 hbc
              have a0 : ∀ x : Later wc, x.w.cell? ⟨g1, kk * 3, none⟩ = some (.int .i64 eK) := fun x => x.cell (TW.out.tr_cell ZK.out).1
              have a1 : ∀ x : Later wc, x.w.cell? ⟨g1, kk * 3 + 1, none⟩ = some (.int .i64 nK) := fun x => x.cell (TW.out.tr_cell ZK.out).2.1
              have a2 : ∀ x : Later wc, x.w.cell? ⟨g1, kk * 3 + 2, none⟩ = some (.int .i64 cK) := fun x => x.cell (TW.out.tr_cell ZK.out).2.2
              have b0 : ∀ x : Later wc, x.w.cell? ⟨g1, mm * 3, none⟩ = some (.int .i64 eM) := fun x => x.cell (TW.out.tr_cell ZM.out).1
              have b1 : ∀ x : Later wc, x.w.cell? ⟨g1, mm * 3 + 1, none⟩ = some (.int .i64 nM) := fun x => x.cell (TW.out.tr_cell ZM.out).2.1
              have b2 : ∀ x : Later wc, x.w.cell? ⟨g1, mm * 3 + 2, none⟩ = some (.int .i64 cM) := fun x => x.cell (TW.out.tr_cell ZM.out).2.2
              go_wp2_with fail
              refine wp_region_turn (C := fun w' => ∃ x : Later wc, w' = x.w) 16 _ (by kernel_rfl) (by kernel_rfl) rfl rfl ⟨⟨_, (Below.refl _ _).drew⟩, rfl⟩ ?_
              simp only [List.take_succ_cons, List.take_zero, List.drop_succ_cons, List.drop_zero]
              repeat (go_big_quiet_step (fail))
              refine wpQuiet_nil ?_
              intro wt hwt KK hKK
              have HK := hid hKK
              clear hKK
              obtain ⟨⟨wt, hbt⟩, rfl⟩ := hwt
              have TWt := hid (TW.out.still hbt)
              clear hbt TW a0 a1 a2 b0 b1 b2
              go_wp2_with fail
              refine (open_g (e := eK) (n := nK) (c := cM) (by have := HB.out; omega) (by have := HB.out; omega) (by have := HB.out; omega) (by have := HB.out; omega) G.out TWt.out).mono ?_
              rintro e w5 ⟨t5, er5, y5, M5, hop5, rfl, h1, h2, h3, h4, h5, h6⟩
              have hne5 : er5 ≠ 0 := by
                have := open_no (m := 20000) (e := eK) (n := nK) G.out.g G.out.nc G.out.nc G.out.yo G.out.yr (SO.out mm _ ZM.out).1 (fun h => DF.out ⟨h.2.2.1, h.2.2.2⟩)
                rw [hop5] at this
                exact this
              have hy5 := h5 hne5
              subst hy5
              have e5 : (er5 == 0) = false := by simpa using hne5
              clear TWt
              have TW := hid h1
              replace G := hid h2
              replace SO := hid (SO.out.ext h3.1)
              replace NM := hid (show M5.length ≤ 111 + 27 * j by have := h3.2.2; have := NM.out; omega)
              clear h1 h2 h3 h4 h5 h6 hop5 hne5
              go_wp2_with fail
              refine HK.out _ _ ⟨fun w' => w' = w5, rfl, ?_⟩
              clear HK
              repeat (go_big_quiet_step (fail))
              refine wpQuiet_nil ?_
              rintro w5 rfl
              have a0 : ∀ x : Later w5, x.w.cell? ⟨g1, kk * 3, none⟩ = some (.int .i64 eK) := fun x => x.cell (TW.out.tr_cell ZK.out).1
              have a1 : ∀ x : Later w5, x.w.cell? ⟨g1, kk * 3 + 1, none⟩ = some (.int .i64 nK) := fun x => x.cell (TW.out.tr_cell ZK.out).2.1
              have a2 : ∀ x : Later w5, x.w.cell? ⟨g1, kk * 3 + 2, none⟩ = some (.int .i64 cK) := fun x => x.cell (TW.out.tr_cell ZK.out).2.2
              have b0 : ∀ x : Later w5, x.w.cell? ⟨g1, mm * 3, none⟩ = some (.int .i64 eM) := fun x => x.cell (TW.out.tr_cell ZM.out).1
              have b1 : ∀ x : Later w5, x.w.cell? ⟨g1, mm * 3 + 1, none⟩ = some (.int .i64 nM) := fun x => x.cell (TW.out.tr_cell ZM.out).2.1
              have b2 : ∀ x : Later w5, x.w.cell? ⟨g1, mm * 3 + 2, none⟩ = some (.int .i64 cM) := fun x => x.cell (TW.out.tr_cell ZM.out).2.2
              go_wp2_with fail
              refine wp_region_turn (C := fun w' => ∃ x : Later w5, w' = x.w) 16 _ (by kernel_rfl) (by kernel_rfl) rfl rfl ⟨⟨_, (Below.refl _ _).drew⟩, rfl⟩ ?_
              simp only [List.take_succ_cons, List.take_zero, List.drop_succ_cons, List.drop_zero]
              repeat (go_big_quiet_step (fail))
              refine wpQuiet_nil ?_
              intro wt hwt KK hKK
              have HK := hid hKK
              clear hKK
              obtain ⟨⟨wt, hbt⟩, rfl⟩ := hwt
              have TWt := hid (TW.out.still hbt)
              clear hbt TW a0 a1 a2 b0 b1 b2
              go_wp2_with fail
              refine (openx_g (e := eK) (n := nK) (c := cK) (by have := HB.out; omega) (by have := HB.out; omega) (by have := HB.out; omega) (by have := HB.out; omega) (SO.out kk _ ZK.out).1 G.out TWt.out).mono ?_
              rintro e w6 ⟨t6, er6, M6, hop6, hne6, rfl, h1, h2, h3⟩
              have e6 : (er6 == 0) = false := by simpa using hne6
              clear TWt
              have TW := hid h1
              replace G := hid h2
              replace SO := hid (SO.out.ext h3.1)
              replace NM := hid (show M6.length ≤ 120 + 27 * j by have := h3.2.2; have := NM.out; omega)
              clear h1 h2 h3 hop6 hne6
              go_wp2_with fail
              refine HK.out _ _ ⟨fun w' => w' = w6, rfl, ?_⟩
              clear HK
              repeat (go_big_quiet_step (fail))
              refine wpQuiet_nil ?_
              rintro w6 rfl
              go_wp2_with fail
              go_roundw
              case rel => exact ⟨j + 1, _, _, M6, (by have := HLT.out; omega), (by have := HLT.out; omega), by go_num, TW, G, SO, CO, hid (by have := NM.out; omega)⟩
              case measure => have := HLT.out; simp [intOf]; omega
        · have hex2 : (decide ((j : Int) < (len2 : Int)) = false ∧ decide (j < len2) = false) ∨ (decide ((j : Int) < (len2 : Int)) = true ∧ decide (j < len2) = true ∧ decide ((j : Int) < 60) = false) ∨ (decide ((j : Int) < (len2 : Int)) = true ∧ decide (j < len2) = true ∧ decide ((j : Int) < 60) = true ∧ decide ((0 : Int) < (n : Int)) = false ∧ decide (0 < n) = false) := by
            by_cases h : j < len2
            · by_cases h' : j < 60
              · right; right; refine ⟨by simp; omega, by simp; omega, by simp; omega, by simp; omega, by simp; omega⟩
              · right; left; refine ⟨by simp; omega, by simp; omega, by simp; omega⟩
            · left; refine ⟨by simp; omega, by simp; omega⟩
          clear hlt hj hjl
          rcases hex2 with ⟨hd1, hd1'⟩ | ⟨hd1, hd1', hd2⟩ | ⟨hd1, hd1', hd2, hd3, hd3'⟩
          · go_wp2_with fail
            clear hd1 hd1'
            try clear hd2
            try clear hd3 hd3'
            go_loopw [24] (fun q wr => ∃ r : Nat, r ≤ n ∧ q = .int .i64 r ∧ Hid (Two W wr b pa pb x y M 20000 [RowR 55 3 (.slice (some ⟨g1, 0, none⟩) n c1) n (trC l), RowR 3 1 (.slice (some ⟨g2, 0, none⟩) n c2) n (nums .i64 cs)])) (fun q _ => n - (intOf q).toNat)
            case atStart => exact ⟨0, by omega, rfl, TW⟩
            case round =>
              clear TW
              obtain ⟨r, hr1, rfl, TW⟩ := hrel
              obtain ⟨w5, hw5⟩ : ∃ w5 : World, w5 = wr := ⟨_, rfl⟩
              rw [← hw5] at TW ⊢
              clear hw5 wr
              by_cases hlt : r < n
              · have hd1 : decide ((r : Int) < (n : Int)) = true := by simp; omega
                have hd1' : decide (r < n) = true := by simp; omega
                have z4 : IntKind.i64.wrap ((r : Int) + 1) = (r : Int) + 1 := IntWalk.i64_in _ (by have := NN.out; omega)
                obtain ⟨cc, hcc⟩ : ∃ u, cs[r]? = some u := ⟨cs[r]'(by rw [CO.out.1, ← HN.out]; exact hlt), List.getElem?_eq_getElem _⟩
                obtain ⟨s1, s2, s3⟩ := TW.out.turn.num_at hcc
                have hle := CO.out.le hcc
                have hd3 : decide (1 < cc) = false := by simp; omega
                have r0 : (0 : Int) ≤ (r : Int) := by omega
                have r1 : (r : Int) < (n : Int) := by omega
                have HLT := hid hlt
                clear hlt hr1 hcc hle
                go_wp2_with fail
                go_roundw
                case rel => exact ⟨r + 1, (by have := HLT.out; omega), by go_num, TW⟩
                case measure => have := HLT.out; simp [intOf]; omega
              · have hd1 : decide ((r : Int) < (n : Int)) = false := by simp; omega
                have hd1' : decide (r < n) = false := by simp; omega
                clear hlt hr1
                go_wp2_with fail
                refine (fixed19_calls _).mono ?_
                rintro e w6 ⟨rfl, h1⟩
                have T2 := hid (TW.out.below.trans (h1.mono TW.out.below.size))
                clear h1
                go_wp2_with fail
                go_ret
                exact ⟨rfl, T2.out⟩
          · go_wp2_with fail
            clear hd1 hd1'
            try clear hd2
            try clear hd3 hd3'
            go_loopw [24] (fun q wr => ∃ r : Nat, r ≤ n ∧ q = .int .i64 r ∧ Hid (Two W wr b pa pb x y M 20000 [RowR 55 3 (.slice (some ⟨g1, 0, none⟩) n c1) n (trC l), RowR 3 1 (.slice (some ⟨g2, 0, none⟩) n c2) n (nums .i64 cs)])) (fun q _ => n - (intOf q).toNat)
            case atStart => exact ⟨0, by omega, rfl, TW⟩
            case round =>
              clear TW
              obtain ⟨r, hr1, rfl, TW⟩ := hrel
              obtain ⟨w5, hw5⟩ : ∃ w5 : World, w5 = wr := ⟨_, rfl⟩
              rw [← hw5] at TW ⊢
              clear hw5 wr
              by_cases hlt : r < n
              · have hd1 : decide ((r : Int) < (n : Int)) = true := by simp; omega
                have hd1' : decide (r < n) = true := by simp; omega
                have z4 : IntKind.i64.wrap ((r : Int) + 1) = (r : Int) + 1 := IntWalk.i64_in _ (by have := NN.out; omega)
                obtain ⟨cc, hcc⟩ : ∃ u, cs[r]? = some u := ⟨cs[r]'(by rw [CO.out.1, ← HN.out]; exact hlt), List.getElem?_eq_getElem _⟩
                obtain ⟨s1, s2, s3⟩ := TW.out.turn.num_at hcc
                have hle := CO.out.le hcc
                have hd3 : decide (1 < cc) = false := by simp; omega
                have r0 : (0 : Int) ≤ (r : Int) := by omega
                have r1 : (r : Int) < (n : Int) := by omega
                have HLT := hid hlt
                clear hlt hr1 hcc hle
                go_wp2_with fail
                go_roundw
                case rel => exact ⟨r + 1, (by have := HLT.out; omega), by go_num, TW⟩
                case measure => have := HLT.out; simp [intOf]; omega
              · have hd1 : decide ((r : Int) < (n : Int)) = false := by simp; omega
                have hd1' : decide (r < n) = false := by simp; omega
                clear hlt hr1
                go_wp2_with fail
                refine (fixed19_calls _).mono ?_
                rintro e w6 ⟨rfl, h1⟩
                have T2 := hid (TW.out.below.trans (h1.mono TW.out.below.size))
                clear h1
                go_wp2_with fail
                go_ret
                exact ⟨rfl, T2.out⟩
          · go_wp2_with fail
            clear hd1 hd1'
            try clear hd2
            try clear hd3 hd3'
            go_loopw [24] (fun q wr => ∃ r : Nat, r ≤ n ∧ q = .int .i64 r ∧ Hid (Two W wr b pa pb x y M 20000 [RowR 55 3 (.slice (some ⟨g1, 0, none⟩) n c1) n (trC l), RowR 3 1 (.slice (some ⟨g2, 0, none⟩) n c2) n (nums .i64 cs)])) (fun q _ => n - (intOf q).toNat)
            case atStart => exact ⟨0, by omega, rfl, TW⟩
            case round =>
              clear TW
              obtain ⟨r, hr1, rfl, TW⟩ := hrel
              obtain ⟨w5, hw5⟩ : ∃ w5 : World, w5 = wr := ⟨_, rfl⟩
              rw [← hw5] at TW ⊢
              clear hw5 wr
              by_cases hlt : r < n
              · have hd1 : decide ((r : Int) < (n : Int)) = true := by simp; omega
                have hd1' : decide (r < n) = true := by simp; omega
                have z4 : IntKind.i64.wrap ((r : Int) + 1) = (r : Int) + 1 := IntWalk.i64_in _ (by have := NN.out; omega)
                obtain ⟨cc, hcc⟩ : ∃ u, cs[r]? = some u := ⟨cs[r]'(by rw [CO.out.1, ← HN.out]; exact hlt), List.getElem?_eq_getElem _⟩
                obtain ⟨s1, s2, s3⟩ := TW.out.turn.num_at hcc
                have hle := CO.out.le hcc
                have hd3 : decide (1 < cc) = false := by simp; omega
                have r0 : (0 : Int) ≤ (r : Int) := by omega
                have r1 : (r : Int) < (n : Int) := by omega
                have HLT := hid hlt
                clear hlt hr1 hcc hle
                go_wp2_with fail
                go_roundw
                case rel => exact ⟨r + 1, (by have := HLT.out; omega), by go_num, TW⟩
                case measure => have := HLT.out; simp [intOf]; omega
              · have hd1 : decide ((r : Int) < (n : Int)) = false := by simp; omega
                have hd1' : decide (r < n) = false := by simp; omega
                clear hlt hr1
                go_wp2_with fail
                refine (fixed19_calls _).mono ?_
                rintro e w6 ⟨rfl, h1⟩
                have T2 := hid (TW.out.below.trans (h1.mono TW.out.below.size))
                clear h1
                go_wp2_with fail
                go_ret
                exact ⟨rfl, T2.out⟩
theorem sessOnce_walk (ad : Option Addr) (len cap : Nat) (zs : List Int) (ad2 : Option Addr) (len2 cap2 : Nat) (zs2 : List Int) (W : World) (hlen : len = zs.length) (hmax : len ≤ maxLen) (hzs : NumsIn .u8 W ad zs) (hlen2 : len2 = zs2.length) (hmax2 : len2 ≤ maxLen) (hzs2 : NumsIn .u8 W ad2 zs2) :
    Calls Try.prog 10 #[.slice ad len cap, .slice ad2 len2 cap2] W fun e w' => e = .returned (.bool true) ∧ Below W.heap.size W w' :=
  (Nat.lt_or_ge 30 len).symm.elim (fun h => sessOnce_walkA ad len cap zs ad2 len2 cap2 zs2 W hlen hmax hzs hlen2 hmax2 hzs2 h) (fun h => sessOnce_walkB ad len cap zs ad2 len2 cap2 zs2 W hlen hmax hzs hlen2 hmax2 hzs2 h)
end Go.Proofs.Ytpcfmafokkffgaa
