/-
  A walk through the statement SessFar. For every number below 256.
-/
import Derived.Test.YtpcfmafokkffgaaZ12
namespace Go.Proofs.Ytpcfmafokkffgaa
open Go.RowKit

theorem far_get {ks : List Int} {k : Nat} (hl : ks.length = k) (h1 : 1 ≤ k) (h4 : k ≤ 4) :
    kGet (puts19 [] 0 0 0 ks) 0 = (⟨0, ks.getD 0 0, 0, 0⟩, true) ∧ (kKeys (puts19 [] 0 0 0 ks)).length = k ∧ ∀ a x y, (kKeys (kPut (puts19 [] 0 0 0 ks) ⟨0, a, x, y⟩).1).length = k := by
  subst hl
  match ks, h1, h4 with
  | [a], _, _ => exact ⟨by kernel_rfl, by kernel_rfl, fun _ _ _ => by kernel_rfl⟩
  | [a, b], _, _ => exact ⟨by kernel_rfl, by kernel_rfl, fun _ _ _ => by kernel_rfl⟩
  | [a, b, c], _, _ => exact ⟨by kernel_rfl, by kernel_rfl, fun _ _ _ => by kernel_rfl⟩
  | [a, b, c, d], _, _ => exact ⟨by kernel_rfl, by kernel_rfl, fun _ _ _ => by kernel_rfl⟩
theorem far_now {L : List T} {C m : Int} {r : Rc} (g : Good L) (hC : Non L C) (hr : RcOk r) (hv : Rv L C r) (h : r = ⟨r.ik, 0, 0, 0, []⟩) (hroom : (L.length : Int) + 9 ≤ m) :
    (recv19 m L r 0 1).2.2.1 = 0 ∧ (recv19 m L r 0 1).1 = ⟨r.ik, 0, 2, 1, []⟩ := by
  obtain ⟨h1, _, h2⟩ := late_first (k := 1) g hC hr hv h (Nat.le_refl _) hroom
  exact ⟨h1, h2⟩
theorem far_back {L : List T} {C m : Int} {r : Rc} (hC : Non L C) (hv : Rv L C r) (h : r = ⟨r.ik, 0, 2, 1, []⟩) (hroom : (L.length : Int) + 9 ≤ m) :
    (recv19 m L r 0 0).2.2.1 = 0 ∧ (kKeys (recv19 m L r 0 0).1.es).length = 0 := by
  have hie : r.ie = 0 := by rw [h]
  obtain ⟨k1, k2⟩ := recv_now (m := m) (n := 0) hC hv (by rw [h]; exact (by decide : wCan 2 1 0 = true)) (by omega)
  rw [hie] at k1 k2
  exact ⟨k1, by rw [k2, h]; rfl⟩
theorem far_first {L : List T} {C m : Int} {r : Rc} (hC : Non L C) (hv : Rv L C r) (h : r = ⟨r.ik, 0, 0, 0, []⟩) (hroom : (L.length : Int) + 9 ≤ m) :
    (recv19 m L r 0 0).2.2.1 = 0 ∧ (kKeys (recv19 m L r 0 0).1.es).length = 0 := by
  have hie : r.ie = 0 := by rw [h]
  obtain ⟨k1, k2⟩ := recv_now (m := m) (n := 0) hC hv (by rw [h]; exact (by decide : wCan 0 0 0 = true)) (by omega)
  rw [hie] at k1 k2
  exact ⟨k1, by rw [k2, h]; rfl⟩
theorem far_later {L : List T} {C m : Int} {r : Rc} {k : Nat} (g : Good L) (hC : Non L C) (hr : RcOk r) (hv : Rv L C r) (h : r = ⟨r.ik, 0, 0, 0, []⟩) (h1 : 1 ≤ k) (h4 : k ≤ 4) (hroom : (L.length : Int) + 9 ≤ m) :
    (recv19 m L r k 0).2.2.1 = 0 ∧ (recv19 m L r k 0).1.ie = k ∧ ∃ ks : List Int, ks.length = k ∧ (recv19 m L r k 0).1.es = puts19 [] 0 0 0 ks := by
  have hie : r.ie = 0 := by rw [h]
  obtain ⟨q, ks, k1, k2, k3⟩ := recv_later (m := m) (e := (k : Int)) (n := 0) g hC hr hv (by omega) (by omega) (by omega) (by omega) hroom
  refine ⟨k2, by rw [k3], ks, by omega, ?_⟩
  rw [k3, h]
theorem far_ago {L : List T} {m : Int} {r : Rc} {k : Nat} {ks : List Int} (hk : r.ie = k) (h1 : 1 ≤ k) (h4 : k ≤ 4) (hks : ks.length = k) (h : r.es = puts19 [] 0 0 0 ks) :
    (recv19 m L r 0 0).2.2.1 = 0 ∧ (kKeys (recv19 m L r 0 0).1.es).length = k := by
  obtain ⟨g1, g2, g3⟩ := far_get hks h1 h4
  obtain ⟨k1, k2⟩ := recv_ago (m := m) (L := L) (r := r) (e := 0) (n := 0) (by omega) (by rw [h]; exact g1) rfl
  exact ⟨k1, by rw [k2, h]; exact g3 _ _ _⟩

set_option maxRecDepth 100000 in
set_option maxHeartbeats 16000000 in
theorem sessFar_walk (x0 : Int) (b0 : 0 ≤ x0) (b0' : x0 ≤ 255) (W : World) :
    Calls Try.prog 13 #[.int .u8 x0] W fun e w' => e = .returned (.bool true) ∧ Below W.heap.size W w' := by
  obtain ⟨k, hk⟩ : ∃ k : Nat, x0 % 12 = k := ⟨(x0 % 12).toNat, by omega⟩
  obtain ⟨n2, hn2⟩ : ∃ n : Nat, 2 + k = n := ⟨_, rfl⟩
  have hk2 : k ≤ 11 := by omega
  have z0 : IntKind.i64.wrap x0 = x0 := IntWalk.i64_in _ (by omega)
  have z1 : x0.tmod 12 = k := (Int.tmod_eq_emod_of_nonneg b0).trans hk
  have z3 : IntKind.i64.wrap (k : Int) = k := IntWalk.i64_in _ (by omega)
  have z5 : IntKind.i64.wrap (2 + (k : Int)) = (n2 : Int) := (IntWalk.i64_in _ (by omega)).trans (by omega)
  have K2 := hid hk2
  have M2 := hid hn2
  clear b0 b0' hk2 hk hn2
  go_enter Try.func13, Try.ntmps13
  go_wp2_with fail
  refine (pair_two (W := W)).mono ?_
  rintro e w1 ⟨b, pa, pb, rfl, h1⟩
  have TW := hid h1
  have G := hid (good2_start h1.good)
  clear h1
  go_wp2_with fail
  refine (seal_g (s := ⟨#[102, 105, 114, 115, 116]⟩) (by decide) (by decide) (by decide) G.out TW.out).mono ?_
  rintro e w2 ⟨c0, L0, rfl, h1, h2, h3, h4, h5⟩
  clear TW G
  have TW := hid h1
  have G := hid h2
  have C0 := hid (show Sl L0 2 1 0 0 ⟨#[102, 105, 114, 115, 116]⟩ c0 from h3)
  have N0 := hid (show L0.length ≤ 6 from h5)
  clear h1 h2 h3 h4 h5
  go_wp2_with fail
  go_loopw [11] (fun q wr => ∃ (i : Nat) (x : Se) (L : List T), i ≤ k ∧ q = .int .i64 i ∧ Hid (Two W wr b pa pb x (se0 1 3 2 1) L 20000 []) ∧ Hid (Good2 L x (se0 1 3 2 1)) ∧ Hid (x.oe = i ∧ (i = 0 → x.sent = 1) ∧ (1 ≤ i → x.sent = 0) ∧ L.length ≤ 6 + i) ∧ Hid (Sl L 2 1 0 0 ⟨#[102, 105, 114, 115, 116]⟩ c0)) (fun q _ => 130 - (intOf q).toNat)
  case atStart => exact ⟨0, _, L0, by omega, rfl, TW, G, hid ⟨rfl, fun _ => rfl, fun h => by omega, N0.out⟩, C0⟩
  case round =>
    clear TW G C0 N0
    obtain ⟨i, x, L, hi, rfl, TW, G, S, C0⟩ := hrel
    obtain ⟨wl, hwl⟩ : ∃ wl : World, wl = wr := ⟨_, rfl⟩
    rw [← hwl] at TW ⊢
    clear hwl wr
    by_cases hlt : i < k
    · have hd1 : decide ((i : Int) < (k : Int)) = true := by simp; omega
      have z4 : IntKind.i64.wrap ((i : Int) + 1) = (i : Int) + 1 := IntWalk.i64_in _ (by have := K2.out; omega)
      have HLT := hid hlt
      clear hlt hi
      go_wp2_with fail
      refine (step_g (by have := S.out.1; have := HLT.out; have := K2.out; omega) (by have := S.out.2.2.2; have := HLT.out; have := K2.out; omega) G.out TW.out).mono ?_
      rintro e w2 ⟨kk, L', rfl, h1, h2, h3, h4⟩
      clear TW G
      have TW := hid h1
      have G := hid h2
      have C1 := hid (C0.out.ext h3)
      have N5 := hid h4
      clear h1 h2 h3 h4 C0
      go_wp2_with fail
      go_roundw
      case rel => exact ⟨i + 1, _, L', (by have := HLT.out; omega), by go_num, TW, G, hid ⟨by have := S.out.1; dsimp only; omega, fun h => by omega, fun _ => rfl, by have := S.out.2.2.2; have := N5.out; omega⟩, C1⟩
      case measure => have := HLT.out; have := K2.out; simp [intOf]; omega
    · obtain rfl : i = k := by omega
      have hd1 : decide ((i : Int) < (i : Int)) = false := by simp
      clear hlt hi
      rcases (show i = 0 ∨ (1 ≤ i ∧ i ≤ 4) ∨ 4 < i by omega) with hc | hc | hc
      · have hd2 : decide (4 < (i : Int)) = false := by simp; omega
        have HC := hid hc
        clear hc
        go_wp2_with fail
        refine (seal_g (s := ⟨#[102, 97, 114]⟩) (by decide) (by have := S.out.2.1; have := S.out.2.2.1; have := HC.out; omega) (by have := S.out.2.2.2; have := K2.out; omega) G.out TW.out).mono ?_
        rw [S.out.1, S.out.2.1 HC.out]
        rintro e w2 ⟨c, L1, rfl, h1, h2, h3, h4, h5⟩
        clear TW G
        have TW := hid h1
        have G := hid h2
        have D1 := hid h3
        have C1 := hid (C0.out.ext h4)
        have N9 : Hid (L1.length ≤ 200) := hid (by have := S.out.2.2.2; have := K2.out; omega)
        clear h1 h2 h3 h4 h5 C0
        go_wp2_with fail
        have hl := far_now (m := 20000) G.out.g G.out.nc G.out.yo.rc G.out.yr rfl (by have := N9.out; omega)
        have HL1 := hid hl
        clear hl
        refine (openl_g (t := ⟨#[102, 97, 114]⟩) (e := (i : Int)) (n := 1) (by omega) (by omega) (by have := K2.out; omega) D1.out (by rw [HC.out]; exact HL1.out.1) G.out TW.out).mono ?_
        rintro e w3 ⟨L2, rfl, h1, h2, h3, h4⟩
        clear TW G
        have TW := hid h1
        have G := hid h2
        have C2 := hid (C1.out.ext h3)
        have N8 : Hid (L2.length ≤ 300) := hid (by have := N9.out; omega)
        clear h1 h2 h3 h4 C1
        go_wp2_with fail
        obtain ⟨r1, hr1⟩ : ∃ r, (recv19 20000 L1 (se0 1 3 2 1).rc i 1).1 = r := ⟨_, rfl⟩
        have hr2 : r1 = ⟨r1.ik, 0, 2, 1, []⟩ := by rw [← hr1, HC.out]; have := HL1.out.2; rw [show ((0 : Nat) : Int) = 0 from rfl, this]
        rw [hr1] at TW G
        have HR := hid hr2
        clear hr1 hr2
        refine (now_two TW.out.swap).mono ?_
        dsimp only
        rw [show r1.ie = (i : Int) by rw [HR.out, HC.out]; rfl]
        rintro e w4 ⟨rfl, h1⟩
        clear TW
        have TW := hid h1.swap
        clear h1
        go_wp2_with fail
        have hl := far_back (m := 20000) G.out.nc G.out.yr HR.out (by have := N8.out; omega)
        have HL2 := hid hl
        clear hl
        refine (openl_g (t := ⟨#[102, 105, 114, 115, 116]⟩) (e := 0) (n := 0) (by omega) (by omega) (by omega) C2.out HL2.out.1 G.out TW.out).mono ?_
        rintro e w5 ⟨L3, rfl, h1, h2, h3, h4⟩
        clear TW G
        have TW := hid h1
        have G := hid h2
        clear h1 h2 h3 h4
        go_wp2_with fail
        refine (keys_two G.out.yo.rc.len TW.out.swap).mono ?_
        dsimp only
        rw [show 2 + (kKeys (recv19 20000 L2 r1 0 0).1.es).length = n2 by rw [HL2.out.2]; have := HC.out; have := M2.out; omega]
        rintro e w6 ⟨a2, c2, rfl, h1⟩
        clear TW
        have TW := hid h1
        clear h1
        go_wp2_with fail
        refine (fixed19_calls _).mono ?_
        rintro e w9 ⟨rfl, h1⟩
        have T2 := hid (TW.out.below.trans (h1.mono TW.out.below.size))
        clear h1
        go_wp2_with fail
        go_ret
        exact ⟨rfl, T2.out⟩
      · have hd2 : decide (4 < (i : Int)) = false := by simp; omega
        have HC := hid hc
        clear hc
        go_wp2_with fail
        refine (seal_g (s := ⟨#[102, 97, 114]⟩) (by decide) (by have := S.out.2.1; have := S.out.2.2.1; have := HC.out; omega) (by have := S.out.2.2.2; have := K2.out; omega) G.out TW.out).mono ?_
        rw [S.out.1, S.out.2.2.1 HC.out.1]
        rintro e w2 ⟨c, L1, rfl, h1, h2, h3, h4, h5⟩
        clear TW G
        have TW := hid h1
        have G := hid h2
        have D1 := hid h3
        have C1 := hid (C0.out.ext h4)
        have N9 : Hid (L1.length ≤ 200) := hid (by have := S.out.2.2.2; have := K2.out; omega)
        clear h1 h2 h3 h4 h5 C0
        go_wp2_with fail
        have hl := far_later (m := 20000) (k := i) G.out.g G.out.nc G.out.yo.rc G.out.yr rfl HC.out.1 HC.out.2 (by have := N9.out; omega)
        have HL1 := hid hl
        clear hl
        refine (openl_g (t := ⟨#[102, 97, 114]⟩) (e := (i : Int)) (n := 0) (by omega) (by omega) (by have := K2.out; omega) D1.out HL1.out.1 G.out TW.out).mono ?_
        rintro e w3 ⟨L2, rfl, h1, h2, h3, h4⟩
        clear TW G
        have TW := hid h1
        have G := hid h2
        have C2 := hid (C1.out.ext h3)
        have N8 : Hid (L2.length ≤ 300) := hid (by have := N9.out; omega)
        clear h1 h2 h3 h4 C1
        go_wp2_with fail
        obtain ⟨hl1, hl2, ks, hl3, hl4⟩ := HL1.out
        refine (now_two TW.out.swap).mono ?_
        dsimp only
        rw [hl2]
        rintro e w4 ⟨rfl, h1⟩
        clear TW
        have TW := hid h1.swap
        clear h1
        go_wp2_with fail
        have hl := far_ago (m := 20000) (L := L2) hl2 HC.out.1 HC.out.2 hl3 hl4
        have HL2 := hid hl
        clear hl
        refine (openl_g (t := ⟨#[102, 105, 114, 115, 116]⟩) (e := 0) (n := 0) (by omega) (by omega) (by omega) C2.out HL2.out.1 G.out TW.out).mono ?_
        rintro e w5 ⟨L3, rfl, h1, h2, h3, h4⟩
        clear TW G
        have TW := hid h1
        have G := hid h2
        clear h1 h2 h3 h4
        go_wp2_with fail
        refine (keys_two G.out.yo.rc.len TW.out.swap).mono ?_
        dsimp only
        rw [show 2 + (kKeys (recv19 20000 L2 (recv19 20000 L1 (se0 1 3 2 1).rc i 0).1 0 0).1.es).length = n2 by rw [HL2.out.2]; exact M2.out]
        rintro e w6 ⟨a2, c2, rfl, h1⟩
        clear TW
        have TW := hid h1
        clear h1
        go_wp2_with fail
        refine (fixed19_calls _).mono ?_
        rintro e w9 ⟨rfl, h1⟩
        have T2 := hid (TW.out.below.trans (h1.mono TW.out.below.size))
        clear h1
        go_wp2_with fail
        go_ret
        exact ⟨rfl, T2.out⟩
      · have hd2 : decide (4 < (i : Int)) = true := by simp; omega
        have HC := hid hc
        clear hc
        go_wp2_with fail
        refine (seal_g (s := ⟨#[102, 97, 114]⟩) (by decide) (by have := S.out.2.1; have := S.out.2.2.1; have := HC.out; omega) (by have := S.out.2.2.2; have := K2.out; omega) G.out TW.out).mono ?_
        rw [S.out.1, S.out.2.2.1 (by have := HC.out; omega)]
        rintro e w2 ⟨c, L1, rfl, h1, h2, h3, h4, h5⟩
        clear TW G
        have TW := hid h1
        have G := hid h2
        have D1 := hid h3
        have C1 := hid (C0.out.ext h4)
        have N9 : Hid (L1.length ≤ 200) := hid (by have := S.out.2.2.2; have := K2.out; omega)
        clear h1 h2 h3 h4 h5 C0
        go_wp2_with fail
        refine (opene_g (e := (i : Int)) (n := 0) (er := 13) D1.out.inn (by omega) (by have := K2.out; omega) (by omega) (by omega) (by rw [recv_far (by have := HC.out; simp [se0]; omega)]) (by decide) G.out TW.out).mono ?_
        rintro e w3 ⟨L2, rfl, h1, h2, h3, h4⟩
        clear TW G
        have TW := hid h1
        have G := hid h2
        have C2 := hid (C1.out.ext h3)
        have N8 : Hid (L2.length ≤ 300) := hid (by have := N9.out; omega)
        clear h1 h2 h3 h4 C1
        go_wp2_with fail
        refine (now_two TW.out.swap).mono ?_
        rw [show (se0 1 3 2 1).rc.ie = 0 from rfl]
        rintro e w4 ⟨rfl, h1⟩
        clear TW
        have TW := hid h1.swap
        clear h1
        go_wp2_with fail
        have hl := far_first (m := 20000) G.out.nc G.out.yr rfl (by have := N8.out; omega)
        have HL2 := hid hl
        clear hl
        refine (openl_g (t := ⟨#[102, 105, 114, 115, 116]⟩) (e := 0) (n := 0) (by omega) (by omega) (by omega) C2.out HL2.out.1 G.out TW.out).mono ?_
        rintro e w5 ⟨L3, rfl, h1, h2, h3, h4⟩
        clear TW G
        have TW := hid h1
        have G := hid h2
        clear h1 h2 h3 h4
        go_wp2_with fail
        refine (keys_two G.out.yo.rc.len TW.out.swap).mono ?_
        dsimp only
        rw [HL2.out.2]
        rintro e w6 ⟨a2, c2, rfl, h1⟩
        clear TW
        have TW := hid h1
        clear h1
        go_wp2_with fail
        refine (fixed19_calls _).mono ?_
        rintro e w9 ⟨rfl, h1⟩
        have T2 := hid (TW.out.below.trans (h1.mono TW.out.below.size))
        clear h1
        go_wp2_with fail
        go_ret
        exact ⟨rfl, T2.out⟩
end Go.Proofs.Ytpcfmafokkffgaa
