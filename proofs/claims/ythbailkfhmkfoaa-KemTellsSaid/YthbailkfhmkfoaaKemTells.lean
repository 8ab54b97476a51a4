/-
  KemTells returns true, and writes nothing that was there. For every input.
-/
import Derived.Test.YthbailkfhmkfoaaRKem
import Derived.Test.YthbailkfhmkfoaaKem
import Derived.Test.YthbailkfhmkfoaaTurn
import Derived.Test.YthbailkfhmkfoaaSame
import Derived.Test.YthbailkfhmkfoaaFixD
import Derived.Test.YthbailkfhmkfoaaArgsC
namespace Go.Proofs.Ythbailkfhmkfoaa
open Go.RowKit

set_option maxRecDepth 100000 in
set_option maxHeartbeats 16000000 in
theorem kemTells_walk (ad : Option Addr) (len cap : Nat) (ts : List T) (ad2 : Option Addr) (len2 cap2 : Nat) (zs : List (List Int)) (W : World) (hlen : len = ts.length) (hmax : len ≤ maxLen) (hts : TermsIn W ad ts)
    (hlen2 : len2 = zs.length) (hmax2 : len2 ≤ maxLen) (hzs : RowsIn 2 .i64 W ad2 zs) :
    Calls Try.prog 3 #[.slice ad len cap, .slice ad2 len2 cap2] W fun e w' => e = .returned (.bool true) ∧ Below W.heap.size W w' := by
  have Hlen := hid hlen
  have Hts := hid hts
  have Hmax := hid hmax
  have Hlen2 := hid hlen2
  have Hzs := hid hzs
  clear hts hlen hmax hlen2 hzs
  unfold maxLen at hmax2
  go_enter Try.func3, Try.ntmps3
  go_wp2_with fail
  refine (stores_calls (Hd.refl W) ad len cap ts Hlen.out Hmax.out Hts.out 30 (by decide)).mono ?_
  rintro e w1 ⟨b, b', L0, rfl, hg, hl, hd⟩
  have H0 := hid hd
  clear hd hg hl
  go_wp2_with fail
  go_loopw [7] (fun i wr => ∃ j : Nat, j ≤ len2 ∧ i = .int .i64 j ∧ ∃ L : List T, Hid (Hd W wr [Sto b L 1000, RSto b' L 1000])) (fun i _ => len2 - (intOf i).toNat)
  case atStart => exact ⟨0, Nat.zero_le _, rfl, L0, H0⟩
  case round =>
    obtain ⟨j, hj, rfl, L, H⟩ := hrel
    clear H0
    by_cases hlt : j < len2 ∧ j < 20
    · have hd1 : decide (j < len2) = true := by simpa using hlt.1
      have hd2 : decide ((j : Int) < 20) = true := by simp; omega
      obtain ⟨z, hz⟩ : ∃ z, zs[j]? = some z := ⟨zs[j]'(by rw [← Hlen2.out]; exact hlt.1), List.getElem?_eq_getElem _⟩
      obtain ⟨hzl, hzr, g, o, rfl, hc⟩ := Hzs.out j z hz
      obtain ⟨u, v, rfl⟩ : ∃ u v, z = [u, v] := by
        match z, hzl with
        | [u, v], _ => exact ⟨u, v, rfl⟩
      have k0 := hc 0 u rfl
      have k1 := hc 1 v rfl
      simp only [Nat.add_zero] at k0
      have kb := World.block_lt_of_cell? W _ k0
      have hB : ∀ wx, Below W.heap.size W wx → wx.cell? ⟨g, o + j * 2, none⟩ = some (.int .i64 u) ∧ wx.cell? ⟨g, o + j * 2 + 1, none⟩ = some (.int .i64 v) := fun wx hb => ⟨(hb.cell (p := ⟨g, o + j * 2, none⟩) kb).trans k0, (hb.cell (p := ⟨g, o + j * 2 + 1, none⟩) kb).trans k1⟩
      have HB := hid hB
      have hj0 : (0 : Int) ≤ (j : Int) := by omega
      have hj1 : (j : Int) < (len2 : Int) := by omega
      clear hc hz hzl hzr hB hlt kb k0 k1
      obtain ⟨c0, c1⟩ := HB.out _ H.out.below
      go_wp2_with fail
      refine (kpub_calls u H.out).mono ?_
      obtain ⟨p1, e1, L1, hq⟩ : ∃ p1 e1 L1, put 1000 L (kpuT u) = (p1, e1, L1) := ⟨_, _, _, rfl⟩
      rw [hq]
      have Hq := hid hq
      clear hq
      rintro e wa2 ⟨rfl, h4⟩
      replace H := hid h4.swap
      clear h4 c0 c1
      obtain ⟨c0, c1⟩ := HB.out _ H.out.below
      go_wp2_with fail
      refine (rkpub_calls u H.out).mono ?_
      rw [Hq.out]
      clear Hq
      rintro e wb2 ⟨rfl, h4⟩
      replace H := hid h4.swap
      clear h4 c0 c1
      go_wp2_with fail
      have c0 : ∀ x : Later wb2, x.w.cell? ⟨g, o + j * 2, none⟩ = some (.int .i64 u) := fun x => (HB.out _ (H.out.still x.below).below).1
      have c1 : ∀ x : Later wb2, x.w.cell? ⟨g, o + j * 2 + 1, none⟩ = some (.int .i64 v) := fun x => (HB.out _ (H.out.still x.below).below).2
      refine wp_region_turn (C := fun w' => ∃ x : Later wb2, w' = x.w) 11 _ (by kernel_rfl) (by kernel_rfl) rfl rfl ⟨⟨_, (Below.refl _ _).drew⟩, rfl⟩ ?_
      simp only [List.take_succ_cons, List.take_zero, List.drop_succ_cons, List.drop_zero]
      repeat (go_big_quiet_step (fail))
      refine wpQuiet_nil ?_
      intro wt hwt K hK
      have HK := hid hK
      clear hK
      obtain ⟨⟨wt, hbt⟩, rfl⟩ := hwt
      replace H := hid (H.out.still hbt)
      clear hbt c0 c1
      go_wp2_with fail
      refine (wrap_calls u v H.out).mono ?_
      obtain ⟨p2, q2, e2, L2, hq⟩ : ∃ p2 q2 e2 L2, wrap4 1000 L1 u v = (p2, q2, e2, L2) := ⟨_, _, _, _, rfl⟩
      rw [hq]
      have Hq := hid hq
      clear hq
      rintro e wa3 ⟨rfl, h4⟩
      replace H := hid h4.swap
      clear h4
      go_wp2_with fail
      refine HK.out _ _ ⟨fun w' => w' = wa3, rfl, ?_⟩
      clear HK
      repeat (go_big_quiet_step (fail))
      refine wpQuiet_nil ?_
      rintro wa3 rfl
      go_wp2_with fail
      have c0 : ∀ x : Later wa3, x.w.cell? ⟨g, o + j * 2, none⟩ = some (.int .i64 u) := fun x => (HB.out _ (H.out.still x.below).below).1
      have c1 : ∀ x : Later wa3, x.w.cell? ⟨g, o + j * 2 + 1, none⟩ = some (.int .i64 v) := fun x => (HB.out _ (H.out.still x.below).below).2
      refine wp_region_turn (C := fun w' => ∃ x : Later wa3, w' = x.w) 11 _ (by kernel_rfl) (by kernel_rfl) rfl rfl ⟨⟨_, (Below.refl _ _).drew⟩, rfl⟩ ?_
      simp only [List.take_succ_cons, List.take_zero, List.drop_succ_cons, List.drop_zero]
      repeat (go_big_quiet_step (fail))
      refine wpQuiet_nil ?_
      intro wt hwt K hK
      have HK := hid hK
      clear hK
      obtain ⟨⟨wt, hbt⟩, rfl⟩ := hwt
      replace H := hid (H.out.still hbt)
      clear hbt c0 c1
      go_wp2_with fail
      refine (rwrap_calls u v H.out).mono ?_
      rw [Hq.out]
      clear Hq
      rintro e wb3 ⟨rfl, h4⟩
      replace H := hid h4.swap
      clear h4
      go_wp2_with fail
      refine HK.out _ _ ⟨fun w' => w' = wb3, rfl, ?_⟩
      clear HK
      repeat (go_big_quiet_step (fail))
      refine wpQuiet_nil ?_
      rintro wb3 rfl
      go_wp2_with fail
      have c0 : ∀ x : Later wb3, x.w.cell? ⟨g, o + j * 2, none⟩ = some (.int .i64 u) := fun x => (HB.out _ (H.out.still x.below).below).1
      have c1 : ∀ x : Later wb3, x.w.cell? ⟨g, o + j * 2 + 1, none⟩ = some (.int .i64 v) := fun x => (HB.out _ (H.out.still x.below).below).2
      refine wp_region_turn (C := fun w' => ∃ x : Later wb3, w' = x.w) 11 _ (by kernel_rfl) (by kernel_rfl) rfl rfl ⟨⟨_, (Below.refl _ _).drew⟩, rfl⟩ ?_
      simp only [List.take_succ_cons, List.take_zero, List.drop_succ_cons, List.drop_zero]
      repeat (go_big_quiet_step (fail))
      refine wpQuiet_nil ?_
      intro wt hwt K hK
      have HK := hid hK
      clear hK
      obtain ⟨⟨wt, hbt⟩, rfl⟩ := hwt
      replace H := hid (H.out.still hbt)
      clear hbt c0 c1
      go_wp2_with fail
      refine (kopen_calls u v H.out).mono ?_
      obtain ⟨p3, e3, L3, hq⟩ : ∃ p3 e3 L3, open4 1000 L2 u v = (p3, e3, L3) := ⟨_, _, _, rfl⟩
      rw [hq]
      have Hq := hid hq
      clear hq
      rintro e wa4 ⟨rfl, h4⟩
      replace H := hid h4.swap
      clear h4
      go_wp2_with fail
      refine HK.out _ _ ⟨fun w' => w' = wa4, rfl, ?_⟩
      clear HK
      repeat (go_big_quiet_step (fail))
      refine wpQuiet_nil ?_
      rintro wa4 rfl
      go_wp2_with fail
      have c0 : ∀ x : Later wa4, x.w.cell? ⟨g, o + j * 2, none⟩ = some (.int .i64 u) := fun x => (HB.out _ (H.out.still x.below).below).1
      have c1 : ∀ x : Later wa4, x.w.cell? ⟨g, o + j * 2 + 1, none⟩ = some (.int .i64 v) := fun x => (HB.out _ (H.out.still x.below).below).2
      refine wp_region_turn (C := fun w' => ∃ x : Later wa4, w' = x.w) 11 _ (by kernel_rfl) (by kernel_rfl) rfl rfl ⟨⟨_, (Below.refl _ _).drew⟩, rfl⟩ ?_
      simp only [List.take_succ_cons, List.take_zero, List.drop_succ_cons, List.drop_zero]
      repeat (go_big_quiet_step (fail))
      refine wpQuiet_nil ?_
      intro wt hwt K hK
      have HK := hid hK
      clear hK
      obtain ⟨⟨wt, hbt⟩, rfl⟩ := hwt
      replace H := hid (H.out.still hbt)
      clear hbt c0 c1
      go_wp2_with fail
      refine (rkopen_calls u v H.out).mono ?_
      rw [Hq.out]
      clear Hq
      rintro e wb4 ⟨rfl, h4⟩
      replace H := hid h4.swap
      clear h4
      go_wp2_with fail
      refine HK.out _ _ ⟨fun w' => w' = wb4, rfl, ?_⟩
      clear HK
      repeat (go_big_quiet_step (fail))
      refine wpQuiet_nil ?_
      rintro wb4 rfl
      go_wp2_with fail
      go_roundw
      case rel => exact ⟨j + 1, by omega, by go_num, L3, H⟩
      case measure => simp [intOf]; omega
    · have hex : decide (j < len2) = false ∨ (decide (j < len2) = true ∧ decide ((j : Int) < 20) = false) := by
        by_cases h : j < len2
        · right; exact ⟨by simpa using h, by simp; omega⟩
        · left; simpa using h
      clear hlt
      rcases hex with hd1 | ⟨hd1, hd2⟩
      all_goals
        go_wp2_with fail
        refine (same2_calls H.out).mono ?_
        rintro e w2 ⟨rfl, hb2⟩
        have H2 := hid (H.out.still hb2)
        clear hb2
        go_wp2_with fail
        refine (fixed4_calls H2.out).mono ?_
        rintro e w' ⟨rfl, h5⟩
        have H5 := hid h5
        clear h5
        go_wp2_with fail
        go_ret
        exact ⟨rfl, H5.out.below⟩
end Go.Proofs.Ythbailkfhmkfoaa
