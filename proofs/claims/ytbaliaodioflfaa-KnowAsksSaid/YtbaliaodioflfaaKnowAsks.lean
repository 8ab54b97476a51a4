/-
  KnowAsks returns true, and writes nothing that was there. For every input.
-/
import Derived.Test.YtbaliaodioflfaaFixK
import Derived.Test.YtbaliaodioflfaaStores
import Derived.Test.YtbaliaodioflfaaKnowZ
namespace Go.Proofs.Ytbaliaodioflfaa
open Go.RowKit

set_option maxRecDepth 100000 in
set_option maxHeartbeats 32000000 in
theorem knowAsks_walk (ad : Option Addr) (len cap : Nat) (ts : List T) (ad2 : Option Addr) (len2 cap2 : Nat) (zs : List Int) (nm : Int) (nm0 : 0 ≤ nm) (nm1 : nm ≤ 255) (W : World) (hlen : len = ts.length) (hmax : len ≤ maxLen) (hts : TermsIn W ad ts) (hlen2 : len2 = zs.length) (hmax2 : len2 ≤ maxLen) (hzs : NumsIn .u8 W ad2 zs) :
    Calls Try.prog 14 #[.slice ad len cap, .slice ad2 len2 cap2, .int .u8 nm] W fun e w' => e = .returned (.bool true) ∧ Below W.heap.size W w' := by
  have Hlen := hid hlen
  have Hts := hid hts
  have Hmax := hid hmax
  have Hlen2 := hid hlen2
  have Hzs := hid hzs
  have hm2 : len2 ≤ 9223372036854775807 := by unfold maxLen at hmax2; exact hmax2
  clear hts hlen hmax hlen2 hzs hmax2
  go_enter Try.func14, Try.ntmps14
  go_wp2_with fail
  refine (stores_calls (Hd.refl W) ad len cap ts Hlen.out Hmax.out Hts.out 30 (by decide)).mono ?_
  rintro e w1 ⟨b, b', L, rfl, hg, hl, hd⟩
  have H := hid (hd.un2)
  have hgd := hid hg
  have hl40 : L.length ≤ 30 := by omega
  clear hd hg hl
  go_wp2_with fail
  refine (len_at H.out).mono ?_
  rintro e w' ⟨rfl, rfl⟩
  by_cases hL : L.length = 0
  · have e0 : ((L.length : Int) == 0) = true := by simp [hL]
    have e1 : (L.length == 0) = true := by simp [hL]
    clear hL
    go_wp2_with fail
    refine (fixed8_calls H.out).mono ?_
    rintro e w' ⟨rfl, h5⟩
    have H5 := hid h5
    clear h5
    go_wp2_with fail
    go_ret
    exact ⟨rfl, H5.out.below⟩
  have e0 : ((L.length : Int) == 0) = false := by simpa using hL
  have e1 : (L.length == 0) = false := by simpa using hL
  have hL1 : 1 ≤ L.length := by omega
  clear hL
  go_wp2_with fail
  have H2 := hid (H.out.row_new (E := 3)).swap
  clear H e0 e1
  go_loopw [9, 10] (fun v i wr => ∃ j : Nat, j ≤ len2 ∧ j ≤ 10 ∧ i = .int .i64 j ∧ ∃ (kad : Option Addr) (kcap : Nat) (ks : List Int), v = .slice kad j kcap ∧ Hid (∀ x ∈ ks, 1 ≤ x ∧ x ≤ L.length) ∧ Hid (Hd W wr (Sto b L 1000 :: RowR 3 1 (.slice kad j kcap) j (nums .i64 ks) :: []))) (fun _ i _ => len2 - (intOf i).toNat)
  case atStart => exact ⟨0, Nat.zero_le _, Nat.zero_le _, rfl, _, _, [], rfl, hid (by simp), H2⟩
  case round =>
    clear H2
    obtain ⟨j, hj, hj10, rfl, kad, kcap, ks, rfl, KI, H⟩ := hrel
    by_cases hlt : j < len2 ∧ j < 10
    · have hd1 : decide ((j : Int) < (len2 : Int)) = true := by simp; omega
      have hd1' : decide (j < len2) = true := by simp; omega
      have hd2 : decide ((j : Int) < 10) = true := by simp; omega
      obtain ⟨z, hz⟩ : ∃ z, zs[j]? = some z := ⟨zs[j]'(by rw [← Hlen2.out]; exact hlt.1), List.getElem?_eq_getElem _⟩
      obtain ⟨z0, z1, gg, oo, rfl, hc0⟩ := (Hzs.out.later H.out.below) j z hz
      have z0' : 0 ≤ z := by simpa [IntKind.min, IntKind.signed] using z0
      have z1' : z ≤ 255 := by simpa [IntKind.max, IntKind.signed, IntKind.bits] using z1
      have zj0 : (0 : Int) ≤ (j : Int) := by omega
      have zj1 : (j : Int) < (len2 : Int) := by omega
      have Hc0 := hid hc0
      clear hz z0 z1 hc0
      go_wp2_with fail
      refine grow_region (s0 := 45) (tk := 9) (tn := 1) (ti := 10) (ts := 7) (by kernel_rfl) (by kernel_rfl) (by kernel_rfl) (by kernel_rfl) (by kernel_rfl) (by simp) (by decide) rfl rfl rfl rfl hlt.1 (by omega) Hc0.out z0' z1' hL1 (by omega) H.out ?_
      intro f g3 c3 w3 hf h3
      have H3 := hid h3
      simp only [patchG, Nat.reduceAdd, Nat.reduceLeDiff, Nat.reduceBEq, decide_true, decide_false, Bool.and_true, Bool.and_false, Bool.or_true, Bool.or_false, cond_true, cond_false, hf]
      clear h3 hf H
      generalize f 45 = f45
      generalize f 46 = f46
      generalize f 47 = f47
      generalize f 48 = f48
      generalize f 49 = f49
      generalize f 50 = f50
      generalize f 51 = f51
      generalize f 52 = f52
      generalize f 53 = f53
      generalize f 54 = f54
      generalize f 55 = f55
      generalize f 56 = f56
      clear f
      have KI3 : Hid (∀ x ∈ ks ++ [1 + z % (L.length : Int)], 1 ≤ x ∧ x ≤ L.length) := hid fun x hx => by
        rcases List.mem_append.1 hx with hx | hx
        · exact KI.out x hx
        · have h1 := Int.emod_nonneg z (show (L.length : Int) ≠ 0 by omega)
          have h2 := Int.emod_lt_of_pos z (show (0 : Int) < (L.length : Int) by omega)
          simp only [List.mem_singleton] at hx
          omega
      clear KI Hc0
      go_wp2_with fail
      go_roundw
      case rel => exact ⟨j + 1, by omega, by omega, by go_num, _, _, _, rfl, KI3, H3⟩
      case measure => simp [intOf]; omega
    · have hex : (decide ((j : Int) < (len2 : Int)) = false ∧ decide (j < len2) = false) ∨ (decide ((j : Int) < (len2 : Int)) = true ∧ decide (j < len2) = true ∧ decide ((j : Int) < 10) = false) := by
        by_cases h : j < len2
        · right; refine ⟨by simp; omega, by simp; omega, by simp; omega⟩
        · left; refine ⟨by simp; omega, by simp; omega⟩
      clear hlt
      obtain ⟨wo, hwo⟩ : ∃ wo : World, wo = wr := ⟨_, rfl⟩
      rw [← hwo] at H ⊢
      clear hwo wr
      rcases hex with ⟨hd1, hd1'⟩ | ⟨hd1, hd1', hd2⟩
      · go_wp2_with fail
        refine (all_c _ _ kad kcap KI.out (Hd.perm (List.Perm.cons _ (List.perm_middle (l₁ := [_]))) H.out.bx)).mono ?_
        generalize (bits .and .u8 nm 1 == 1) = d1
        generalize (bits .and .u8 nm 2 == 2) = d2
        generalize wo.heap.size = fb
        rintro e w101 ⟨u_a, rfl, hq⟩
        clear H
        have H := hid (Hd.perm (List.Perm.cons _ (List.perm_middle (l₁ := [_]))) hq.swap)
        clear hq
        obtain ⟨A, hA⟩ : ∃ A, allOf L d1 d2 (fun x => x ∈ ks) = A := ⟨_, rfl⟩
        rw [hA] at H
        have HA := hid hA
        have lA : A.length ≤ 40 := by rw [← hA]; exact Nat.le_trans allOf_len (by omega)
        clear hA
        obtain ⟨d_a, c_a, rfl, _, _, _⟩ := Hd.row_at H.out.drop.drop
        go_wp2_with fail
        go_loopw [14] (fun i wr => ∃ z : Int, -1 ≤ z ∧ z ≤ L.length + 2 ∧ i = .int .i64 z ∧ Hid (Hd W wr (Sto b L 1000 :: RowR 3 1 (.slice kad j kcap) j (nums .i64 ks) :: RowR 3 1 (.slice d_a A.length c_a) A.length (nums .i64 A) :: Blk fb (.cells #[.bool d1, .bool d2] 62 (0, 0)) :: []))) (fun i _ => (L.length + 3 - intOf i).toNat)
        case atStart => exact ⟨-1, by omega, by omega, rfl, H⟩
        case round =>
          clear H
          obtain ⟨z, z0, z1, rfl, H⟩ := hrel
          obtain ⟨w2, hw2⟩ : ∃ wo : World, wo = wr := ⟨_, rfl⟩
          rw [← hw2] at H ⊢
          clear hw2 wr
          by_cases hz : z ≤ (L.length : Int) + 1
          · have g1 : decide (z ≤ (L.length : Int) + 1) = true := by simpa using hz
            have g2 : decide (z < 40) = true := by simp; omega
            have hk := H.out.drop.drop.drop.blk
            have F0 := (cell_of_heap hk 0).trans (show _ = some (.bool d1) from rfl)
            have F1 := (cell_of_heap hk 1).trans (show _ = some (.bool d2) from rfl)
            have Ff := frozen_of_heap hk
            have Fl := (Array.getElem?_eq_some_iff.1 hk).1
            clear hk
            go_wp2_with fail
            refine (len_at H.out).mono ?_
            rintro e w' ⟨rfl, rfl⟩
            go_wp2_with fail
            by_cases hin : 1 ≤ z ∧ z ≤ (L.length : Int)
            · refine (can_c d1 d2 z kad kcap KI.out hin H.out).mono ?_
              rintro e w4 ⟨p, rfl, hp, h4⟩
              clear H F0 F1 Ff Fl
              have H := hid h4
              have B1 : Hid (withinB [z] A = p) := hid (by rw [withinB_one, ← HA.out]; rw [Bool.eq_iff_iff, hp, decide_eq_true_iff, mem_allOf]; exact ⟨fun h => h.2, fun h => ⟨hin, h⟩⟩)
              have g3 : decide (1 ≤ z) = true := by simpa using hin.1
              have g4 : decide (z ≤ (L.length : Int)) = true := by simpa using hin.2
              clear h4 hp
              obtain ⟨_, _, e, _, _, hi⟩ := Hd.row_at H.out.drop.drop
              simp only [Value.slice.injEq, true_and] at e
              obtain ⟨rfl, rfl⟩ := e
              have I_a := hid hi
              clear hi
              have hpp : (p != p) = false := by simp
              go_wp2_with fail
              refine (within_calls (intsAt_lit z [] rfl) (I_a.out.later (below_alloc _)) rfl rfl (by simp) (by omega)).mono ?_
              rw [B1.out]
              rintro e w5 ⟨rfl, hb5⟩
              have H2 := hid (H.out.al.still hb5)
              clear H hb5 I_a B1
              go_wp2_with fail
              refine (len_at H2.out).mono ?_
              rintro e w' ⟨rfl, rfl⟩
              go_wp2_with fail
              go_roundw
              case rel => exact ⟨z + 1, by omega, by omega, by go_num, H2⟩
              case measure => simp [intOf]; omega
            · refine (can_no d1 d2 z kad kcap KI.out hin H.out).mono ?_
              rintro e w4 ⟨rfl, h4⟩
              clear H F0 F1 Ff Fl
              have H := hid h4
              have B1 : Hid (withinB [z] A = false) := hid (by rw [withinB_one, ← HA.out]; exact decide_eq_false fun h => hin (mem_allOf.1 h).1)
              have hg : decide (1 ≤ z) = false ∨ decide (1 ≤ z) = true ∧ decide (z ≤ (L.length : Int)) = false := by
                by_cases h : 1 ≤ z
                · exact .inr ⟨by simpa using h, by simp; omega⟩
                · exact .inl (by simpa using h)
              clear h4 hin
              obtain ⟨_, _, e, _, _, hi⟩ := Hd.row_at H.out.drop.drop
              simp only [Value.slice.injEq, true_and] at e
              obtain ⟨rfl, rfl⟩ := e
              have I_a := hid hi
              clear hi
              go_wp2_with fail
              refine (within_calls (intsAt_lit z [] rfl) (I_a.out.later (below_alloc _)) rfl rfl (by simp) (by omega)).mono ?_
              rw [B1.out]
              rintro e w5 ⟨rfl, hb5⟩
              have H2 := hid (H.out.al.still hb5)
              clear H hb5 I_a B1
              rcases hg with hg | ⟨hg, hg'⟩
              · go_wp2_with fail
                go_roundw
                case rel => exact ⟨z + 1, by omega, by omega, by go_num, H2⟩
                case measure => simp [intOf]; omega
              · go_wp2_with fail
                refine (len_at H2.out).mono ?_
                rintro e w' ⟨rfl, rfl⟩
                go_wp2_with fail
                go_roundw
                case rel => exact ⟨z + 1, by omega, by omega, by go_num, H2⟩
                case measure => simp [intOf]; omega
          · have g1 : decide (z ≤ (L.length : Int) + 1) = false := by simpa using hz
            go_wp2_with fail
            refine (len_at H.out).mono ?_
            rintro e w' ⟨rfl, rfl⟩
            go_wp2_with fail
            refine (fixed8_calls H.out).mono ?_
            rintro e w' ⟨rfl, h5⟩
            have H5 := hid h5
            clear h5
            go_wp2_with fail
            go_ret
            exact ⟨rfl, H5.out.below⟩
      · go_wp2_with fail
        refine (all_c _ _ kad kcap KI.out (Hd.perm (List.Perm.cons _ (List.perm_middle (l₁ := [_]))) H.out.bx)).mono ?_
        generalize (bits .and .u8 nm 1 == 1) = d1
        generalize (bits .and .u8 nm 2 == 2) = d2
        generalize wo.heap.size = fb
        rintro e w101 ⟨u_a, rfl, hq⟩
        clear H
        have H := hid (Hd.perm (List.Perm.cons _ (List.perm_middle (l₁ := [_]))) hq.swap)
        clear hq
        obtain ⟨A, hA⟩ : ∃ A, allOf L d1 d2 (fun x => x ∈ ks) = A := ⟨_, rfl⟩
        rw [hA] at H
        have HA := hid hA
        have lA : A.length ≤ 40 := by rw [← hA]; exact Nat.le_trans allOf_len (by omega)
        clear hA
        obtain ⟨d_a, c_a, rfl, _, _, _⟩ := Hd.row_at H.out.drop.drop
        go_wp2_with fail
        go_loopw [14] (fun i wr => ∃ z : Int, -1 ≤ z ∧ z ≤ L.length + 2 ∧ i = .int .i64 z ∧ Hid (Hd W wr (Sto b L 1000 :: RowR 3 1 (.slice kad j kcap) j (nums .i64 ks) :: RowR 3 1 (.slice d_a A.length c_a) A.length (nums .i64 A) :: Blk fb (.cells #[.bool d1, .bool d2] 62 (0, 0)) :: []))) (fun i _ => (L.length + 3 - intOf i).toNat)
        case atStart => exact ⟨-1, by omega, by omega, rfl, H⟩
        case round =>
          clear H
          obtain ⟨z, z0, z1, rfl, H⟩ := hrel
          obtain ⟨w2, hw2⟩ : ∃ wo : World, wo = wr := ⟨_, rfl⟩
          rw [← hw2] at H ⊢
          clear hw2 wr
          by_cases hz : z ≤ (L.length : Int) + 1
          · have g1 : decide (z ≤ (L.length : Int) + 1) = true := by simpa using hz
            have g2 : decide (z < 40) = true := by simp; omega
            have hk := H.out.drop.drop.drop.blk
            have F0 := (cell_of_heap hk 0).trans (show _ = some (.bool d1) from rfl)
            have F1 := (cell_of_heap hk 1).trans (show _ = some (.bool d2) from rfl)
            have Ff := frozen_of_heap hk
            have Fl := (Array.getElem?_eq_some_iff.1 hk).1
            clear hk
            go_wp2_with fail
            refine (len_at H.out).mono ?_
            rintro e w' ⟨rfl, rfl⟩
            go_wp2_with fail
            by_cases hin : 1 ≤ z ∧ z ≤ (L.length : Int)
            · refine (can_c d1 d2 z kad kcap KI.out hin H.out).mono ?_
              rintro e w4 ⟨p, rfl, hp, h4⟩
              clear H F0 F1 Ff Fl
              have H := hid h4
              have B1 : Hid (withinB [z] A = p) := hid (by rw [withinB_one, ← HA.out]; rw [Bool.eq_iff_iff, hp, decide_eq_true_iff, mem_allOf]; exact ⟨fun h => h.2, fun h => ⟨hin, h⟩⟩)
              have g3 : decide (1 ≤ z) = true := by simpa using hin.1
              have g4 : decide (z ≤ (L.length : Int)) = true := by simpa using hin.2
              clear h4 hp
              obtain ⟨_, _, e, _, _, hi⟩ := Hd.row_at H.out.drop.drop
              simp only [Value.slice.injEq, true_and] at e
              obtain ⟨rfl, rfl⟩ := e
              have I_a := hid hi
              clear hi
              have hpp : (p != p) = false := by simp
              go_wp2_with fail
              refine (within_calls (intsAt_lit z [] rfl) (I_a.out.later (below_alloc _)) rfl rfl (by simp) (by omega)).mono ?_
              rw [B1.out]
              rintro e w5 ⟨rfl, hb5⟩
              have H2 := hid (H.out.al.still hb5)
              clear H hb5 I_a B1
              go_wp2_with fail
              refine (len_at H2.out).mono ?_
              rintro e w' ⟨rfl, rfl⟩
              go_wp2_with fail
              go_roundw
              case rel => exact ⟨z + 1, by omega, by omega, by go_num, H2⟩
              case measure => simp [intOf]; omega
            · refine (can_no d1 d2 z kad kcap KI.out hin H.out).mono ?_
              rintro e w4 ⟨rfl, h4⟩
              clear H F0 F1 Ff Fl
              have H := hid h4
              have B1 : Hid (withinB [z] A = false) := hid (by rw [withinB_one, ← HA.out]; exact decide_eq_false fun h => hin (mem_allOf.1 h).1)
              have hg : decide (1 ≤ z) = false ∨ decide (1 ≤ z) = true ∧ decide (z ≤ (L.length : Int)) = false := by
                by_cases h : 1 ≤ z
                · exact .inr ⟨by simpa using h, by simp; omega⟩
                · exact .inl (by simpa using h)
              clear h4 hin
              obtain ⟨_, _, e, _, _, hi⟩ := Hd.row_at H.out.drop.drop
              simp only [Value.slice.injEq, true_and] at e
              obtain ⟨rfl, rfl⟩ := e
              have I_a := hid hi
              clear hi
              go_wp2_with fail
              refine (within_calls (intsAt_lit z [] rfl) (I_a.out.later (below_alloc _)) rfl rfl (by simp) (by omega)).mono ?_
              rw [B1.out]
              rintro e w5 ⟨rfl, hb5⟩
              have H2 := hid (H.out.al.still hb5)
              clear H hb5 I_a B1
              rcases hg with hg | ⟨hg, hg'⟩
              · go_wp2_with fail
                go_roundw
                case rel => exact ⟨z + 1, by omega, by omega, by go_num, H2⟩
                case measure => simp [intOf]; omega
              · go_wp2_with fail
                refine (len_at H2.out).mono ?_
                rintro e w' ⟨rfl, rfl⟩
                go_wp2_with fail
                go_roundw
                case rel => exact ⟨z + 1, by omega, by omega, by go_num, H2⟩
                case measure => simp [intOf]; omega
          · have g1 : decide (z ≤ (L.length : Int) + 1) = false := by simpa using hz
            go_wp2_with fail
            refine (len_at H.out).mono ?_
            rintro e w' ⟨rfl, rfl⟩
            go_wp2_with fail
            refine (fixed8_calls H.out).mono ?_
            rintro e w' ⟨rfl, h5⟩
            have H5 := hid h5
            clear h5
            go_wp2_with fail
            go_ret
            exact ⟨rfl, H5.out.below⟩
end Go.Proofs.Ytbaliaodioflfaa
