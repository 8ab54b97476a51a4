/-
  KnowOrder returns true, and writes nothing that was there. For every input.
-/
import Derived.Test.YtbaliaodioflfaaFixK
import Derived.Test.YtbaliaodioflfaaStores
import Derived.Test.YtbaliaodioflfaaKnowL
import Derived.Test.YtbaliaodioflfaaKnowO
namespace Go.Proofs.Ytbaliaodioflfaa
open Go.RowKit

set_option maxRecDepth 100000 in
set_option maxHeartbeats 32000000 in
theorem knowOrder_walk (ad : Option Addr) (len cap : Nat) (ts : List T) (ad2 : Option Addr) (len2 cap2 : Nat) (zs : List Int) (W : World) (hlen : len = ts.length) (hmax : len ≤ maxLen) (hts : TermsIn W ad ts) (hlen2 : len2 = zs.length) (hmax2 : len2 ≤ maxLen) (hzs : NumsIn .u8 W ad2 zs) :
    Calls Try.prog 13 #[.slice ad len cap, .slice ad2 len2 cap2] W fun e w' => e = .returned (.bool true) ∧ Below W.heap.size W w' := by
  have Hlen := hid hlen
  have Hts := hid hts
  have Hmax := hid hmax
  have Hlen2 := hid hlen2
  have Hzs := hid hzs
  have hm2 : len2 ≤ 9223372036854775807 := by unfold maxLen at hmax2; exact hmax2
  clear hts hlen hmax hlen2 hzs hmax2
  go_enter Try.func13, Try.ntmps13
  go_wp2_with fail
  refine (stores_calls (Hd.refl W) ad len cap ts Hlen.out Hmax.out Hts.out 40 (by decide)).mono ?_
  rintro e w1 ⟨b, b', L, rfl, hg, hl, hd⟩
  have H := hid (hd.un2)
  have hgd := hid hg
  have hl40 : L.length ≤ 40 := by omega
  clear hd hg hl
  go_wp2_with fail
  refine (len_at H.out).mono ?_
  rintro e w' ⟨rfl, rfl⟩
  by_cases hL : L.length = 0
  · have e0 : ((L.length : Int) == 0) = true := by simp [hL]
    have e1 : (L.length == 0) = true := by simp [hL]
    clear hL
    go_wp2_with fail
    refine (fixed8_calls H.out).mono ?_
    rintro e w' ⟨rfl, h5⟩
    have H5 := hid h5
    clear h5
    go_wp2_with fail
    go_ret
    exact ⟨rfl, H5.out.below⟩
  have e0 : ((L.length : Int) == 0) = false := by simpa using hL
  have e1 : (L.length == 0) = false := by simpa using hL
  have hL1 : 1 ≤ L.length := by omega
  clear hL
  go_wp2_with fail
  have h2 : Hd W ((w1.alloc (.cells #[] 3 (0, 0))).alloc (.cells #[] 3 (0, 0))) (Sto b L 1000 :: RowR 3 1 (.slice (some ⟨w1.heap.size, 0, none⟩) 0 0) 0 [] :: RowR 3 1 (.slice (some ⟨(w1.alloc (.cells #[] 3 (0, 0))).heap.size, 0, none⟩) 0 0) 0 [] :: []) := Hd.perm (List.Perm.cons _ (List.Perm.swap _ _ _)) H.out.row_new.row_new.third
  rw [show (w1.alloc (.cells #[] 3 (0, 0))).heap.size = w1.heap.size + 1 from by simp] at h2
  have H2 := hid h2
  clear h2
  clear H e0 e1
  go_loopw [7, 9] (fun v i wr => ∃ j : Nat, j ≤ len2 ∧ j ≤ 10 ∧ i = .int .i64 j ∧ ∃ (kad : Option Addr) (kcap : Nat) (ks : List Int), v = .slice kad j kcap ∧ Hid (∀ x ∈ ks, 1 ≤ x ∧ x ≤ L.length) ∧ Hid (Hd W wr (Sto b L 1000 :: RowR 3 1 (.slice kad j kcap) j (nums .i64 ks) :: RowR 3 1 (.slice (some ⟨w1.heap.size + 1, 0, none⟩) 0 0) 0 [] :: []))) (fun _ i _ => len2 - (intOf i).toNat)
  case atStart => exact ⟨0, Nat.zero_le _, Nat.zero_le _, rfl, _, _, [], rfl, hid (by simp), H2⟩
  case round =>
    clear H2
    obtain ⟨j, hj, hj10, rfl, kad, kcap, ks, rfl, KI, H⟩ := hrel
    by_cases hlt : j < len2 ∧ j < 10
    · have hd1 : decide ((j : Int) < (len2 : Int)) = true := by simp; omega
      have hd1' : decide (j < len2) = true := by simp; omega
      have hd2 : decide ((j : Int) < 10) = true := by simp; omega
      obtain ⟨z, hz⟩ : ∃ z, zs[j]? = some z := ⟨zs[j]'(by rw [← Hlen2.out]; exact hlt.1), List.getElem?_eq_getElem _⟩
      obtain ⟨z0, z1, gg, oo, rfl, hc0⟩ := (Hzs.out.later H.out.below) j z hz
      have z0' : 0 ≤ z := by simpa [IntKind.min, IntKind.signed] using z0
      have z1' : z ≤ 255 := by simpa [IntKind.max, IntKind.signed, IntKind.bits] using z1
      have zj0 : (0 : Int) ≤ (j : Int) := by omega
      have zj1 : (j : Int) < (len2 : Int) := by omega
      have Hc0 := hid hc0
      clear hz z0 z1 hc0
      go_wp2_with fail
      refine grow_region (s0 := 45) (tk := 7) (tn := 1) (ti := 9) (ts := 5) (by kernel_rfl) (by kernel_rfl) (by kernel_rfl) (by kernel_rfl) (by kernel_rfl) (by simp) (by decide) rfl rfl rfl rfl hlt.1 (by omega) Hc0.out z0' z1' hL1 (by omega) H.out ?_
      intro f g3 c3 w3 hf h3
      have H3 := hid h3
      simp only [patchG, Nat.reduceAdd, Nat.reduceLeDiff, Nat.reduceBEq, decide_true, decide_false, Bool.and_true, Bool.and_false, Bool.or_true, Bool.or_false, cond_true, cond_false, hf]
      clear h3 hf H
      generalize f 45 = f45
      generalize f 46 = f46
      generalize f 47 = f47
      generalize f 48 = f48
      generalize f 49 = f49
      generalize f 50 = f50
      generalize f 51 = f51
      generalize f 52 = f52
      generalize f 53 = f53
      generalize f 54 = f54
      generalize f 55 = f55
      generalize f 56 = f56
      clear f
      have KI3 : Hid (∀ x ∈ ks ++ [1 + z % (L.length : Int)], 1 ≤ x ∧ x ≤ L.length) := hid fun x hx => by
        rcases List.mem_append.1 hx with hx | hx
        · exact KI.out x hx
        · have h1 := Int.emod_nonneg z (show (L.length : Int) ≠ 0 by omega)
          have h2 := Int.emod_lt_of_pos z (show (0 : Int) < (L.length : Int) by omega)
          simp only [List.mem_singleton] at hx
          omega
      clear KI Hc0
      go_wp2_with fail
      go_roundw
      case rel => exact ⟨j + 1, by omega, by omega, by go_num, _, _, _, rfl, KI3, H3⟩
      case measure => simp [intOf]; omega
    · have hex : (decide ((j : Int) < (len2 : Int)) = false ∧ decide (j < len2) = false) ∨ (decide ((j : Int) < (len2 : Int)) = true ∧ decide (j < len2) = true ∧ decide ((j : Int) < 10) = false) := by
        by_cases h : j < len2
        · right; refine ⟨by simp; omega, by simp; omega, by simp; omega⟩
        · left; refine ⟨by simp; omega, by simp; omega⟩
      clear hlt
      obtain ⟨wo, hwo⟩ : ∃ wo : World, wo = wr := ⟨_, rfl⟩
      rw [← hwo] at H ⊢
      clear hwo wr
      rcases hex with ⟨hd1, hd1'⟩ | ⟨hd1, hd1', hd2⟩
      · go_wp2_with fail
        have H2 := hid H.out.third
        go_loopw [8, 10] (fun v i wr => ∃ q : Nat, q ≤ j ∧ i = .int .i64 ((q : Int) - 1) ∧ ∃ (oad : Option Addr) (ocap no : Nat) (os : List Int), v = .slice oad no ocap ∧ no = 2 * (j - q) ∧ Hid ((∀ x ∈ os, x ∈ ks) ∧ ∀ r, q ≤ r → r < j → ks.getD r 0 ∈ os) ∧ Hid (Hd W wr (RowR 3 1 (.slice oad no ocap) no (nums .i64 os) :: Sto b L 1000 :: RowR 3 1 (.slice kad j kcap) j (nums .i64 ks) :: []))) (fun _ i _ => (intOf i + 1).toNat)
        case atStart => exact ⟨j, Nat.le_refl _, rfl, _, _, _, [], rfl, by omega, hid ⟨by simp, fun r h1 h2 => by omega⟩, H2⟩
        case round =>
          clear H2 H
          obtain ⟨q, hq, rfl, oad, ocap, no, os, rfl, rfl, OM, H⟩ := hrel
          obtain ⟨w2, hw2⟩ : ∃ wo : World, wo = wr := ⟨_, rfl⟩
          rw [← hw2] at H ⊢
          clear hw2 wr
          by_cases hq0 : q = 0
          · subst hq0
            obtain ⟨_, _, _, hkn, _, _⟩ := Hd.row_at H.out.drop.drop
            have OMf : Hid (∀ x, x ∈ os ↔ x ∈ ks) := hid fun x => ⟨fun h => OM.out.1 x h, fun h => by
              obtain ⟨i, hi, rfl⟩ := List.getElem_of_mem h
              have := OM.out.2 i (Nat.zero_le _) (by omega)
              rwa [List.getD_eq_getElem?_getD, List.getElem?_eq_getElem hi] at this⟩
            have KO : Hid (∀ x ∈ os, 1 ≤ x ∧ x ≤ L.length) := hid fun x hx => KI.out x (OM.out.1 x hx)
            clear OM hkn
            replace H := hid (Hd.perm (List.Perm.cons _ (List.perm_middle (l₁ := [_]))) H.out.swap)
            go_wp2_with fail
            refine (all_c false false kad kcap KI.out H.out).mono ?_
            rintro e w101 ⟨u_a, rfl, hq⟩
            clear H
            obtain ⟨A, hA⟩ : ∃ A, allOf L false false (fun x => x ∈ ks) = A := ⟨_, rfl⟩
            have hB : allOf L false false (fun x => x ∈ os) = A := by rw [← hA]; exact congrArg (allOf L false false) (funext fun x => propext (OMf.out x))
            rw [hA] at hq
            have HB := hid hB
            have HR : Hid (A.Pairwise (· < ·)) := hid (by rw [← hA]; exact allOf_rises)
            have lA : A.length ≤ 40 := by rw [← hA]; exact Nat.le_trans allOf_len (by omega)
            clear hA hB
            have H := hid hq.swap
            clear hq
            obtain ⟨d_a, c_a, rfl, _, _, _⟩ := Hd.row_at H.out.drop
            replace H := hid (Hd.perm (List.Perm.cons _ (List.perm_middle (l₁ := [_, _]))) H.out)
            go_wp2_with fail
            refine (all_c false false oad ocap KO.out H.out).mono ?_
            rw [HB.out]
            rintro e w102 ⟨u_b, rfl, hq⟩
            clear H
            have H := hid hq.swap
            clear hq
            obtain ⟨d_b, c_b, rfl, _, _, _⟩ := Hd.row_at H.out.drop
            go_wp2_with fail
            go_loopw [15] (fun i wr => ∃ q : Nat, i = .int .i64 ((q : Int) + 1) ∧ Hid (Hd W wr (Sto b L 1000 :: RowR 3 1 (.slice d_b A.length c_b) A.length (nums .i64 A) :: RowR 3 1 (.slice oad (2 * (j - 0)) ocap) (2 * (j - 0)) (nums .i64 os) :: RowR 3 1 (.slice d_a A.length c_a) A.length (nums .i64 A) :: RowR 3 1 (.slice kad j kcap) j (nums .i64 ks) :: []))) (fun i _ => (A.length + 1 - intOf i).toNat)
            case atStart => exact ⟨0, rfl, H⟩
            case round =>
              clear H
              obtain ⟨q, rfl, H⟩ := hrel
              obtain ⟨w4, hw4⟩ : ∃ wo : World, wo = wr := ⟨_, rfl⟩
              rw [← hw4] at H ⊢
              clear hw4 wr
              by_cases hlt : q + 1 < A.length
              · have hd1 : decide ((q : Int) + 1 < (A.length : Int)) = true := by simp; omega
                have hd1' : decide (q + 1 < A.length) = true := by simp; omega
                obtain ⟨ga, rfl, _, hc⟩ := H.out.drop.drop.drop.row_some (by omega)
                obtain ⟨x0, hx0⟩ : ∃ z, A[q]? = some z := ⟨_, List.getElem?_eq_getElem (by omega)⟩
                obtain ⟨x1, hx1⟩ : ∃ z, A[q + 1]? = some z := ⟨_, List.getElem?_eq_getElem hlt⟩
                have x01 : x0 < x1 := by
                  have h := (List.pairwise_iff_getElem.1 HR.out) q (q + 1) (by omega) hlt (by omega)
                  rw [(List.getElem?_eq_some_iff.1 hx0).2, (List.getElem?_eq_some_iff.1 hx1).2] at h
                  exact h
                have c0 := hc q _ hx0
                have c1 := hc (q + 1) _ hx1
                rw [Nat.zero_add] at c0 c1
                have k1 : ∀ y : Later w4, y.w.cell? ⟨ga, q, none⟩ = some (.int .i64 x0) := fun y => y.cell c0
                have k2 : ∀ y : Later w4, y.w.cell? ⟨ga, q + 1, none⟩ = some (.int .i64 x1) := fun y => y.cell c1
                have hge : decide (x1 ≤ x0) = false := by simpa using x01
                have zq0 : (0 : Int) ≤ (q : Int) := by omega
                have zq1 : (q : Int) < (A.length : Int) := by omega
                have zq2 : (q : Int) + 1 < (A.length : Int) := by omega
                clear hc c0 c1 x01 hlt hx0 hx1
                go_wp2_with fail
                refine wp_region_calm (by kernel_rfl) (by kernel_rfl) ?_
                repeat (go_big_quiet_step (fail))
                refine wpQuiet_nil ?_
                intro w3 hw3
                obtain ⟨⟨w3, hb3⟩, rfl⟩ := hw3
                have H3 := hid (H.out.still hb3)
                clear k1 k2 H hb3 hge
                go_wp2_with fail
                go_roundw
                case rel => exact ⟨q + 1, by go_num, H3⟩
                case measure => simp [intOf]; omega
              · have hd1 : decide ((q : Int) + 1 < (A.length : Int)) = false := by simp; omega
                have hd1' : decide (q + 1 < A.length) = false := by simp; omega
                clear hlt
                obtain ⟨_, _, e, _, _, hi⟩ := Hd.row_at H.out.drop
                simp only [Value.slice.injEq, true_and] at e
                obtain ⟨rfl, rfl⟩ := e
                have I_b := hid hi
                clear hi
                obtain ⟨_, _, e, _, _, hi⟩ := Hd.row_at H.out.drop.drop.drop
                simp only [Value.slice.injEq, true_and] at e
                obtain ⟨rfl, rfl⟩ := e
                have I_a := hid hi
                clear hi
                go_wp2_with fail
                refine (same_calls I_a.out I_b.out rfl rfl (by omega) (by omega)).mono ?_
                rw [show decide (A = A) = true from decide_eq_true rfl]
                rintro e w5 ⟨rfl, hb5⟩
                replace H := hid (H.out.still hb5)
                clear hb5 I_a I_b
                go_wp2_with fail
                refine (fixed8_calls H.out).mono ?_
                rintro e w' ⟨rfl, h5⟩
                have H5 := hid h5
                clear h5
                go_wp2_with fail
                go_ret
                exact ⟨rfl, H5.out.below⟩
          · obtain ⟨p, rfl⟩ : ∃ p, q = p + 1 := ⟨q - 1, by omega⟩
            clear hq0
            have ep : ((p + 1 : Nat) : Int) - 1 = (p : Int) := by omega
            rw [ep]
            obtain ⟨gk, rfl, hkn, hcells⟩ := H.out.drop.drop.row_some (by omega)
            have Hkn := hid hkn
            have Hcells := hid hcells
            clear hkn hcells
            obtain ⟨z, hz⟩ : ∃ z, ks[p]? = some z := ⟨ks[p]'(by rw [← Hkn.out]; omega), List.getElem?_eq_getElem _⟩
            obtain ⟨z0, hz0⟩ : ∃ z, ks[0]? = some z := ⟨ks[0]'(by rw [← Hkn.out]; omega), List.getElem?_eq_getElem _⟩
            have Hz := hid hz
            have Hz0 := hid hz0
            have Hc0 := hid (Hcells.out p z hz)
            have Hc1 := hid (Hcells.out 0 z0 hz0)
            have zp : p < j := by omega
            clear hz hz0 Hcells hq
            go_wp2_with fail
            refine pairs_region (s0 := 64) (tk := 8) (tn := 7) (ti := 10) (by kernel_rfl) (by kernel_rfl) (by kernel_rfl) (by kernel_rfl) (by kernel_rfl) (by simp) (by decide) rfl rfl rfl zp (by omega) Hc0.out Hc1.out (by omega) H.out ?_
            intro f g3 c3 w3 hf h3
            have H3 := hid h3
            simp only [patchG, Nat.reduceAdd, Nat.reduceLeDiff, Nat.reduceBEq, decide_true, decide_false, Bool.and_true, Bool.and_false, Bool.or_true, Bool.or_false, cond_true, cond_false, hf]
            clear h3 hf H
            generalize f 64 = f64
            generalize f 65 = f65
            generalize f 66 = f66
            generalize f 67 = f67
            generalize f 68 = f68
            generalize f 69 = f69
            generalize f 70 = f70
            generalize f 71 = f71
            generalize f 72 = f72
            generalize f 73 = f73
            clear f
            have OM3 : Hid ((∀ x ∈ os ++ [z, z0], x ∈ ks) ∧ ∀ r, p ≤ r → r < j → ks.getD r 0 ∈ os ++ [z, z0]) := hid ⟨fun x hx => by
              rcases List.mem_append.1 hx with hx | hx
              · exact OM.out.1 x hx
              · simp only [List.mem_cons, List.not_mem_nil, or_false] at hx
                rcases hx with rfl | rfl
                · exact List.mem_of_getElem? Hz.out
                · exact List.mem_of_getElem? Hz0.out, fun r h1 h2 => by
              by_cases e : r = p
              · subst e
                rw [List.getD_eq_getElem?_getD, Hz.out]
                simp
              · exact List.mem_append_left _ (OM.out.2 r (by omega) h2)⟩
            clear OM Hc0 Hc1 Hz Hz0
            go_wp2_with fail
            go_roundw
            case rel => exact ⟨p, by omega, by go_num, _, _, _, _, rfl, by omega, OM3, H3⟩
            case measure => simp [intOf]
      · go_wp2_with fail
        have H2 := hid H.out.third
        go_loopw [8, 10] (fun v i wr => ∃ q : Nat, q ≤ j ∧ i = .int .i64 ((q : Int) - 1) ∧ ∃ (oad : Option Addr) (ocap no : Nat) (os : List Int), v = .slice oad no ocap ∧ no = 2 * (j - q) ∧ Hid ((∀ x ∈ os, x ∈ ks) ∧ ∀ r, q ≤ r → r < j → ks.getD r 0 ∈ os) ∧ Hid (Hd W wr (RowR 3 1 (.slice oad no ocap) no (nums .i64 os) :: Sto b L 1000 :: RowR 3 1 (.slice kad j kcap) j (nums .i64 ks) :: []))) (fun _ i _ => (intOf i + 1).toNat)
        case atStart => exact ⟨j, Nat.le_refl _, rfl, _, _, _, [], rfl, by omega, hid ⟨by simp, fun r h1 h2 => by omega⟩, H2⟩
        case round =>
          clear H2 H
          obtain ⟨q, hq, rfl, oad, ocap, no, os, rfl, rfl, OM, H⟩ := hrel
          obtain ⟨w2, hw2⟩ : ∃ wo : World, wo = wr := ⟨_, rfl⟩
          rw [← hw2] at H ⊢
          clear hw2 wr
          by_cases hq0 : q = 0
          · subst hq0
            obtain ⟨_, _, _, hkn, _, _⟩ := Hd.row_at H.out.drop.drop
            have OMf : Hid (∀ x, x ∈ os ↔ x ∈ ks) := hid fun x => ⟨fun h => OM.out.1 x h, fun h => by
              obtain ⟨i, hi, rfl⟩ := List.getElem_of_mem h
              have := OM.out.2 i (Nat.zero_le _) (by omega)
              rwa [List.getD_eq_getElem?_getD, List.getElem?_eq_getElem hi] at this⟩
            have KO : Hid (∀ x ∈ os, 1 ≤ x ∧ x ≤ L.length) := hid fun x hx => KI.out x (OM.out.1 x hx)
            clear OM hkn
            replace H := hid (Hd.perm (List.Perm.cons _ (List.perm_middle (l₁ := [_]))) H.out.swap)
            go_wp2_with fail
            refine (all_c false false kad kcap KI.out H.out).mono ?_
            rintro e w101 ⟨u_a, rfl, hq⟩
            clear H
            obtain ⟨A, hA⟩ : ∃ A, allOf L false false (fun x => x ∈ ks) = A := ⟨_, rfl⟩
            have hB : allOf L false false (fun x => x ∈ os) = A := by rw [← hA]; exact congrArg (allOf L false false) (funext fun x => propext (OMf.out x))
            rw [hA] at hq
            have HB := hid hB
            have HR : Hid (A.Pairwise (· < ·)) := hid (by rw [← hA]; exact allOf_rises)
            have lA : A.length ≤ 40 := by rw [← hA]; exact Nat.le_trans allOf_len (by omega)
            clear hA hB
            have H := hid hq.swap
            clear hq
            obtain ⟨d_a, c_a, rfl, _, _, _⟩ := Hd.row_at H.out.drop
            replace H := hid (Hd.perm (List.Perm.cons _ (List.perm_middle (l₁ := [_, _]))) H.out)
            go_wp2_with fail
            refine (all_c false false oad ocap KO.out H.out).mono ?_
            rw [HB.out]
            rintro e w102 ⟨u_b, rfl, hq⟩
            clear H
            have H := hid hq.swap
            clear hq
            obtain ⟨d_b, c_b, rfl, _, _, _⟩ := Hd.row_at H.out.drop
            go_wp2_with fail
            go_loopw [15] (fun i wr => ∃ q : Nat, i = .int .i64 ((q : Int) + 1) ∧ Hid (Hd W wr (Sto b L 1000 :: RowR 3 1 (.slice d_b A.length c_b) A.length (nums .i64 A) :: RowR 3 1 (.slice oad (2 * (j - 0)) ocap) (2 * (j - 0)) (nums .i64 os) :: RowR 3 1 (.slice d_a A.length c_a) A.length (nums .i64 A) :: RowR 3 1 (.slice kad j kcap) j (nums .i64 ks) :: []))) (fun i _ => (A.length + 1 - intOf i).toNat)
            case atStart => exact ⟨0, rfl, H⟩
            case round =>
              clear H
              obtain ⟨q, rfl, H⟩ := hrel
              obtain ⟨w4, hw4⟩ : ∃ wo : World, wo = wr := ⟨_, rfl⟩
              rw [← hw4] at H ⊢
              clear hw4 wr
              by_cases hlt : q + 1 < A.length
              · have hd1 : decide ((q : Int) + 1 < (A.length : Int)) = true := by simp; omega
                have hd1' : decide (q + 1 < A.length) = true := by simp; omega
                obtain ⟨ga, rfl, _, hc⟩ := H.out.drop.drop.drop.row_some (by omega)
                obtain ⟨x0, hx0⟩ : ∃ z, A[q]? = some z := ⟨_, List.getElem?_eq_getElem (by omega)⟩
                obtain ⟨x1, hx1⟩ : ∃ z, A[q + 1]? = some z := ⟨_, List.getElem?_eq_getElem hlt⟩
                have x01 : x0 < x1 := by
                  have h := (List.pairwise_iff_getElem.1 HR.out) q (q + 1) (by omega) hlt (by omega)
                  rw [(List.getElem?_eq_some_iff.1 hx0).2, (List.getElem?_eq_some_iff.1 hx1).2] at h
                  exact h
                have c0 := hc q _ hx0
                have c1 := hc (q + 1) _ hx1
                rw [Nat.zero_add] at c0 c1
                have k1 : ∀ y : Later w4, y.w.cell? ⟨ga, q, none⟩ = some (.int .i64 x0) := fun y => y.cell c0
                have k2 : ∀ y : Later w4, y.w.cell? ⟨ga, q + 1, none⟩ = some (.int .i64 x1) := fun y => y.cell c1
                have hge : decide (x1 ≤ x0) = false := by simpa using x01
                have zq0 : (0 : Int) ≤ (q : Int) := by omega
                have zq1 : (q : Int) < (A.length : Int) := by omega
                have zq2 : (q : Int) + 1 < (A.length : Int) := by omega
                clear hc c0 c1 x01 hlt hx0 hx1
                go_wp2_with fail
                refine wp_region_calm (by kernel_rfl) (by kernel_rfl) ?_
                repeat (go_big_quiet_step (fail))
                refine wpQuiet_nil ?_
                intro w3 hw3
                obtain ⟨⟨w3, hb3⟩, rfl⟩ := hw3
                have H3 := hid (H.out.still hb3)
                clear k1 k2 H hb3 hge
                go_wp2_with fail
                go_roundw
                case rel => exact ⟨q + 1, by go_num, H3⟩
                case measure => simp [intOf]; omega
              · have hd1 : decide ((q : Int) + 1 < (A.length : Int)) = false := by simp; omega
                have hd1' : decide (q + 1 < A.length) = false := by simp; omega
                clear hlt
                obtain ⟨_, _, e, _, _, hi⟩ := Hd.row_at H.out.drop
                simp only [Value.slice.injEq, true_and] at e
                obtain ⟨rfl, rfl⟩ := e
                have I_b := hid hi
                clear hi
                obtain ⟨_, _, e, _, _, hi⟩ := Hd.row_at H.out.drop.drop.drop
                simp only [Value.slice.injEq, true_and] at e
                obtain ⟨rfl, rfl⟩ := e
                have I_a := hid hi
                clear hi
                go_wp2_with fail
                refine (same_calls I_a.out I_b.out rfl rfl (by omega) (by omega)).mono ?_
                rw [show decide (A = A) = true from decide_eq_true rfl]
                rintro e w5 ⟨rfl, hb5⟩
                replace H := hid (H.out.still hb5)
                clear hb5 I_a I_b
                go_wp2_with fail
                refine (fixed8_calls H.out).mono ?_
                rintro e w' ⟨rfl, h5⟩
                have H5 := hid h5
                clear h5
                go_wp2_with fail
                go_ret
                exact ⟨rfl, H5.out.below⟩
          · obtain ⟨p, rfl⟩ : ∃ p, q = p + 1 := ⟨q - 1, by omega⟩
            clear hq0
            have ep : ((p + 1 : Nat) : Int) - 1 = (p : Int) := by omega
            rw [ep]
            obtain ⟨gk, rfl, hkn, hcells⟩ := H.out.drop.drop.row_some (by omega)
            have Hkn := hid hkn
            have Hcells := hid hcells
            clear hkn hcells
            obtain ⟨z, hz⟩ : ∃ z, ks[p]? = some z := ⟨ks[p]'(by rw [← Hkn.out]; omega), List.getElem?_eq_getElem _⟩
            obtain ⟨z0, hz0⟩ : ∃ z, ks[0]? = some z := ⟨ks[0]'(by rw [← Hkn.out]; omega), List.getElem?_eq_getElem _⟩
            have Hz := hid hz
            have Hz0 := hid hz0
            have Hc0 := hid (Hcells.out p z hz)
            have Hc1 := hid (Hcells.out 0 z0 hz0)
            have zp : p < j := by omega
            clear hz hz0 Hcells hq
            go_wp2_with fail
            refine pairs_region (s0 := 64) (tk := 8) (tn := 7) (ti := 10) (by kernel_rfl) (by kernel_rfl) (by kernel_rfl) (by kernel_rfl) (by kernel_rfl) (by simp) (by decide) rfl rfl rfl zp (by omega) Hc0.out Hc1.out (by omega) H.out ?_
            intro f g3 c3 w3 hf h3
            have H3 := hid h3
            simp only [patchG, Nat.reduceAdd, Nat.reduceLeDiff, Nat.reduceBEq, decide_true, decide_false, Bool.and_true, Bool.and_false, Bool.or_true, Bool.or_false, cond_true, cond_false, hf]
            clear h3 hf H
            generalize f 64 = f64
            generalize f 65 = f65
            generalize f 66 = f66
            generalize f 67 = f67
            generalize f 68 = f68
            generalize f 69 = f69
            generalize f 70 = f70
            generalize f 71 = f71
            generalize f 72 = f72
            generalize f 73 = f73
            clear f
            have OM3 : Hid ((∀ x ∈ os ++ [z, z0], x ∈ ks) ∧ ∀ r, p ≤ r → r < j → ks.getD r 0 ∈ os ++ [z, z0]) := hid ⟨fun x hx => by
              rcases List.mem_append.1 hx with hx | hx
              · exact OM.out.1 x hx
              · simp only [List.mem_cons, List.not_mem_nil, or_false] at hx
                rcases hx with rfl | rfl
                · exact List.mem_of_getElem? Hz.out
                · exact List.mem_of_getElem? Hz0.out, fun r h1 h2 => by
              by_cases e : r = p
              · subst e
                rw [List.getD_eq_getElem?_getD, Hz.out]
                simp
              · exact List.mem_append_left _ (OM.out.2 r (by omega) h2)⟩
            clear OM Hc0 Hc1 Hz Hz0
            go_wp2_with fail
            go_roundw
            case rel => exact ⟨p, by omega, by go_num, _, _, _, _, rfl, by omega, OM3, H3⟩
            case measure => simp [intOf]
end Go.Proofs.Ytbaliaodioflfaa
