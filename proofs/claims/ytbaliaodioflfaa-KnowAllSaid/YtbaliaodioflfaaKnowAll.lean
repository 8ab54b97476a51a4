/-
  KnowAll returns true, and writes nothing that was there. For every input.
-/
import Derived.Test.YtbaliaodioflfaaFixK
import Derived.Test.YtbaliaodioflfaaStores
import Derived.Test.YtbaliaodioflfaaKnowK
namespace Go.Proofs.Ytbaliaodioflfaa
open Go.RowKit

set_option maxRecDepth 100000 in
set_option maxHeartbeats 64000000 in
theorem knowAll_walk (ad : Option Addr) (len cap : Nat) (ts : List T) (ad2 : Option Addr) (len2 cap2 : Nat) (zs : List Int) (x0 x1 : Int) (W : World) (hlen : len = ts.length) (hmax : len ≤ maxLen) (hts : TermsIn W ad ts) (hlen2 : len2 = zs.length) (hmax2 : len2 ≤ maxLen) (hzs : NumsIn .i64 W ad2 zs) (hcap : len2 ≤ cap2 ∧ cap2 ≤ maxLen ∧ (ad2 = none → len2 = 0 ∧ cap2 = 0)) (_hbd : (IntKind.i64.min ≤ x0 ∧ x0 ≤ IntKind.i64.max) ∧ (IntKind.i64.min ≤ x1 ∧ x1 ≤ IntKind.i64.max)) :
    Calls Try.prog 9 #[.slice ad len cap, .slice ad2 len2 cap2, .agg #[.int .i64 x0, .int .i64 x1]] W fun e w' => e = .returned (.bool true) ∧ Below W.heap.size W w' := by
  have Hlen := hid hlen
  have Hts := hid hts
  have Hmax := hid hmax
  have Hlen2 := hid hlen2
  have Hzs := hid hzs
  have hm2 : len2 ≤ 9223372036854775807 := by unfold maxLen at hmax2; exact hmax2
  obtain ⟨hc1, hc2, hc3⟩ := hcap
  have hcm : cap2 ≤ 9223372036854775807 := by unfold maxLen at hc2; exact hc2
  clear hts hlen hmax hlen2 hzs hmax2 hc2
  go_enter Try.func9, Try.ntmps9
  go_wp2_with fail
  refine (stores_calls ((Hd.refl W).box _) ad len cap ts Hlen.out Hmax.out Hts.out 40 (by decide)).mono ?_
  rintro e w1 ⟨b, b', L, rfl, hg, hl, hd⟩
  have H := hid hd
  have hgd := hid hg
  have hl40 : L.length ≤ 40 := by omega
  clear hd hg hl
  by_cases h10 : len2 ≤ 10
  · have hd10 : decide ((len2 : Int) ≤ 10) = true := by simp; omega
    cases ad2 with
    | none =>
      obtain ⟨rfl, rfl⟩ := hc3 rfl
      clear hc3 h10
      have HK := hid (ksIn_nums 10 Hzs.out)
      have hkl : 0 = (zs.take 10).length := by rw [List.length_take, ← Hlen2.out]; omega
      obtain ⟨ks, hks⟩ : ∃ ks, zs.take 10 = ks := ⟨_, rfl⟩
      rw [hks] at HK hkl
      have HKL := hid hkl
      have hkm : 0 ≤ maxLen := by unfold maxLen; omega
      have HKM := hid hkm
      clear hks hkl hkm Hzs Hlen2
      have hn := H.out.drop.drop.blk
      have N0 := (cell_of_heap hn 0).trans (show _ = some (.int .i64 x0) from rfl)
      have Nf := frozen_of_heap hn
      have Nl := (Array.getElem?_eq_some_iff.1 hn).1
      clear hn
      by_cases hin : ∀ x ∈ ks, 1 ≤ x ∧ x ≤ L.length
      · have Hin := hid hin
        clear hin
        go_wp2_with fail
        refine (kn_all _ _ HKL.out HKM.out (HK.out.later (H.out.bx.below)) Hin.out H.out.bx).mono ?_
        generalize (bits .and .i64 x0 1 == 1) = d1
        generalize (bits .and .i64 x0 2 == 2) = d2
        generalize w1.heap.size = fb
        obtain ⟨A, hA⟩ : ∃ A, allOf L d1 d2 (fun x => x ∈ ks) = A := ⟨_, rfl⟩
        rw [hA]
        have lA : A.length ≤ 40 := by rw [← hA]; exact Nat.le_trans allOf_len (by omega)
        have HA := hid hA
        clear hA
        rintro e w2 ⟨u_a, rfl, hq⟩
        clear H N0 Nf Nl
        have H := hid hq
        clear hq
        obtain ⟨d_a, c_a, rfl, _, _, _⟩ := Hd.row_at H.out
        have hf := H.out.drop.drop.blk
        have F0 := (cell_of_heap hf 0).trans (show _ = some (.bool d1) from rfl)
        have F1 := (cell_of_heap hf 1).trans (show _ = some (.bool d2) from rfl)
        have Ff := frozen_of_heap hf
        have Fl := (Array.getElem?_eq_some_iff.1 hf).1
        clear hf
        go_wp2_with fail
        refine (rn_all d1 d2 HKL.out HKM.out (HK.out.later H.out.below) Hin.out (Hd.perm (List.perm_middle (l₁ := [_, _, _])) H.out)).mono ?_
        rw [HA.out]
        rintro e w3 ⟨u_b, rfl, hq⟩
        clear H F0 F1 Ff Fl
        have H := hid hq
        clear hq
        obtain ⟨d_b, c_b, rfl, _, _, _⟩ := Hd.row_at H.out
        have hf := H.out.drop.drop.drop.drop.blk
        have F0 := (cell_of_heap hf 0).trans (show _ = some (.bool d1) from rfl)
        have F1 := (cell_of_heap hf 1).trans (show _ = some (.bool d2) from rfl)
        have Ff := frozen_of_heap hf
        have Fl := (Array.getElem?_eq_some_iff.1 hf).1
        clear hf
        have hn := H.out.drop.drop.drop.drop.drop.blk
        have N1 := (cell_of_heap hn 1).trans (show _ = some (.int .i64 x1) from rfl)
        have Nf := frozen_of_heap hn
        have Nl := (Array.getElem?_eq_some_iff.1 hn).1
        clear hn
        go_wp2_with fail
        refine (kn_can d1 d2 x1 HKL.out HKM.out (HK.out.later H.out.below) (Hd.perm (List.perm_middle (l₁ := [_, _, _])) H.out)).mono ?_
        obtain ⟨r1, r2, hr⟩ : ∃ r1 r2, canB L d1 d2 ks x1 = (r1, r2) := ⟨_, _, rfl⟩
        rw [hr]
        have HR := hid hr
        clear hr
        rintro e w4 ⟨rfl, hq⟩
        clear H F0 F1 Ff Fl N1 Nf Nl
        have H := hid hq
        clear hq
        have hf := H.out.drop.drop.drop.drop.blk
        have F0 := (cell_of_heap hf 0).trans (show _ = some (.bool d1) from rfl)
        have F1 := (cell_of_heap hf 1).trans (show _ = some (.bool d2) from rfl)
        have Ff := frozen_of_heap hf
        have Fl := (Array.getElem?_eq_some_iff.1 hf).1
        clear hf
        have hn := H.out.drop.drop.drop.drop.drop.blk
        have N1 := (cell_of_heap hn 1).trans (show _ = some (.int .i64 x1) from rfl)
        have Nf := frozen_of_heap hn
        have Nl := (Array.getElem?_eq_some_iff.1 hn).1
        clear hn
        go_wp2_with fail
        refine (rn_can d1 d2 x1 HKL.out HKM.out (HK.out.later H.out.below) (Hd.perm (List.perm_middle (l₁ := [_, _])) H.out)).mono ?_
        rw [HR.out]
        rintro e w5 ⟨rfl, hq⟩
        clear H F0 F1 Ff Fl N1 Nf Nl
        have H := hid hq
        clear hq
        have e1 : (r1 == r1) = true := by simp
        have e2 : (r2 == r2) = true := by simp
        obtain ⟨_, _, e, _, _, hi⟩ := Hd.row_at H.out.drop.drop
        simp only [Value.slice.injEq, true_and] at e
        obtain ⟨rfl, rfl⟩ := e
        have I_b := hid hi
        clear hi
        obtain ⟨_, _, e, _, _, hi⟩ := Hd.row_at H.out.drop.drop.drop
        simp only [Value.slice.injEq, true_and] at e
        obtain ⟨rfl, rfl⟩ := e
        have I_a := hid hi
        clear hi
        go_wp2_with fail
        refine (same_calls I_a.out I_b.out rfl rfl (by omega) (by omega)).mono ?_
        rw [show decide (A = A) = true from decide_eq_true rfl]
        rintro e w6 ⟨rfl, hb6⟩
        replace H := hid (H.out.still hb6)
        clear hb6
        go_wp2_with fail
        refine (fixed8_calls H.out).mono ?_
        rintro e w' ⟨rfl, h5⟩
        have H5 := hid h5
        clear h5
        go_wp2_with fail
        go_ret
        exact ⟨rfl, H5.out.below⟩
      · have Hin := hid hin
        clear hin
        go_wp2_with fail
        refine (kn_all_bad _ _ HKL.out HKM.out (HK.out.later (H.out.bx.below)) Hin.out H.out.bx).mono ?_
        generalize (bits .and .i64 x0 1 == 1) = d1
        generalize (bits .and .i64 x0 2 == 2) = d2
        generalize w1.heap.size = fb
        rintro e w2 ⟨rfl, hq⟩
        clear H N0 Nf Nl
        have H := hid hq
        clear hq
        have hf := H.out.drop.blk
        have F0 := (cell_of_heap hf 0).trans (show _ = some (.bool d1) from rfl)
        have F1 := (cell_of_heap hf 1).trans (show _ = some (.bool d2) from rfl)
        have Ff := frozen_of_heap hf
        have Fl := (Array.getElem?_eq_some_iff.1 hf).1
        clear hf
        go_wp2_with fail
        refine (rn_all_bad d1 d2 HKL.out HKM.out (HK.out.later H.out.below) Hin.out (Hd.perm (List.perm_middle (l₁ := [_, _])) H.out)).mono ?_
        rintro e w3 ⟨rfl, hq⟩
        clear H F0 F1 Ff Fl
        have H := hid hq
        clear hq
        have hf := H.out.drop.drop.blk
        have F0 := (cell_of_heap hf 0).trans (show _ = some (.bool d1) from rfl)
        have F1 := (cell_of_heap hf 1).trans (show _ = some (.bool d2) from rfl)
        have Ff := frozen_of_heap hf
        have Fl := (Array.getElem?_eq_some_iff.1 hf).1
        clear hf
        have hn := H.out.drop.drop.drop.blk
        have N1 := (cell_of_heap hn 1).trans (show _ = some (.int .i64 x1) from rfl)
        have Nf := frozen_of_heap hn
        have Nl := (Array.getElem?_eq_some_iff.1 hn).1
        clear hn
        go_wp2_with fail
        refine (kn_can d1 d2 x1 HKL.out HKM.out (HK.out.later H.out.below) H.out.swap).mono ?_
        obtain ⟨r1, r2, hr⟩ : ∃ r1 r2, canB L d1 d2 ks x1 = (r1, r2) := ⟨_, _, rfl⟩
        rw [hr]
        have HR := hid hr
        clear hr
        rintro e w4 ⟨rfl, hq⟩
        clear H F0 F1 Ff Fl N1 Nf Nl
        have H := hid hq
        clear hq
        have hf := H.out.drop.drop.blk
        have F0 := (cell_of_heap hf 0).trans (show _ = some (.bool d1) from rfl)
        have F1 := (cell_of_heap hf 1).trans (show _ = some (.bool d2) from rfl)
        have Ff := frozen_of_heap hf
        have Fl := (Array.getElem?_eq_some_iff.1 hf).1
        clear hf
        have hn := H.out.drop.drop.drop.blk
        have N1 := (cell_of_heap hn 1).trans (show _ = some (.int .i64 x1) from rfl)
        have Nf := frozen_of_heap hn
        have Nl := (Array.getElem?_eq_some_iff.1 hn).1
        clear hn
        go_wp2_with fail
        refine (rn_can d1 d2 x1 HKL.out HKM.out (HK.out.later H.out.below) H.out.swap).mono ?_
        rw [HR.out]
        rintro e w5 ⟨rfl, hq⟩
        clear H F0 F1 Ff Fl N1 Nf Nl
        have H := hid hq
        clear hq
        have e1 : (r1 == r1) = true := by simp
        have e2 : (r2 == r2) = true := by simp
        go_wp2_with fail
        refine (same_calls (xs := []) (ys := []) (.inl rfl) (.inl rfl) rfl rfl (by decide) (by decide)).mono ?_
        rw [show decide (([] : List Int) = []) = true from decide_eq_true rfl]
        rintro e w6 ⟨rfl, hb6⟩
        replace H := hid (H.out.still hb6)
        clear hb6
        go_wp2_with fail
        refine (fixed8_calls H.out).mono ?_
        rintro e w' ⟨rfl, h5⟩
        have H5 := hid h5
        clear h5
        go_wp2_with fail
        go_ret
        exact ⟨rfl, H5.out.below⟩
    | some p2 =>
      clear hc3
      have HK := hid (ksIn_nums 10 Hzs.out)
      have hkl : len2 = (zs.take 10).length := by rw [List.length_take, ← Hlen2.out]; omega
      obtain ⟨ks, hks⟩ : ∃ ks, zs.take 10 = ks := ⟨_, rfl⟩
      rw [hks] at HK hkl
      have HKL := hid hkl
      have hkm : len2 ≤ maxLen := by unfold maxLen; omega
      have HKM := hid hkm
      clear hks hkl hkm Hzs Hlen2
      have hn := H.out.drop.drop.blk
      have N0 := (cell_of_heap hn 0).trans (show _ = some (.int .i64 x0) from rfl)
      have Nf := frozen_of_heap hn
      have Nl := (Array.getElem?_eq_some_iff.1 hn).1
      clear hn
      by_cases hin : ∀ x ∈ ks, 1 ≤ x ∧ x ≤ L.length
      · have Hin := hid hin
        clear hin
        go_wp2_with fail
        refine (kn_all _ _ HKL.out HKM.out (HK.out.later (H.out.bx.below)) Hin.out H.out.bx).mono ?_
        generalize (bits .and .i64 x0 1 == 1) = d1
        generalize (bits .and .i64 x0 2 == 2) = d2
        generalize w1.heap.size = fb
        obtain ⟨A, hA⟩ : ∃ A, allOf L d1 d2 (fun x => x ∈ ks) = A := ⟨_, rfl⟩
        rw [hA]
        have lA : A.length ≤ 40 := by rw [← hA]; exact Nat.le_trans allOf_len (by omega)
        have HA := hid hA
        clear hA
        rintro e w2 ⟨u_a, rfl, hq⟩
        clear H N0 Nf Nl
        have H := hid hq
        clear hq
        obtain ⟨d_a, c_a, rfl, _, _, _⟩ := Hd.row_at H.out
        have hf := H.out.drop.drop.blk
        have F0 := (cell_of_heap hf 0).trans (show _ = some (.bool d1) from rfl)
        have F1 := (cell_of_heap hf 1).trans (show _ = some (.bool d2) from rfl)
        have Ff := frozen_of_heap hf
        have Fl := (Array.getElem?_eq_some_iff.1 hf).1
        clear hf
        go_wp2_with fail
        refine (rn_all d1 d2 HKL.out HKM.out (HK.out.later H.out.below) Hin.out (Hd.perm (List.perm_middle (l₁ := [_, _, _])) H.out)).mono ?_
        rw [HA.out]
        rintro e w3 ⟨u_b, rfl, hq⟩
        clear H F0 F1 Ff Fl
        have H := hid hq
        clear hq
        obtain ⟨d_b, c_b, rfl, _, _, _⟩ := Hd.row_at H.out
        have hf := H.out.drop.drop.drop.drop.blk
        have F0 := (cell_of_heap hf 0).trans (show _ = some (.bool d1) from rfl)
        have F1 := (cell_of_heap hf 1).trans (show _ = some (.bool d2) from rfl)
        have Ff := frozen_of_heap hf
        have Fl := (Array.getElem?_eq_some_iff.1 hf).1
        clear hf
        have hn := H.out.drop.drop.drop.drop.drop.blk
        have N1 := (cell_of_heap hn 1).trans (show _ = some (.int .i64 x1) from rfl)
        have Nf := frozen_of_heap hn
        have Nl := (Array.getElem?_eq_some_iff.1 hn).1
        clear hn
        go_wp2_with fail
        refine (kn_can d1 d2 x1 HKL.out HKM.out (HK.out.later H.out.below) (Hd.perm (List.perm_middle (l₁ := [_, _, _])) H.out)).mono ?_
        obtain ⟨r1, r2, hr⟩ : ∃ r1 r2, canB L d1 d2 ks x1 = (r1, r2) := ⟨_, _, rfl⟩
        rw [hr]
        have HR := hid hr
        clear hr
        rintro e w4 ⟨rfl, hq⟩
        clear H F0 F1 Ff Fl N1 Nf Nl
        have H := hid hq
        clear hq
        have hf := H.out.drop.drop.drop.drop.blk
        have F0 := (cell_of_heap hf 0).trans (show _ = some (.bool d1) from rfl)
        have F1 := (cell_of_heap hf 1).trans (show _ = some (.bool d2) from rfl)
        have Ff := frozen_of_heap hf
        have Fl := (Array.getElem?_eq_some_iff.1 hf).1
        clear hf
        have hn := H.out.drop.drop.drop.drop.drop.blk
        have N1 := (cell_of_heap hn 1).trans (show _ = some (.int .i64 x1) from rfl)
        have Nf := frozen_of_heap hn
        have Nl := (Array.getElem?_eq_some_iff.1 hn).1
        clear hn
        go_wp2_with fail
        refine (rn_can d1 d2 x1 HKL.out HKM.out (HK.out.later H.out.below) (Hd.perm (List.perm_middle (l₁ := [_, _])) H.out)).mono ?_
        rw [HR.out]
        rintro e w5 ⟨rfl, hq⟩
        clear H F0 F1 Ff Fl N1 Nf Nl
        have H := hid hq
        clear hq
        have e1 : (r1 == r1) = true := by simp
        have e2 : (r2 == r2) = true := by simp
        obtain ⟨_, _, e, _, _, hi⟩ := Hd.row_at H.out.drop.drop
        simp only [Value.slice.injEq, true_and] at e
        obtain ⟨rfl, rfl⟩ := e
        have I_b := hid hi
        clear hi
        obtain ⟨_, _, e, _, _, hi⟩ := Hd.row_at H.out.drop.drop.drop
        simp only [Value.slice.injEq, true_and] at e
        obtain ⟨rfl, rfl⟩ := e
        have I_a := hid hi
        clear hi
        go_wp2_with fail
        refine (same_calls I_a.out I_b.out rfl rfl (by omega) (by omega)).mono ?_
        rw [show decide (A = A) = true from decide_eq_true rfl]
        rintro e w6 ⟨rfl, hb6⟩
        replace H := hid (H.out.still hb6)
        clear hb6
        go_wp2_with fail
        refine (fixed8_calls H.out).mono ?_
        rintro e w' ⟨rfl, h5⟩
        have H5 := hid h5
        clear h5
        go_wp2_with fail
        go_ret
        exact ⟨rfl, H5.out.below⟩
      · have Hin := hid hin
        clear hin
        go_wp2_with fail
        refine (kn_all_bad _ _ HKL.out HKM.out (HK.out.later (H.out.bx.below)) Hin.out H.out.bx).mono ?_
        generalize (bits .and .i64 x0 1 == 1) = d1
        generalize (bits .and .i64 x0 2 == 2) = d2
        generalize w1.heap.size = fb
        rintro e w2 ⟨rfl, hq⟩
        clear H N0 Nf Nl
        have H := hid hq
        clear hq
        have hf := H.out.drop.blk
        have F0 := (cell_of_heap hf 0).trans (show _ = some (.bool d1) from rfl)
        have F1 := (cell_of_heap hf 1).trans (show _ = some (.bool d2) from rfl)
        have Ff := frozen_of_heap hf
        have Fl := (Array.getElem?_eq_some_iff.1 hf).1
        clear hf
        go_wp2_with fail
        refine (rn_all_bad d1 d2 HKL.out HKM.out (HK.out.later H.out.below) Hin.out (Hd.perm (List.perm_middle (l₁ := [_, _])) H.out)).mono ?_
        rintro e w3 ⟨rfl, hq⟩
        clear H F0 F1 Ff Fl
        have H := hid hq
        clear hq
        have hf := H.out.drop.drop.blk
        have F0 := (cell_of_heap hf 0).trans (show _ = some (.bool d1) from rfl)
        have F1 := (cell_of_heap hf 1).trans (show _ = some (.bool d2) from rfl)
        have Ff := frozen_of_heap hf
        have Fl := (Array.getElem?_eq_some_iff.1 hf).1
        clear hf
        have hn := H.out.drop.drop.drop.blk
        have N1 := (cell_of_heap hn 1).trans (show _ = some (.int .i64 x1) from rfl)
        have Nf := frozen_of_heap hn
        have Nl := (Array.getElem?_eq_some_iff.1 hn).1
        clear hn
        go_wp2_with fail
        refine (kn_can d1 d2 x1 HKL.out HKM.out (HK.out.later H.out.below) H.out.swap).mono ?_
        obtain ⟨r1, r2, hr⟩ : ∃ r1 r2, canB L d1 d2 ks x1 = (r1, r2) := ⟨_, _, rfl⟩
        rw [hr]
        have HR := hid hr
        clear hr
        rintro e w4 ⟨rfl, hq⟩
        clear H F0 F1 Ff Fl N1 Nf Nl
        have H := hid hq
        clear hq
        have hf := H.out.drop.drop.blk
        have F0 := (cell_of_heap hf 0).trans (show _ = some (.bool d1) from rfl)
        have F1 := (cell_of_heap hf 1).trans (show _ = some (.bool d2) from rfl)
        have Ff := frozen_of_heap hf
        have Fl := (Array.getElem?_eq_some_iff.1 hf).1
        clear hf
        have hn := H.out.drop.drop.drop.blk
        have N1 := (cell_of_heap hn 1).trans (show _ = some (.int .i64 x1) from rfl)
        have Nf := frozen_of_heap hn
        have Nl := (Array.getElem?_eq_some_iff.1 hn).1
        clear hn
        go_wp2_with fail
        refine (rn_can d1 d2 x1 HKL.out HKM.out (HK.out.later H.out.below) H.out.swap).mono ?_
        rw [HR.out]
        rintro e w5 ⟨rfl, hq⟩
        clear H F0 F1 Ff Fl N1 Nf Nl
        have H := hid hq
        clear hq
        have e1 : (r1 == r1) = true := by simp
        have e2 : (r2 == r2) = true := by simp
        go_wp2_with fail
        refine (same_calls (xs := []) (ys := []) (.inl rfl) (.inl rfl) rfl rfl (by decide) (by decide)).mono ?_
        rw [show decide (([] : List Int) = []) = true from decide_eq_true rfl]
        rintro e w6 ⟨rfl, hb6⟩
        replace H := hid (H.out.still hb6)
        clear hb6
        go_wp2_with fail
        refine (fixed8_calls H.out).mono ?_
        rintro e w' ⟨rfl, h5⟩
        have H5 := hid h5
        clear h5
        go_wp2_with fail
        go_ret
        exact ⟨rfl, H5.out.below⟩
  · have hd10 : decide ((len2 : Int) ≤ 10) = false := by simp; omega
    cases ad2 with
    | none => have := (hc3 rfl).1; omega
    | some p2 =>
      clear hc3
      have HK := hid (ksIn_nums 10 Hzs.out)
      have hkl : 10 = (zs.take 10).length := by rw [List.length_take, ← Hlen2.out]; omega
      obtain ⟨ks, hks⟩ : ∃ ks, zs.take 10 = ks := ⟨_, rfl⟩
      rw [hks] at HK hkl
      have HKL := hid hkl
      have hkm : 10 ≤ maxLen := by unfold maxLen; omega
      have HKM := hid hkm
      clear hks hkl hkm Hzs Hlen2
      have hn := H.out.drop.drop.blk
      have N0 := (cell_of_heap hn 0).trans (show _ = some (.int .i64 x0) from rfl)
      have Nf := frozen_of_heap hn
      have Nl := (Array.getElem?_eq_some_iff.1 hn).1
      clear hn
      by_cases hin : ∀ x ∈ ks, 1 ≤ x ∧ x ≤ L.length
      · have Hin := hid hin
        clear hin
        go_wp2_with fail
        refine (kn_all _ _ HKL.out HKM.out (HK.out.later (H.out.bx.below)) Hin.out H.out.bx).mono ?_
        generalize (bits .and .i64 x0 1 == 1) = d1
        generalize (bits .and .i64 x0 2 == 2) = d2
        generalize w1.heap.size = fb
        obtain ⟨A, hA⟩ : ∃ A, allOf L d1 d2 (fun x => x ∈ ks) = A := ⟨_, rfl⟩
        rw [hA]
        have lA : A.length ≤ 40 := by rw [← hA]; exact Nat.le_trans allOf_len (by omega)
        have HA := hid hA
        clear hA
        rintro e w2 ⟨u_a, rfl, hq⟩
        clear H N0 Nf Nl
        have H := hid hq
        clear hq
        obtain ⟨d_a, c_a, rfl, _, _, _⟩ := Hd.row_at H.out
        have hf := H.out.drop.drop.blk
        have F0 := (cell_of_heap hf 0).trans (show _ = some (.bool d1) from rfl)
        have F1 := (cell_of_heap hf 1).trans (show _ = some (.bool d2) from rfl)
        have Ff := frozen_of_heap hf
        have Fl := (Array.getElem?_eq_some_iff.1 hf).1
        clear hf
        go_wp2_with fail
        refine (rn_all d1 d2 HKL.out HKM.out (HK.out.later H.out.below) Hin.out (Hd.perm (List.perm_middle (l₁ := [_, _, _])) H.out)).mono ?_
        rw [HA.out]
        rintro e w3 ⟨u_b, rfl, hq⟩
        clear H F0 F1 Ff Fl
        have H := hid hq
        clear hq
        obtain ⟨d_b, c_b, rfl, _, _, _⟩ := Hd.row_at H.out
        have hf := H.out.drop.drop.drop.drop.blk
        have F0 := (cell_of_heap hf 0).trans (show _ = some (.bool d1) from rfl)
        have F1 := (cell_of_heap hf 1).trans (show _ = some (.bool d2) from rfl)
        have Ff := frozen_of_heap hf
        have Fl := (Array.getElem?_eq_some_iff.1 hf).1
        clear hf
        have hn := H.out.drop.drop.drop.drop.drop.blk
        have N1 := (cell_of_heap hn 1).trans (show _ = some (.int .i64 x1) from rfl)
        have Nf := frozen_of_heap hn
        have Nl := (Array.getElem?_eq_some_iff.1 hn).1
        clear hn
        go_wp2_with fail
        refine (kn_can d1 d2 x1 HKL.out HKM.out (HK.out.later H.out.below) (Hd.perm (List.perm_middle (l₁ := [_, _, _])) H.out)).mono ?_
        obtain ⟨r1, r2, hr⟩ : ∃ r1 r2, canB L d1 d2 ks x1 = (r1, r2) := ⟨_, _, rfl⟩
        rw [hr]
        have HR := hid hr
        clear hr
        rintro e w4 ⟨rfl, hq⟩
        clear H F0 F1 Ff Fl N1 Nf Nl
        have H := hid hq
        clear hq
        have hf := H.out.drop.drop.drop.drop.blk
        have F0 := (cell_of_heap hf 0).trans (show _ = some (.bool d1) from rfl)
        have F1 := (cell_of_heap hf 1).trans (show _ = some (.bool d2) from rfl)
        have Ff := frozen_of_heap hf
        have Fl := (Array.getElem?_eq_some_iff.1 hf).1
        clear hf
        have hn := H.out.drop.drop.drop.drop.drop.blk
        have N1 := (cell_of_heap hn 1).trans (show _ = some (.int .i64 x1) from rfl)
        have Nf := frozen_of_heap hn
        have Nl := (Array.getElem?_eq_some_iff.1 hn).1
        clear hn
        go_wp2_with fail
        refine (rn_can d1 d2 x1 HKL.out HKM.out (HK.out.later H.out.below) (Hd.perm (List.perm_middle (l₁ := [_, _])) H.out)).mono ?_
        rw [HR.out]
        rintro e w5 ⟨rfl, hq⟩
        clear H F0 F1 Ff Fl N1 Nf Nl
        have H := hid hq
        clear hq
        have e1 : (r1 == r1) = true := by simp
        have e2 : (r2 == r2) = true := by simp
        obtain ⟨_, _, e, _, _, hi⟩ := Hd.row_at H.out.drop.drop
        simp only [Value.slice.injEq, true_and] at e
        obtain ⟨rfl, rfl⟩ := e
        have I_b := hid hi
        clear hi
        obtain ⟨_, _, e, _, _, hi⟩ := Hd.row_at H.out.drop.drop.drop
        simp only [Value.slice.injEq, true_and] at e
        obtain ⟨rfl, rfl⟩ := e
        have I_a := hid hi
        clear hi
        go_wp2_with fail
        refine (same_calls I_a.out I_b.out rfl rfl (by omega) (by omega)).mono ?_
        rw [show decide (A = A) = true from decide_eq_true rfl]
        rintro e w6 ⟨rfl, hb6⟩
        replace H := hid (H.out.still hb6)
        clear hb6
        go_wp2_with fail
        refine (fixed8_calls H.out).mono ?_
        rintro e w' ⟨rfl, h5⟩
        have H5 := hid h5
        clear h5
        go_wp2_with fail
        go_ret
        exact ⟨rfl, H5.out.below⟩
      · have Hin := hid hin
        clear hin
        go_wp2_with fail
        refine (kn_all_bad _ _ HKL.out HKM.out (HK.out.later (H.out.bx.below)) Hin.out H.out.bx).mono ?_
        generalize (bits .and .i64 x0 1 == 1) = d1
        generalize (bits .and .i64 x0 2 == 2) = d2
        generalize w1.heap.size = fb
        rintro e w2 ⟨rfl, hq⟩
        clear H N0 Nf Nl
        have H := hid hq
        clear hq
        have hf := H.out.drop.blk
        have F0 := (cell_of_heap hf 0).trans (show _ = some (.bool d1) from rfl)
        have F1 := (cell_of_heap hf 1).trans (show _ = some (.bool d2) from rfl)
        have Ff := frozen_of_heap hf
        have Fl := (Array.getElem?_eq_some_iff.1 hf).1
        clear hf
        go_wp2_with fail
        refine (rn_all_bad d1 d2 HKL.out HKM.out (HK.out.later H.out.below) Hin.out (Hd.perm (List.perm_middle (l₁ := [_, _])) H.out)).mono ?_
        rintro e w3 ⟨rfl, hq⟩
        clear H F0 F1 Ff Fl
        have H := hid hq
        clear hq
        have hf := H.out.drop.drop.blk
        have F0 := (cell_of_heap hf 0).trans (show _ = some (.bool d1) from rfl)
        have F1 := (cell_of_heap hf 1).trans (show _ = some (.bool d2) from rfl)
        have Ff := frozen_of_heap hf
        have Fl := (Array.getElem?_eq_some_iff.1 hf).1
        clear hf
        have hn := H.out.drop.drop.drop.blk
        have N1 := (cell_of_heap hn 1).trans (show _ = some (.int .i64 x1) from rfl)
        have Nf := frozen_of_heap hn
        have Nl := (Array.getElem?_eq_some_iff.1 hn).1
        clear hn
        go_wp2_with fail
        refine (kn_can d1 d2 x1 HKL.out HKM.out (HK.out.later H.out.below) H.out.swap).mono ?_
        obtain ⟨r1, r2, hr⟩ : ∃ r1 r2, canB L d1 d2 ks x1 = (r1, r2) := ⟨_, _, rfl⟩
        rw [hr]
        have HR := hid hr
        clear hr
        rintro e w4 ⟨rfl, hq⟩
        clear H F0 F1 Ff Fl N1 Nf Nl
        have H := hid hq
        clear hq
        have hf := H.out.drop.drop.blk
        have F0 := (cell_of_heap hf 0).trans (show _ = some (.bool d1) from rfl)
        have F1 := (cell_of_heap hf 1).trans (show _ = some (.bool d2) from rfl)
        have Ff := frozen_of_heap hf
        have Fl := (Array.getElem?_eq_some_iff.1 hf).1
        clear hf
        have hn := H.out.drop.drop.drop.blk
        have N1 := (cell_of_heap hn 1).trans (show _ = some (.int .i64 x1) from rfl)
        have Nf := frozen_of_heap hn
        have Nl := (Array.getElem?_eq_some_iff.1 hn).1
        clear hn
        go_wp2_with fail
        refine (rn_can d1 d2 x1 HKL.out HKM.out (HK.out.later H.out.below) H.out.swap).mono ?_
        rw [HR.out]
        rintro e w5 ⟨rfl, hq⟩
        clear H F0 F1 Ff Fl N1 Nf Nl
        have H := hid hq
        clear hq
        have e1 : (r1 == r1) = true := by simp
        have e2 : (r2 == r2) = true := by simp
        go_wp2_with fail
        refine (same_calls (xs := []) (ys := []) (.inl rfl) (.inl rfl) rfl rfl (by decide) (by decide)).mono ?_
        rw [show decide (([] : List Int) = []) = true from decide_eq_true rfl]
        rintro e w6 ⟨rfl, hb6⟩
        replace H := hid (H.out.still hb6)
        clear hb6
        go_wp2_with fail
        refine (fixed8_calls H.out).mono ?_
        rintro e w' ⟨rfl, h5⟩
        have H5 := hid h5
        clear h5
        go_wp2_with fail
        go_ret
        exact ⟨rfl, H5.out.below⟩
end Go.Proofs.Ytbaliaodioflfaa
