/-
  KnowGrows returns true, and writes nothing that was there. For every input.
-/
import Derived.Test.YtbaliaodioflfaaFixK
import Derived.Test.YtbaliaodioflfaaStores
import Derived.Test.YtbaliaodioflfaaKnowL
namespace Go.Proofs.Ytbaliaodioflfaa
open Go.RowKit

set_option maxRecDepth 100000 in
set_option maxHeartbeats 32000000 in
theorem knowGrows_walk (ad : Option Addr) (len cap : Nat) (ts : List T) (ad2 : Option Addr) (len2 cap2 : Nat) (zs : List Int) (nm : Int) (nm0 : 0 ≤ nm) (nm1 : nm ≤ 255) (W : World) (hlen : len = ts.length) (hmax : len ≤ maxLen) (hts : TermsIn W ad ts) (hlen2 : len2 = zs.length) (hmax2 : len2 ≤ maxLen) (hzs : NumsIn .u8 W ad2 zs) :
    Calls Try.prog 10 #[.slice ad len cap, .slice ad2 len2 cap2, .int .u8 nm] W fun e w' => e = .returned (.bool true) ∧ Below W.heap.size W w' := by
  have Hlen := hid hlen
  have Hts := hid hts
  have Hmax := hid hmax
  have Hlen2 := hid hlen2
  have Hzs := hid hzs
  have hm2 : len2 ≤ 9223372036854775807 := by unfold maxLen at hmax2; exact hmax2
  clear hts hlen hmax hlen2 hzs hmax2
  go_enter Try.func10, Try.ntmps10
  go_wp2_with fail
  refine (stores_calls (Hd.refl W) ad len cap ts Hlen.out Hmax.out Hts.out 40 (by decide)).mono ?_
  rintro e w1 ⟨b, b', L, rfl, hg, hl, hd⟩
  have H := hid (hd.un2)
  have hgd := hid hg
  have hl40 : L.length ≤ 40 := by omega
  clear hd hg hl
  go_wp2_with fail
  refine (len_at H.out).mono ?_
  rintro e w' ⟨rfl, rfl⟩
  by_cases hL : L.length = 0
  · have e0 : ((L.length : Int) == 0) = true := by simp [hL]
    have e1 : (L.length == 0) = true := by simp [hL]
    clear hL
    go_wp2_with fail
    refine (fixed8_calls H.out).mono ?_
    rintro e w' ⟨rfl, h5⟩
    have H5 := hid h5
    clear h5
    go_wp2_with fail
    go_ret
    exact ⟨rfl, H5.out.below⟩
  have e0 : ((L.length : Int) == 0) = false := by simpa using hL
  have e1 : (L.length == 0) = false := by simpa using hL
  have hL1 : 1 ≤ L.length := by omega
  clear hL
  go_wp2_with fail
  have H2 := hid (H.out.row_new (E := 3)).swap
  clear H e0 e1
  go_loopw [9, 10] (fun v i wr => ∃ j : Nat, j ≤ len2 ∧ j ≤ 10 ∧ i = .int .i64 j ∧ ∃ (kad : Option Addr) (kcap : Nat) (ks : List Int), v = .slice kad j kcap ∧ Hid (∀ x ∈ ks, 1 ≤ x ∧ x ≤ L.length) ∧ Hid (Hd W wr (Sto b L 1000 :: RowR 3 1 (.slice kad j kcap) j (nums .i64 ks) :: []))) (fun _ i _ => len2 - (intOf i).toNat)
  case atStart => exact ⟨0, Nat.zero_le _, Nat.zero_le _, rfl, _, _, [], rfl, hid (by simp), H2⟩
  case round =>
    clear H2
    obtain ⟨j, hj, hj10, rfl, kad, kcap, ks, rfl, KI, H⟩ := hrel
    by_cases hlt : j < len2 ∧ j < 10
    · have hd1 : decide ((j : Int) < (len2 : Int)) = true := by simp; omega
      have hd1' : decide (j < len2) = true := by simp; omega
      have hd2 : decide ((j : Int) < 10) = true := by simp; omega
      obtain ⟨z, hz⟩ : ∃ z, zs[j]? = some z := ⟨zs[j]'(by rw [← Hlen2.out]; exact hlt.1), List.getElem?_eq_getElem _⟩
      obtain ⟨z0, z1, gg, oo, rfl, hc0⟩ := (Hzs.out.later H.out.below) j z hz
      have z0' : 0 ≤ z := by simpa [IntKind.min, IntKind.signed] using z0
      have z1' : z ≤ 255 := by simpa [IntKind.max, IntKind.signed, IntKind.bits] using z1
      have zj0 : (0 : Int) ≤ (j : Int) := by omega
      have zj1 : (j : Int) < (len2 : Int) := by omega
      have Hc0 := hid hc0
      clear hz z0 z1 hc0
      go_wp2_with fail
      refine grow_region (s0 := 49) (tk := 9) (tn := 1) (ti := 10) (ts := 7) (by kernel_rfl) (by kernel_rfl) (by kernel_rfl) (by kernel_rfl) (by kernel_rfl) (by simp) (by decide) rfl rfl rfl rfl hlt.1 (by omega) Hc0.out z0' z1' hL1 (by omega) H.out ?_
      intro f g3 c3 w3 hf h3
      have H3 := hid h3
      simp only [patchG, Nat.reduceAdd, Nat.reduceLeDiff, Nat.reduceBEq, decide_true, decide_false, Bool.and_true, Bool.and_false, Bool.or_true, Bool.or_false, cond_true, cond_false, hf]
      clear h3 hf H
      generalize f 49 = f49
      generalize f 50 = f50
      generalize f 51 = f51
      generalize f 52 = f52
      generalize f 53 = f53
      generalize f 54 = f54
      generalize f 55 = f55
      generalize f 56 = f56
      generalize f 57 = f57
      generalize f 58 = f58
      generalize f 59 = f59
      generalize f 60 = f60
      clear f
      have KI3 : Hid (∀ x ∈ ks ++ [1 + z % (L.length : Int)], 1 ≤ x ∧ x ≤ L.length) := hid fun x hx => by
        rcases List.mem_append.1 hx with hx | hx
        · exact KI.out x hx
        · have h1 := Int.emod_nonneg z (show (L.length : Int) ≠ 0 by omega)
          have h2 := Int.emod_lt_of_pos z (show (0 : Int) < (L.length : Int) by omega)
          simp only [List.mem_singleton] at hx
          omega
      clear KI Hc0
      go_wp2_with fail
      go_roundw
      case rel => exact ⟨j + 1, by omega, by omega, by go_num, _, _, _, rfl, KI3, H3⟩
      case measure => simp [intOf]; omega
    · have hex : (decide ((j : Int) < (len2 : Int)) = false ∧ decide (j < len2) = false) ∨ (decide ((j : Int) < (len2 : Int)) = true ∧ decide (j < len2) = true ∧ decide ((j : Int) < 10) = false) := by
        by_cases h : j < len2
        · right; refine ⟨by simp; omega, by simp; omega, by simp; omega⟩
        · left; refine ⟨by simp; omega, by simp; omega⟩
      clear hlt
      obtain ⟨wo, hwo⟩ : ∃ wo : World, wo = wr := ⟨_, rfl⟩
      rw [← hwo] at H ⊢
      clear hwo wr
      rcases hex with ⟨hd1, hd1'⟩ | ⟨hd1, hd1', hd2⟩
      · go_wp2_with fail
        refine (all_c false false kad kcap KI.out H.out).mono ?_
        rintro e w101 ⟨u_a, rfl, hq⟩
        clear H
        have H := hid hq.swap
        clear hq
        obtain ⟨d_a, c_a, rfl, _, m_a, _⟩ := Hd.row_at H.out.drop
        have M_a := hid m_a
        clear m_a
        have hmod := mod_range nm (show (1 : Int) ≤ (L.length : Int) by omega)
        have Hmod := hid hmod
        go_wp2_with fail
        refine (len_at H.out).mono ?_
        rintro e w' ⟨rfl, rfl⟩
        obtain ⟨i0, hi0, hz0, hs0, hy0⟩ := info_i64
        have Hi0 := hid hi0
        have Hz0 := hid hz0
        have Hs0 := hid hs0
        have Hy0 := hid hy0
        have HA := hid (Hd.perm (List.perm_middle (l₁ := [_, _])) H.out)
        clear hi0 hz0 hs0 hy0 H
        go_wp2_with (at_builtin; refine append_num (k := .i64) Try.underlying60 Hi0.out Hz0.out Hs0.out Hy0.out (by decide) rfl (.tmp 68) (.tmp 75) rfl HA.out (by rfl) (1 + nm % (L.length : Int)) (by rfl) (by omega) ?_; intro g_k2 c_k2 w102 hq; have H := hid hq.swap; clear hq HA)
        obtain ⟨ks2, hks2⟩ : ∃ zz, ks ++ [1 + nm % (L.length : Int)] = zz := ⟨_, rfl⟩
        rw [hks2] at H
        have KI2 : Hid (∀ x ∈ ks2, 1 ≤ x ∧ x ≤ L.length) := hid fun x hx => by
          rw [← hks2] at hx
          rcases List.mem_append.1 hx with hx | hx
          · exact KI.out x hx
          · have := Hmod.out
            simp only [List.mem_singleton] at hx
            omega
        have KS : Hid (∀ x ∈ ks, x ∈ ks2) := hid fun x hx => by rw [← hks2]; exact List.mem_append_left _ hx
        clear hks2 hmod Hmod
        go_wp2_with fail
        refine (all_c false false (some ⟨g_k2, 0, none⟩) c_k2 KI2.out H.out).mono ?_
        rintro e w103 ⟨u_b, rfl, hq⟩
        clear H
        have H := hid hq.swap
        clear hq
        obtain ⟨d_b, c_b, rfl, _, m_b, _⟩ := Hd.row_at H.out.drop
        have M_b := hid m_b
        clear m_b
        go_wp2_with fail
        refine (all_c false false d_b c_b allOf_in H.out).mono ?_
        rintro e w104 ⟨u_c, rfl, hq⟩
        clear H
        have H := hid hq.swap
        clear hq
        obtain ⟨d_c, c_c, rfl, _, m_c, _⟩ := Hd.row_at H.out.drop
        have M_c := hid m_c
        clear m_c
        replace H := hid (Hd.perm (List.Perm.cons _ (List.perm_middle (l₁ := [_, _]))) H.out)
        go_wp2_with fail
        refine (all_c true false (some ⟨g_k2, 0, none⟩) c_k2 KI2.out H.out).mono ?_
        rintro e w105 ⟨u_d, rfl, hq⟩
        clear H
        have H := hid hq.swap
        clear hq
        obtain ⟨d_d, c_d, rfl, _, m_d, _⟩ := Hd.row_at H.out.drop
        have M_d := hid m_d
        clear m_d
        replace H := hid (Hd.perm (List.Perm.cons _ (List.perm_middle (l₁ := [_]))) H.out)
        go_wp2_with fail
        refine (all_c true true (some ⟨g_k2, 0, none⟩) c_k2 KI2.out H.out).mono ?_
        rintro e w106 ⟨u_w, rfl, hq⟩
        clear H
        have H := hid hq.swap
        clear hq
        obtain ⟨d_w, c_w, rfl, _, m_w, _⟩ := Hd.row_at H.out.drop
        have M_w := hid m_w
        clear m_w
        have A_w : Hid (IntsAt _ d_w (allOf L true true (fun x => x ∈ ks2))) := hid (by obtain ⟨_, _, e, _, _, hi⟩ := Hd.row_at (H.out.drop); simp only [Value.slice.injEq, true_and] at e; obtain ⟨rfl, rfl⟩ := e; exact hi)
        have A_k2 : Hid (IntsAt _ (some ⟨g_k2, 0, none⟩) ks2) := hid (by obtain ⟨_, _, e, _, _, hi⟩ := Hd.row_at (H.out.drop.drop); simp only [Value.slice.injEq, true_and] at e; obtain ⟨rfl, rfl⟩ := e; exact hi)
        have N_k2 : Hid ((j + 1) = (ks2 : List Int).length) := hid (by obtain ⟨_, _, _, hn, _, _⟩ := Hd.row_at (H.out.drop.drop); exact hn)
        have A_d : Hid (IntsAt _ d_d (allOf L true false (fun x => x ∈ ks2))) := hid (by obtain ⟨_, _, e, _, _, hi⟩ := Hd.row_at (H.out.drop.drop.drop); simp only [Value.slice.injEq, true_and] at e; obtain ⟨rfl, rfl⟩ := e; exact hi)
        have A_c : Hid (IntsAt _ d_c (allOf L false false (fun x => x ∈ (allOf L false false (fun x => x ∈ ks2))))) := hid (by obtain ⟨_, _, e, _, _, hi⟩ := Hd.row_at (H.out.drop.drop.drop.drop); simp only [Value.slice.injEq, true_and] at e; obtain ⟨rfl, rfl⟩ := e; exact hi)
        have A_b : Hid (IntsAt _ d_b (allOf L false false (fun x => x ∈ ks2))) := hid (by obtain ⟨_, _, e, _, _, hi⟩ := Hd.row_at (H.out.drop.drop.drop.drop.drop); simp only [Value.slice.injEq, true_and] at e; obtain ⟨rfl, rfl⟩ := e; exact hi)
        have A_a : Hid (IntsAt _ d_a (allOf L false false (fun x => x ∈ ks))) := hid (by obtain ⟨_, _, e, _, _, hi⟩ := Hd.row_at (H.out.drop.drop.drop.drop.drop.drop); simp only [Value.slice.injEq, true_and] at e; obtain ⟨rfl, rfl⟩ := e; exact hi)
        go_wp2_with fail
        refine (within_calls A_a.out A_b.out rfl rfl (Nat.le_trans allOf_len (by omega)) (Nat.le_trans allOf_len (by omega))).mono ?_
        rw [within_all (K := fun x => x ∈ ks) (K' := fun x => x ∈ ks2) id id (fun x hx => .known x (KS.out x hx))]
        rintro e w107 ⟨rfl, hb1⟩
        replace A_w := hid (A_w.out.later hb1)
        replace A_k2 := hid (A_k2.out.later hb1)
        replace A_d := hid (A_d.out.later hb1)
        replace A_c := hid (A_c.out.later hb1)
        replace A_b := hid (A_b.out.later hb1)
        replace A_a := hid (A_a.out.later hb1)
        replace H := hid (H.out.still hb1)
        clear hb1
        go_wp2_with fail
        refine (same_calls A_b.out A_c.out rfl rfl (Nat.le_trans allOf_len (by omega)) (Nat.le_trans allOf_len (by omega))).mono ?_
        rw [decide_eq_true (allOf_all (L := L) (dh := false) (kem := false) (K := fun x => x ∈ ks2) hgd.out KI2.out)]
        rintro e w108 ⟨rfl, hb1⟩
        replace A_w := hid (A_w.out.later hb1)
        replace A_k2 := hid (A_k2.out.later hb1)
        replace A_d := hid (A_d.out.later hb1)
        replace A_c := hid (A_c.out.later hb1)
        replace A_b := hid (A_b.out.later hb1)
        replace A_a := hid (A_a.out.later hb1)
        replace H := hid (H.out.still hb1)
        clear hb1
        go_wp2_with fail
        refine (within_calls A_b.out A_d.out rfl rfl (Nat.le_trans allOf_len (by omega)) (Nat.le_trans allOf_len (by omega))).mono ?_
        rw [within_all (dh := false) (dh' := true) (kem := false) (kem' := false) (K := fun x => x ∈ ks2) (K' := fun x => x ∈ ks2) (fun h => by cases h) id (fun x hx => .known x hx)]
        rintro e w109 ⟨rfl, hb1⟩
        replace A_w := hid (A_w.out.later hb1)
        replace A_k2 := hid (A_k2.out.later hb1)
        replace A_d := hid (A_d.out.later hb1)
        replace A_c := hid (A_c.out.later hb1)
        replace A_b := hid (A_b.out.later hb1)
        replace A_a := hid (A_a.out.later hb1)
        replace H := hid (H.out.still hb1)
        clear hb1
        go_wp2_with fail
        refine (within_calls A_d.out A_w.out rfl rfl (Nat.le_trans allOf_len (by omega)) (Nat.le_trans allOf_len (by omega))).mono ?_
        rw [within_all (dh := true) (dh' := true) (kem := false) (kem' := true) (K := fun x => x ∈ ks2) (K' := fun x => x ∈ ks2) id (fun h => by cases h) (fun x hx => .known x hx)]
        rintro e w110 ⟨rfl, hb1⟩
        replace A_w := hid (A_w.out.later hb1)
        replace A_k2 := hid (A_k2.out.later hb1)
        replace A_d := hid (A_d.out.later hb1)
        replace A_c := hid (A_c.out.later hb1)
        replace A_b := hid (A_b.out.later hb1)
        replace A_a := hid (A_a.out.later hb1)
        replace H := hid (H.out.still hb1)
        clear hb1
        go_wp2_with fail
        refine (within_calls A_k2.out A_b.out N_k2.out rfl (by omega) (Nat.le_trans allOf_len (by omega))).mono ?_
        rw [within_known (dh := false) (kem := false) KI2.out]
        rintro e w111 ⟨rfl, hb1⟩
        replace A_w := hid (A_w.out.later hb1)
        replace A_k2 := hid (A_k2.out.later hb1)
        replace A_d := hid (A_d.out.later hb1)
        replace A_c := hid (A_c.out.later hb1)
        replace A_b := hid (A_b.out.later hb1)
        replace A_a := hid (A_a.out.later hb1)
        replace H := hid (H.out.still hb1)
        clear hb1
        go_wp2_with fail
        refine (fixed8_calls H.out).mono ?_
        rintro e w' ⟨rfl, h5⟩
        have H5 := hid h5
        clear h5
        go_wp2_with fail
        go_ret
        exact ⟨rfl, H5.out.below⟩
      · go_wp2_with fail
        refine (all_c false false kad kcap KI.out H.out).mono ?_
        rintro e w101 ⟨u_a, rfl, hq⟩
        clear H
        have H := hid hq.swap
        clear hq
        obtain ⟨d_a, c_a, rfl, _, m_a, _⟩ := Hd.row_at H.out.drop
        have M_a := hid m_a
        clear m_a
        have hmod := mod_range nm (show (1 : Int) ≤ (L.length : Int) by omega)
        have Hmod := hid hmod
        go_wp2_with fail
        refine (len_at H.out).mono ?_
        rintro e w' ⟨rfl, rfl⟩
        obtain ⟨i0, hi0, hz0, hs0, hy0⟩ := info_i64
        have Hi0 := hid hi0
        have Hz0 := hid hz0
        have Hs0 := hid hs0
        have Hy0 := hid hy0
        have HA := hid (Hd.perm (List.perm_middle (l₁ := [_, _])) H.out)
        clear hi0 hz0 hs0 hy0 H
        go_wp2_with (at_builtin; refine append_num (k := .i64) Try.underlying60 Hi0.out Hz0.out Hs0.out Hy0.out (by decide) rfl (.tmp 68) (.tmp 75) rfl HA.out (by rfl) (1 + nm % (L.length : Int)) (by rfl) (by omega) ?_; intro g_k2 c_k2 w102 hq; have H := hid hq.swap; clear hq HA)
        obtain ⟨ks2, hks2⟩ : ∃ zz, ks ++ [1 + nm % (L.length : Int)] = zz := ⟨_, rfl⟩
        rw [hks2] at H
        have KI2 : Hid (∀ x ∈ ks2, 1 ≤ x ∧ x ≤ L.length) := hid fun x hx => by
          rw [← hks2] at hx
          rcases List.mem_append.1 hx with hx | hx
          · exact KI.out x hx
          · have := Hmod.out
            simp only [List.mem_singleton] at hx
            omega
        have KS : Hid (∀ x ∈ ks, x ∈ ks2) := hid fun x hx => by rw [← hks2]; exact List.mem_append_left _ hx
        clear hks2 hmod Hmod
        go_wp2_with fail
        refine (all_c false false (some ⟨g_k2, 0, none⟩) c_k2 KI2.out H.out).mono ?_
        rintro e w103 ⟨u_b, rfl, hq⟩
        clear H
        have H := hid hq.swap
        clear hq
        obtain ⟨d_b, c_b, rfl, _, m_b, _⟩ := Hd.row_at H.out.drop
        have M_b := hid m_b
        clear m_b
        go_wp2_with fail
        refine (all_c false false d_b c_b allOf_in H.out).mono ?_
        rintro e w104 ⟨u_c, rfl, hq⟩
        clear H
        have H := hid hq.swap
        clear hq
        obtain ⟨d_c, c_c, rfl, _, m_c, _⟩ := Hd.row_at H.out.drop
        have M_c := hid m_c
        clear m_c
        replace H := hid (Hd.perm (List.Perm.cons _ (List.perm_middle (l₁ := [_, _]))) H.out)
        go_wp2_with fail
        refine (all_c true false (some ⟨g_k2, 0, none⟩) c_k2 KI2.out H.out).mono ?_
        rintro e w105 ⟨u_d, rfl, hq⟩
        clear H
        have H := hid hq.swap
        clear hq
        obtain ⟨d_d, c_d, rfl, _, m_d, _⟩ := Hd.row_at H.out.drop
        have M_d := hid m_d
        clear m_d
        replace H := hid (Hd.perm (List.Perm.cons _ (List.perm_middle (l₁ := [_]))) H.out)
        go_wp2_with fail
        refine (all_c true true (some ⟨g_k2, 0, none⟩) c_k2 KI2.out H.out).mono ?_
        rintro e w106 ⟨u_w, rfl, hq⟩
        clear H
        have H := hid hq.swap
        clear hq
        obtain ⟨d_w, c_w, rfl, _, m_w, _⟩ := Hd.row_at H.out.drop
        have M_w := hid m_w
        clear m_w
        have A_w : Hid (IntsAt _ d_w (allOf L true true (fun x => x ∈ ks2))) := hid (by obtain ⟨_, _, e, _, _, hi⟩ := Hd.row_at (H.out.drop); simp only [Value.slice.injEq, true_and] at e; obtain ⟨rfl, rfl⟩ := e; exact hi)
        have A_k2 : Hid (IntsAt _ (some ⟨g_k2, 0, none⟩) ks2) := hid (by obtain ⟨_, _, e, _, _, hi⟩ := Hd.row_at (H.out.drop.drop); simp only [Value.slice.injEq, true_and] at e; obtain ⟨rfl, rfl⟩ := e; exact hi)
        have N_k2 : Hid ((j + 1) = (ks2 : List Int).length) := hid (by obtain ⟨_, _, _, hn, _, _⟩ := Hd.row_at (H.out.drop.drop); exact hn)
        have A_d : Hid (IntsAt _ d_d (allOf L true false (fun x => x ∈ ks2))) := hid (by obtain ⟨_, _, e, _, _, hi⟩ := Hd.row_at (H.out.drop.drop.drop); simp only [Value.slice.injEq, true_and] at e; obtain ⟨rfl, rfl⟩ := e; exact hi)
        have A_c : Hid (IntsAt _ d_c (allOf L false false (fun x => x ∈ (allOf L false false (fun x => x ∈ ks2))))) := hid (by obtain ⟨_, _, e, _, _, hi⟩ := Hd.row_at (H.out.drop.drop.drop.drop); simp only [Value.slice.injEq, true_and] at e; obtain ⟨rfl, rfl⟩ := e; exact hi)
        have A_b : Hid (IntsAt _ d_b (allOf L false false (fun x => x ∈ ks2))) := hid (by obtain ⟨_, _, e, _, _, hi⟩ := Hd.row_at (H.out.drop.drop.drop.drop.drop); simp only [Value.slice.injEq, true_and] at e; obtain ⟨rfl, rfl⟩ := e; exact hi)
        have A_a : Hid (IntsAt _ d_a (allOf L false false (fun x => x ∈ ks))) := hid (by obtain ⟨_, _, e, _, _, hi⟩ := Hd.row_at (H.out.drop.drop.drop.drop.drop.drop); simp only [Value.slice.injEq, true_and] at e; obtain ⟨rfl, rfl⟩ := e; exact hi)
        go_wp2_with fail
        refine (within_calls A_a.out A_b.out rfl rfl (Nat.le_trans allOf_len (by omega)) (Nat.le_trans allOf_len (by omega))).mono ?_
        rw [within_all (K := fun x => x ∈ ks) (K' := fun x => x ∈ ks2) id id (fun x hx => .known x (KS.out x hx))]
        rintro e w107 ⟨rfl, hb1⟩
        replace A_w := hid (A_w.out.later hb1)
        replace A_k2 := hid (A_k2.out.later hb1)
        replace A_d := hid (A_d.out.later hb1)
        replace A_c := hid (A_c.out.later hb1)
        replace A_b := hid (A_b.out.later hb1)
        replace A_a := hid (A_a.out.later hb1)
        replace H := hid (H.out.still hb1)
        clear hb1
        go_wp2_with fail
        refine (same_calls A_b.out A_c.out rfl rfl (Nat.le_trans allOf_len (by omega)) (Nat.le_trans allOf_len (by omega))).mono ?_
        rw [decide_eq_true (allOf_all (L := L) (dh := false) (kem := false) (K := fun x => x ∈ ks2) hgd.out KI2.out)]
        rintro e w108 ⟨rfl, hb1⟩
        replace A_w := hid (A_w.out.later hb1)
        replace A_k2 := hid (A_k2.out.later hb1)
        replace A_d := hid (A_d.out.later hb1)
        replace A_c := hid (A_c.out.later hb1)
        replace A_b := hid (A_b.out.later hb1)
        replace A_a := hid (A_a.out.later hb1)
        replace H := hid (H.out.still hb1)
        clear hb1
        go_wp2_with fail
        refine (within_calls A_b.out A_d.out rfl rfl (Nat.le_trans allOf_len (by omega)) (Nat.le_trans allOf_len (by omega))).mono ?_
        rw [within_all (dh := false) (dh' := true) (kem := false) (kem' := false) (K := fun x => x ∈ ks2) (K' := fun x => x ∈ ks2) (fun h => by cases h) id (fun x hx => .known x hx)]
        rintro e w109 ⟨rfl, hb1⟩
        replace A_w := hid (A_w.out.later hb1)
        replace A_k2 := hid (A_k2.out.later hb1)
        replace A_d := hid (A_d.out.later hb1)
        replace A_c := hid (A_c.out.later hb1)
        replace A_b := hid (A_b.out.later hb1)
        replace A_a := hid (A_a.out.later hb1)
        replace H := hid (H.out.still hb1)
        clear hb1
        go_wp2_with fail
        refine (within_calls A_d.out A_w.out rfl rfl (Nat.le_trans allOf_len (by omega)) (Nat.le_trans allOf_len (by omega))).mono ?_
        rw [within_all (dh := true) (dh' := true) (kem := false) (kem' := true) (K := fun x => x ∈ ks2) (K' := fun x => x ∈ ks2) id (fun h => by cases h) (fun x hx => .known x hx)]
        rintro e w110 ⟨rfl, hb1⟩
        replace A_w := hid (A_w.out.later hb1)
        replace A_k2 := hid (A_k2.out.later hb1)
        replace A_d := hid (A_d.out.later hb1)
        replace A_c := hid (A_c.out.later hb1)
        replace A_b := hid (A_b.out.later hb1)
        replace A_a := hid (A_a.out.later hb1)
        replace H := hid (H.out.still hb1)
        clear hb1
        go_wp2_with fail
        refine (within_calls A_k2.out A_b.out N_k2.out rfl (by omega) (Nat.le_trans allOf_len (by omega))).mono ?_
        rw [within_known (dh := false) (kem := false) KI2.out]
        rintro e w111 ⟨rfl, hb1⟩
        replace A_w := hid (A_w.out.later hb1)
        replace A_k2 := hid (A_k2.out.later hb1)
        replace A_d := hid (A_d.out.later hb1)
        replace A_c := hid (A_c.out.later hb1)
        replace A_b := hid (A_b.out.later hb1)
        replace A_a := hid (A_a.out.later hb1)
        replace H := hid (H.out.still hb1)
        clear hb1
        go_wp2_with fail
        refine (fixed8_calls H.out).mono ?_
        rintro e w' ⟨rfl, h5⟩
        have H5 := hid h5
        clear h5
        go_wp2_with fail
        go_ret
        exact ⟨rfl, H5.out.below⟩
end Go.Proofs.Ytbaliaodioflfaa
