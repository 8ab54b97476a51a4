/-
  Walks through layer 5 of the program: Seal, is, Open, Text, Read. For every store and every names.
-/
import Derived.Test.YtbaliaodioflfaaHd2
import Derived.Test.YtbaliaodioflfaaPureL
namespace Go.Proofs.Ytbaliaodioflfaa
open Go.RowKit

set_option maxRecDepth 100000 in
set_option maxHeartbeats 1000000 in
theorem seal_calls {W w : World} {Rs : List Res} {b : Nat} {L : List T} {m : Int} (k n c d : Int) (h : Hd W w (Sto b L m :: Rs)) :
    Calls Try.prog 74 #[.pointer (some ⟨b, 0, none⟩), .int .i64 k, .int .u64 n, .int .i64 c, .int .i64 d] w fun e w' => e = .returned (.tuple #[.int .i64 (put m L (seaT k n c d)).1, .int .i64 (put m L (seaT k n c d)).2.1]) ∧ Hd W w' (Sto b (put m L (seaT k n c d)).2.2 m :: Rs) := by
  obtain ⟨r1, r2, L2, hq⟩ : ∃ r1 r2 L2, put m L (seaT k n c d) = (r1, r2, L2) := ⟨_, _, _, rfl⟩
  rw [hq]
  have Hq := hid hq
  have H := hid h
  clear hq h
  go_enter Try.func74, Try.ntmps74
  go_wp2_with fail
  refine (put_c 10 ⟨#[]⟩ n k c d Hq (by first | exact H.out | exact H.out.al | exact H.out.al.al | exact H.out.al.al.al | exact H.out.al.al.al.al)).mono ?_
  rintro e w1 ⟨rfl, h1⟩
  replace H := hid h1
  clear h1
  go_wp2_with fail
  go_ret2
  exact ⟨rfl, H.out⟩

theorem seal_c {W w : World} {Rs : List Res} {b : Nat} {L : List T} {m : Int} (k n c d : Int) {r1 r2 : Int} {L2 : List T} (hq : Hid (put m L (seaT k n c d) = (r1, r2, L2))) (h : Hd W w (Sto b L m :: Rs)) :
    Calls Try.prog 74 #[.pointer (some ⟨b, 0, none⟩), .int .i64 k, .int .u64 n, .int .i64 c, .int .i64 d] w fun e w' => e = .returned (.tuple #[.int .i64 r1, .int .i64 r2]) ∧ Hd W w' (Sto b L2 m :: Rs) := by
  have := seal_calls k n c d h
  rw [hq.out] at this
  exact this

theorem open5_eq {L : List T} {k n b s : Int} (g : Good L) : open5 L k n b s =
    if getB L k = true ∧ getB L b = true ∧ getB L s = true then
      if (getT L s).k = 10 ∧ (getT L s).a = k ∧ (getT L s).n = n ∧ (getT L s).b = b then ((getT L s).c, 0) else (0, 9)
    else (0, 1) := by
  unfold open5
  by_cases h : getT L s = seaT k n b (getT L s).c
  · rw [if_pos h, if_pos ((sea_iff g).1 h)]
  · rw [if_neg h, if_neg fun hh => h ((sea_iff g).2 hh)]

theorem open5_ok {L : List T} {k n b s p : Int} (g : Good L) (h : open5 L k n b s = (p, 0)) : In L p := by
  unfold open5 at h
  split at h
  · rename_i h1
    split at h
    · rename_i h2
      simp only [Prod.mk.injEq, and_true] at h
      by_cases hs : 1 ≤ s ∧ s ≤ L.length
      · have ha := at_getT hs.1 hs.2
        rw [h2] at ha
        have := ha.part g (p := p) (by rw [← h]; simp [seaT, T.parts, many])
        exact ⟨this.1, by have := ha.hi; omega⟩
      · have := (getT_out (L := L) (x := s) (by omega)).2
        rw [this] at h1
        exact Bool.noConfusion h1.2.2
    · simp at h
  · simp at h

set_option maxHeartbeats 1000000 in
theorem ais_c {W w : World} {Rs : List Res} {b : Nat} {L : List T} {m : Int} (x : Int) (h : Hd W w (Sto b L m :: Rs)) :
    Calls Try.prog 99 #[.pointer (some ⟨b, 0, none⟩), .int .i64 x] w fun e w' => e = .returned (.bool (getB L x)) ∧ Hd W w' (Sto b L m :: Rs) := by
  have H := hid h
  clear h
  obtain ⟨k, s, n, a, b2, c, hq⟩ : ∃ k s n a b c, getT L x = ⟨k, s, n, a, b, c⟩ := ⟨_, _, _, _, _, _, rfl⟩
  have Ht := hid hq
  clear hq
  go_enter Try.func99, Try.ntmps99
  go_wp2_with fail
  refine (get_c x H.out).mono ?_
  rw [Ht.out]
  simp only [T.val]
  rintro e w1 ⟨rfl, h1⟩
  have H1 := hid h1
  clear h1 H
  go_wp2_with fail
  go_ret
  exact ⟨rfl, H1.out.al⟩

set_option maxRecDepth 100000 in
set_option maxHeartbeats 4000000 in
theorem aopen_calls {W w : World} {Rs : List Res} {b : Nat} {L : List T} {m : Int} (x n y z : Int) (h : Hd W w (Sto b L m :: Rs)) :
    Calls Try.prog 77 #[.pointer (some ⟨b, 0, none⟩), .int .i64 x, .int .u64 n, .int .i64 y, .int .i64 z] w fun e w' => e = .returned (.tuple #[.int .i64 (open5 L x n y z).1, .int .i64 (open5 L x n y z).2]) ∧ Hd W w' (Sto b L m :: Rs) := by
  obtain ⟨lb, db, mb, lc, dc, hs⟩ := h.sto
  have hgd := hs.good
  have HG := hid hgd
  clear hs hgd
  have H := hid h
  clear h
  obtain ⟨i1, hq⟩ : ∃ i1, getB L x = i1 := ⟨_, rfl⟩
  have Hi1 := hid hq
  clear hq
  obtain ⟨i2, hq⟩ : ∃ i2, getB L y = i2 := ⟨_, rfl⟩
  have Hi2 := hid hq
  clear hq
  obtain ⟨i3, hq⟩ : ∃ i3, getB L z = i3 := ⟨_, rfl⟩
  have Hi3 := hid hq
  clear hq
  obtain ⟨tk, ts, tn, ta, tb, tc, hq⟩ : ∃ tk ts tn ta tb tc, getT L z = ⟨tk, ts, tn, ta, tb, tc⟩ := ⟨_, _, _, _, _, _, rfl⟩
  have Ht := hid hq
  clear hq
  obtain ⟨R, hR⟩ : ∃ R, open5 L x n y z = R := ⟨_, rfl⟩
  rw [hR]
  have HR := hid hR
  clear hR
  rcases i1 with _ | _
  · skip
    go_enter Try.func77, Try.ntmps77
    go_wp2_with fail
    refine (ais_c x (by first | exact H.out | exact H.out.al | exact H.out.al.al | exact H.out.al.al.al | exact H.out.al.al.al.al)).mono ?_
    rw [Hi1.out]
    rintro e w1 ⟨rfl, h1⟩
    replace H := hid h1
    clear h1
    go_wp2_with fail
    go_ret2
    have hR := HR.out
    rw [open5_eq HG.out] at hR
    simp [Hi1.out] at hR
    subst hR
    exact ⟨rfl, (by first | exact H.out | exact H.out.al | exact H.out.al.al | exact H.out.al.al.al | exact H.out.al.al.al.al)⟩
  rcases i2 with _ | _
  · skip
    go_enter Try.func77, Try.ntmps77
    go_wp2_with fail
    refine (ais_c x (by first | exact H.out | exact H.out.al | exact H.out.al.al | exact H.out.al.al.al | exact H.out.al.al.al.al)).mono ?_
    rw [Hi1.out]
    rintro e w2 ⟨rfl, h1⟩
    replace H := hid h1
    clear h1
    go_wp2_with fail
    refine (ais_c y (by first | exact H.out | exact H.out.al | exact H.out.al.al | exact H.out.al.al.al | exact H.out.al.al.al.al)).mono ?_
    rw [Hi2.out]
    rintro e w3 ⟨rfl, h1⟩
    replace H := hid h1
    clear h1
    go_wp2_with fail
    go_ret2
    have hR := HR.out
    rw [open5_eq HG.out] at hR
    simp [Hi2.out] at hR
    subst hR
    exact ⟨rfl, (by first | exact H.out | exact H.out.al | exact H.out.al.al | exact H.out.al.al.al | exact H.out.al.al.al.al)⟩
  rcases i3 with _ | _
  · skip
    go_enter Try.func77, Try.ntmps77
    go_wp2_with fail
    refine (ais_c x (by first | exact H.out | exact H.out.al | exact H.out.al.al | exact H.out.al.al.al | exact H.out.al.al.al.al)).mono ?_
    rw [Hi1.out]
    rintro e w4 ⟨rfl, h1⟩
    replace H := hid h1
    clear h1
    go_wp2_with fail
    refine (ais_c y (by first | exact H.out | exact H.out.al | exact H.out.al.al | exact H.out.al.al.al | exact H.out.al.al.al.al)).mono ?_
    rw [Hi2.out]
    rintro e w5 ⟨rfl, h1⟩
    replace H := hid h1
    clear h1
    go_wp2_with fail
    refine (ais_c z (by first | exact H.out | exact H.out.al | exact H.out.al.al | exact H.out.al.al.al | exact H.out.al.al.al.al)).mono ?_
    rw [Hi3.out]
    rintro e w6 ⟨rfl, h1⟩
    replace H := hid h1
    clear h1
    go_wp2_with fail
    go_ret2
    have hR := HR.out
    rw [open5_eq HG.out] at hR
    simp [Hi3.out] at hR
    subst hR
    exact ⟨rfl, (by first | exact H.out | exact H.out.al | exact H.out.al.al | exact H.out.al.al.al | exact H.out.al.al.al.al)⟩
  by_cases hk : tk = 10
  case neg =>
    have dK0 : (tk != 10) = true := by simp [hk]
    have K := hid hk
    clear hk
    go_enter Try.func77, Try.ntmps77
    go_wp2_with fail
    refine (ais_c x (by first | exact H.out | exact H.out.al | exact H.out.al.al | exact H.out.al.al.al | exact H.out.al.al.al.al)).mono ?_
    rw [Hi1.out]
    rintro e w7 ⟨rfl, h1⟩
    replace H := hid h1
    clear h1
    go_wp2_with fail
    refine (ais_c y (by first | exact H.out | exact H.out.al | exact H.out.al.al | exact H.out.al.al.al | exact H.out.al.al.al.al)).mono ?_
    rw [Hi2.out]
    rintro e w8 ⟨rfl, h1⟩
    replace H := hid h1
    clear h1
    go_wp2_with fail
    refine (ais_c z (by first | exact H.out | exact H.out.al | exact H.out.al.al | exact H.out.al.al.al | exact H.out.al.al.al.al)).mono ?_
    rw [Hi3.out]
    rintro e w9 ⟨rfl, h1⟩
    replace H := hid h1
    clear h1
    go_wp2_with fail
    refine (get_c z (by first | exact H.out | exact H.out.al | exact H.out.al.al | exact H.out.al.al.al | exact H.out.al.al.al.al)).mono ?_
    rw [Ht.out, Hi3.out]
    simp only [T.val]
    rintro e w10 ⟨rfl, h1⟩
    replace H := hid h1
    clear h1
    go_wp2_with fail
    go_ret2
    have hR := HR.out
    rw [open5_eq HG.out] at hR
    simp [Hi1.out, Hi2.out, Hi3.out, Ht.out, K.out] at hR
    subst hR
    exact ⟨rfl, (by first | exact H.out | exact H.out.al | exact H.out.al.al | exact H.out.al.al.al | exact H.out.al.al.al.al)⟩
  have dK0 : (tk != 10) = false := by simp [hk]
  have K := hid hk
  clear hk
  by_cases hk : ta = x
  case neg =>
    have dA0 : (ta != x) = true := by simp [hk]
    have A := hid hk
    clear hk
    go_enter Try.func77, Try.ntmps77
    go_wp2_with fail
    refine (ais_c x (by first | exact H.out | exact H.out.al | exact H.out.al.al | exact H.out.al.al.al | exact H.out.al.al.al.al)).mono ?_
    rw [Hi1.out]
    rintro e w11 ⟨rfl, h1⟩
    replace H := hid h1
    clear h1
    go_wp2_with fail
    refine (ais_c y (by first | exact H.out | exact H.out.al | exact H.out.al.al | exact H.out.al.al.al | exact H.out.al.al.al.al)).mono ?_
    rw [Hi2.out]
    rintro e w12 ⟨rfl, h1⟩
    replace H := hid h1
    clear h1
    go_wp2_with fail
    refine (ais_c z (by first | exact H.out | exact H.out.al | exact H.out.al.al | exact H.out.al.al.al | exact H.out.al.al.al.al)).mono ?_
    rw [Hi3.out]
    rintro e w13 ⟨rfl, h1⟩
    replace H := hid h1
    clear h1
    go_wp2_with fail
    refine (get_c z (by first | exact H.out | exact H.out.al | exact H.out.al.al | exact H.out.al.al.al | exact H.out.al.al.al.al)).mono ?_
    rw [Ht.out, Hi3.out]
    simp only [T.val]
    rintro e w14 ⟨rfl, h1⟩
    replace H := hid h1
    clear h1
    go_wp2_with fail
    go_ret2
    have hR := HR.out
    rw [open5_eq HG.out] at hR
    simp [Hi1.out, Hi2.out, Hi3.out, Ht.out, K.out, A.out] at hR
    subst hR
    exact ⟨rfl, (by first | exact H.out | exact H.out.al | exact H.out.al.al | exact H.out.al.al.al | exact H.out.al.al.al.al)⟩
  have dA0 : (ta != x) = false := by simp [hk]
  have A := hid hk
  clear hk
  by_cases hk : tn = n
  case neg =>
    have dM0 : (tn != n) = true := by simp [hk]
    have M := hid hk
    clear hk
    go_enter Try.func77, Try.ntmps77
    go_wp2_with fail
    refine (ais_c x (by first | exact H.out | exact H.out.al | exact H.out.al.al | exact H.out.al.al.al | exact H.out.al.al.al.al)).mono ?_
    rw [Hi1.out]
    rintro e w15 ⟨rfl, h1⟩
    replace H := hid h1
    clear h1
    go_wp2_with fail
    refine (ais_c y (by first | exact H.out | exact H.out.al | exact H.out.al.al | exact H.out.al.al.al | exact H.out.al.al.al.al)).mono ?_
    rw [Hi2.out]
    rintro e w16 ⟨rfl, h1⟩
    replace H := hid h1
    clear h1
    go_wp2_with fail
    refine (ais_c z (by first | exact H.out | exact H.out.al | exact H.out.al.al | exact H.out.al.al.al | exact H.out.al.al.al.al)).mono ?_
    rw [Hi3.out]
    rintro e w17 ⟨rfl, h1⟩
    replace H := hid h1
    clear h1
    go_wp2_with fail
    refine (get_c z (by first | exact H.out | exact H.out.al | exact H.out.al.al | exact H.out.al.al.al | exact H.out.al.al.al.al)).mono ?_
    rw [Ht.out, Hi3.out]
    simp only [T.val]
    rintro e w18 ⟨rfl, h1⟩
    replace H := hid h1
    clear h1
    go_wp2_with fail
    go_ret2
    have hR := HR.out
    rw [open5_eq HG.out] at hR
    simp [Hi1.out, Hi2.out, Hi3.out, Ht.out, K.out, A.out, M.out] at hR
    subst hR
    exact ⟨rfl, (by first | exact H.out | exact H.out.al | exact H.out.al.al | exact H.out.al.al.al | exact H.out.al.al.al.al)⟩
  have dM0 : (tn != n) = false := by simp [hk]
  have M := hid hk
  clear hk
  by_cases hk : tb = y
  case neg =>
    have dB0 : (tb != y) = true := by simp [hk]
    have B := hid hk
    clear hk
    go_enter Try.func77, Try.ntmps77
    go_wp2_with fail
    refine (ais_c x (by first | exact H.out | exact H.out.al | exact H.out.al.al | exact H.out.al.al.al | exact H.out.al.al.al.al)).mono ?_
    rw [Hi1.out]
    rintro e w19 ⟨rfl, h1⟩
    replace H := hid h1
    clear h1
    go_wp2_with fail
    refine (ais_c y (by first | exact H.out | exact H.out.al | exact H.out.al.al | exact H.out.al.al.al | exact H.out.al.al.al.al)).mono ?_
    rw [Hi2.out]
    rintro e w20 ⟨rfl, h1⟩
    replace H := hid h1
    clear h1
    go_wp2_with fail
    refine (ais_c z (by first | exact H.out | exact H.out.al | exact H.out.al.al | exact H.out.al.al.al | exact H.out.al.al.al.al)).mono ?_
    rw [Hi3.out]
    rintro e w21 ⟨rfl, h1⟩
    replace H := hid h1
    clear h1
    go_wp2_with fail
    refine (get_c z (by first | exact H.out | exact H.out.al | exact H.out.al.al | exact H.out.al.al.al | exact H.out.al.al.al.al)).mono ?_
    rw [Ht.out, Hi3.out]
    simp only [T.val]
    rintro e w22 ⟨rfl, h1⟩
    replace H := hid h1
    clear h1
    go_wp2_with fail
    go_ret2
    have hR := HR.out
    rw [open5_eq HG.out] at hR
    simp [Hi1.out, Hi2.out, Hi3.out, Ht.out, K.out, A.out, M.out, B.out] at hR
    subst hR
    exact ⟨rfl, (by first | exact H.out | exact H.out.al | exact H.out.al.al | exact H.out.al.al.al | exact H.out.al.al.al.al)⟩
  have dB0 : (tb != y) = false := by simp [hk]
  have B := hid hk
  clear hk
  go_enter Try.func77, Try.ntmps77
  go_wp2_with fail
  refine (ais_c x (by first | exact H.out | exact H.out.al | exact H.out.al.al | exact H.out.al.al.al | exact H.out.al.al.al.al)).mono ?_
  rw [Hi1.out]
  rintro e w23 ⟨rfl, h1⟩
  replace H := hid h1
  clear h1
  go_wp2_with fail
  refine (ais_c y (by first | exact H.out | exact H.out.al | exact H.out.al.al | exact H.out.al.al.al | exact H.out.al.al.al.al)).mono ?_
  rw [Hi2.out]
  rintro e w24 ⟨rfl, h1⟩
  replace H := hid h1
  clear h1
  go_wp2_with fail
  refine (ais_c z (by first | exact H.out | exact H.out.al | exact H.out.al.al | exact H.out.al.al.al | exact H.out.al.al.al.al)).mono ?_
  rw [Hi3.out]
  rintro e w25 ⟨rfl, h1⟩
  replace H := hid h1
  clear h1
  go_wp2_with fail
  refine (get_c z (by first | exact H.out | exact H.out.al | exact H.out.al.al | exact H.out.al.al.al | exact H.out.al.al.al.al)).mono ?_
  rw [Ht.out, Hi3.out]
  simp only [T.val]
  rintro e w26 ⟨rfl, h1⟩
  replace H := hid h1
  clear h1
  go_wp2_with fail
  go_ret2
  have hR := HR.out
  rw [open5_eq HG.out] at hR
  simp [Hi1.out, Hi2.out, Hi3.out, Ht.out, K.out, A.out, M.out, B.out] at hR
  subst hR
  exact ⟨rfl, (by first | exact H.out | exact H.out.al | exact H.out.al.al | exact H.out.al.al.al | exact H.out.al.al.al.al)⟩

theorem aopen_c {W w : World} {Rs : List Res} {b : Nat} {L : List T} {m : Int} (x n y z : Int) {p e1 : Int} (hq : Hid (open5 L x n y z = (p, e1))) (h : Hd W w (Sto b L m :: Rs)) :
    Calls Try.prog 77 #[.pointer (some ⟨b, 0, none⟩), .int .i64 x, .int .u64 n, .int .i64 y, .int .i64 z] w fun e w' => e = .returned (.tuple #[.int .i64 p, .int .i64 e1]) ∧ Hd W w' (Sto b L m :: Rs) := by
  have := aopen_calls x n y z h
  rw [hq.out] at this
  exact this



end Go.Proofs.Ytbaliaodioflfaa
