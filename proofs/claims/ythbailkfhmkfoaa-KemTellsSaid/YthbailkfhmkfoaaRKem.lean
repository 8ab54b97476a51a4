/-
  Walks through layer 4 of the document. For every store and every names.
-/
import Derived.Test.YthbailkfhmkfoaaHd2
import Derived.Test.YthbailkfhmkfoaaPureL
namespace Go.Proofs.Ythbailkfhmkfoaa
open Go.RowKit

set_option maxRecDepth 100000 in
set_option maxHeartbeats 1000000 in
theorem rkpub_calls {W w : World} {Rs : List Res} {b : Nat} {L : List T} {m : Int} (x : Int) (h : Hd W w (RSto b L m :: Rs)) :
    Calls Try.prog 28 #[.pointer (some ⟨b, 0, none⟩), .int .i64 x] w fun e w' => e = .returned (.tuple #[.int .i64 (put m L (kpuT x)).1, .int .i64 (put m L (kpuT x)).2.1]) ∧ Hd W w' (RSto b (put m L (kpuT x)).2.2 m :: Rs) := by
  obtain ⟨r1, r2, L2, hq⟩ : ∃ r1 r2 L2, put m L (kpuT x) = (r1, r2, L2) := ⟨_, _, _, rfl⟩
  rw [hq]
  have Hq := hid hq
  have H := hid h
  clear hq h
  go_enter Try.func28, Try.ntmps28
  go_wp2_with fail
  refine (rput_c 5 ⟨#[]⟩ 0 x 0 0 Hq (by first | exact H.out | exact H.out.al | exact H.out.al.al | exact H.out.al.al.al | exact H.out.al.al.al.al)).mono ?_
  rintro e w1 ⟨rfl, h1⟩
  replace H := hid h1
  clear h1
  go_wp2_with fail
  go_ret2
  exact ⟨rfl, H.out⟩

theorem kn_there {L : List T} {x k : Int} (hk0 : k ≠ 0) (hk : (getT L x).k = k) : getB L x = true := by
  by_cases hx : 1 ≤ x ∧ x ≤ L.length
  · obtain ⟨t, ht⟩ := at_of hx.1 hx.2
    exact ht.getT.2
  · have := (getT_out (L := L) (x := x) (by omega)).1
    rw [this] at hk
    exact absurd hk.symm hk0

set_option maxRecDepth 100000 in
set_option maxHeartbeats 4000000 in
theorem rwrap_calls {W w : World} {Rs : List Res} {b : Nat} {L : List T} {m : Int} (p d : Int) (h : Hd W w (RSto b L m :: Rs)) :
    Calls Try.prog 30 #[.pointer (some ⟨b, 0, none⟩), .int .i64 p, .int .i64 d] w fun e w' => e = .returned (.tuple #[.int .i64 (wrap4 m L p d).1, .int .i64 (wrap4 m L p d).2.1, .int .i64 (wrap4 m L p d).2.2.1]) ∧ Hd W w' (RSto b (wrap4 m L p d).2.2.2 m :: Rs) := by
  have H := hid h
  clear h
  obtain ⟨k, s, n, a, b2, c, hq⟩ : ∃ k s n a b2 c, getT L p = ⟨k, s, n, a, b2, c⟩ := ⟨_, _, _, _, _, _, rfl⟩
  have Ht := hid hq
  clear hq
  obtain ⟨is, hq⟩ : ∃ is, getB L p = is := ⟨_, rfl⟩
  have Hi := hid hq
  clear hq
  obtain ⟨k9, s9, n9, a9, b9, c9, hq⟩ : ∃ k9 s9 n9 a9 b9 c9, getT L d = ⟨k9, s9, n9, a9, b9, c9⟩ := ⟨_, _, _, _, _, _, rfl⟩
  have Ht9 := hid hq
  clear hq
  obtain ⟨is9, hq⟩ : ∃ is9, getB L d = is9 := ⟨_, rfl⟩
  have Hi9 := hid hq
  clear hq
  obtain ⟨R, hR⟩ : ∃ R, wrap4 m L p d = R := ⟨_, rfl⟩
  rw [hR]
  have HR := hid hR
  clear hR
  have hz : is = false → ¬ k = 5 := fun e hk => by
    have h5 : (getT L p).k = 5 := by rw [Ht.out]; exact hk
    have := kn_there (k := 5) (by decide) h5
    rw [Hi.out, e] at this
    exact Bool.noConfusion this
  have Hz := hid hz
  clear hz
  rcases is with _ | _
  · have K := hid (Hz.out rfl)
    clear Hz
    rcases is9 with _ | _
    all_goals
      go_enter Try.func30, Try.ntmps30
      go_wp2_with fail
      refine (rget_c p (by first | exact H.out | exact H.out.al | exact H.out.al.al | exact H.out.al.al.al | exact H.out.al.al.al.al)).mono ?_
      rw [Ht.out, Hi.out]
      simp only [T.val]
      rintro e w1 ⟨rfl, h1⟩
      replace H := hid h1
      clear h1
      go_wp2_with fail
      refine (rget_c d (by first | exact H.out.bx | exact H.out.bx.al | exact H.out.bx.al.al | exact H.out.al.bx)).mono ?_
      rw [Ht9.out, Hi9.out]
      simp only [T.val]
      rintro e w2 ⟨rfl, h1⟩
      replace H := hid h1
      clear h1
      have hk0 := H.out.swap.blk
      have d0 := (cell_of_heap hk0 0).trans (show _ = some (.int .i64 k) from rfl)
      have d3 := (cell_of_heap hk0 3).trans (show _ = some (.int .i64 a) from rfl)
      have lt0 := (Array.getElem?_eq_some_iff.1 hk0).1
      clear hk0
      go_wp2_with fail
      go_ret3
      have hR := HR.out
      simp [wrap4, Ht.out, K.out] at hR
      subst hR
      exact ⟨rfl, (by first | exact H.out.un2 | exact H.out.al.un2 | exact H.out.al.al.un2 | exact H.out.al.al.al.un2)⟩
  rcases is9 with _ | _
  · clear Hz
    go_enter Try.func30, Try.ntmps30
    go_wp2_with fail
    refine (rget_c p (by first | exact H.out | exact H.out.al | exact H.out.al.al | exact H.out.al.al.al | exact H.out.al.al.al.al)).mono ?_
    rw [Ht.out, Hi.out]
    simp only [T.val]
    rintro e w3 ⟨rfl, h1⟩
    replace H := hid h1
    clear h1
    go_wp2_with fail
    refine (rget_c d (by first | exact H.out.bx | exact H.out.bx.al | exact H.out.bx.al.al | exact H.out.al.bx)).mono ?_
    rw [Ht9.out, Hi9.out]
    simp only [T.val]
    rintro e w4 ⟨rfl, h1⟩
    replace H := hid h1
    clear h1
    have hk0 := H.out.swap.blk
    have d0 := (cell_of_heap hk0 0).trans (show _ = some (.int .i64 k) from rfl)
    have d3 := (cell_of_heap hk0 3).trans (show _ = some (.int .i64 a) from rfl)
    have lt0 := (Array.getElem?_eq_some_iff.1 hk0).1
    clear hk0
    go_wp2_with fail
    go_ret3
    have hR := HR.out
    simp [wrap4, Hi9.out] at hR
    subst hR
    exact ⟨rfl, (by first | exact H.out.un2 | exact H.out.al.un2 | exact H.out.al.al.un2 | exact H.out.al.al.al.un2)⟩
  clear Hz
  by_cases hk : k = 5
  case neg =>
    have dK0 : (k != 5) = true := by simp [hk]
    have K := hid hk
    clear hk
    go_enter Try.func30, Try.ntmps30
    go_wp2_with fail
    refine (rget_c p (by first | exact H.out | exact H.out.al | exact H.out.al.al | exact H.out.al.al.al | exact H.out.al.al.al.al)).mono ?_
    rw [Ht.out, Hi.out]
    simp only [T.val]
    rintro e w5 ⟨rfl, h1⟩
    replace H := hid h1
    clear h1
    go_wp2_with fail
    refine (rget_c d (by first | exact H.out.bx | exact H.out.bx.al | exact H.out.bx.al.al | exact H.out.al.bx)).mono ?_
    rw [Ht9.out, Hi9.out]
    simp only [T.val]
    rintro e w6 ⟨rfl, h1⟩
    replace H := hid h1
    clear h1
    have hk0 := H.out.swap.blk
    have d0 := (cell_of_heap hk0 0).trans (show _ = some (.int .i64 k) from rfl)
    have d3 := (cell_of_heap hk0 3).trans (show _ = some (.int .i64 a) from rfl)
    have lt0 := (Array.getElem?_eq_some_iff.1 hk0).1
    clear hk0
    go_wp2_with fail
    go_ret3
    have hR := HR.out
    simp [wrap4, Ht.out, K.out] at hR
    subst hR
    exact ⟨rfl, (by first | exact H.out.un2 | exact H.out.al.un2 | exact H.out.al.al.un2 | exact H.out.al.al.al.un2)⟩
  have dK0 : (k != 5) = false := by simp [hk]
  have K := hid hk
  clear hk
  go_enter Try.func30, Try.ntmps30
  go_wp2_with fail
  refine (rget_c p (by first | exact H.out | exact H.out.al | exact H.out.al.al | exact H.out.al.al.al | exact H.out.al.al.al.al)).mono ?_
  rw [Ht.out, Hi.out]
  simp only [T.val]
  rintro e w7 ⟨rfl, h1⟩
  replace H := hid h1
  clear h1
  go_wp2_with fail
  refine (rget_c d (by first | exact H.out.bx | exact H.out.bx.al | exact H.out.bx.al.al | exact H.out.al.bx)).mono ?_
  rw [Ht9.out, Hi9.out]
  simp only [T.val]
  rintro e w8 ⟨rfl, h1⟩
  replace H := hid h1
  clear h1
  have hk0 := H.out.swap.blk
  have d0 := (cell_of_heap hk0 0).trans (show _ = some (.int .i64 k) from rfl)
  have d3 := (cell_of_heap hk0 3).trans (show _ = some (.int .i64 a) from rfl)
  have lt0 := (Array.getElem?_eq_some_iff.1 hk0).1
  clear hk0
  obtain ⟨r1, r2, L2, hq⟩ : ∃ r1 r2 L2, put m L (boxT a d) = (r1, r2, L2) := ⟨_, _, _, rfl⟩
  have Hq1 := hid hq
  clear hq
  go_wp2_with fail
  refine (rput_c 6 ⟨#[]⟩ 0 a d 0 Hq1 (by first | exact H.out | exact H.out.al | exact H.out.al.al | exact H.out.al.al.al | exact H.out.al.al.al.al)).mono ?_
  rintro e w9 ⟨rfl, h1⟩
  replace H := hid h1
  clear h1
  clear d0 d3 lt0
  by_cases hk : r2 = 0
  case neg =>
    have dE10 : (r2 != 0) = true := by simp [hk]
    have E1 := hid hk
    clear hk
    go_wp2_with fail
    go_ret3
    have hR := HR.out
    simp [wrap4, Ht.out, K.out, Hi9.out, Hq1.out, E1.out] at hR
    subst hR
    exact ⟨rfl, (by first | exact H.out.un2 | exact H.out.al.un2 | exact H.out.al.al.un2 | exact H.out.al.al.al.un2)⟩
  have dE10 : (r2 != 0) = false := by simp [hk]
  have E1 := hid hk
  clear hk
  obtain ⟨s1, s2, L3, hq⟩ : ∃ s1 s2 L3, put m L2 (kemT a d) = (s1, s2, L3) := ⟨_, _, _, rfl⟩
  have Hq2 := hid hq
  clear hq
  have hk0 := H.out.swap.blk
  have d3 := (cell_of_heap hk0 3).trans (show _ = some (.int .i64 a) from rfl)
  have lt0 := (Array.getElem?_eq_some_iff.1 hk0).1
  clear hk0
  go_wp2_with fail
  refine (rput_c 7 ⟨#[]⟩ 0 a d 0 Hq2 (by first | exact H.out | exact H.out.al | exact H.out.al.al | exact H.out.al.al.al | exact H.out.al.al.al.al)).mono ?_
  rintro e w10 ⟨rfl, h1⟩
  replace H := hid h1
  clear h1 d3 lt0
  by_cases hk : s2 = 0
  case neg =>
    have dE20 : (s2 != 0) = true := by simp [hk]
    have E2 := hid hk
    clear hk
    go_wp2_with fail
    go_ret3
    have hR := HR.out
    simp [wrap4, Ht.out, K.out, Hi9.out, Hq1.out, E1.out, Hq2.out, E2.out] at hR
    subst hR
    exact ⟨rfl, (by first | exact H.out.un2 | exact H.out.al.un2 | exact H.out.al.al.un2 | exact H.out.al.al.al.un2)⟩
  have dE20 : (s2 != 0) = false := by simp [hk]
  have E2 := hid hk
  clear hk
  go_wp2_with fail
  go_ret3
  have hR := HR.out
  simp [wrap4, Ht.out, K.out, Hi9.out, Hq1.out, E1.out, Hq2.out, E2.out] at hR
  subst hR
  exact ⟨rfl, (by first | exact H.out.un2 | exact H.out.al.un2 | exact H.out.al.al.un2 | exact H.out.al.al.al.un2)⟩

set_option maxRecDepth 100000 in
set_option maxHeartbeats 4000000 in
theorem rkopen_calls {W w : World} {Rs : List Res} {b : Nat} {L : List T} {m : Int} (s x : Int) (h : Hd W w (RSto b L m :: Rs)) :
    Calls Try.prog 32 #[.pointer (some ⟨b, 0, none⟩), .int .i64 s, .int .i64 x] w fun e w' => e = .returned (.tuple #[.int .i64 (open4 m L s x).1, .int .i64 (open4 m L s x).2.1]) ∧ Hd W w' (RSto b (open4 m L s x).2.2 m :: Rs) := by
  have H := hid h
  clear h
  obtain ⟨k9, s9, n9, a9, b9, c9, hq⟩ : ∃ k9 s9 n9 a9 b9 c9, getT L s = ⟨k9, s9, n9, a9, b9, c9⟩ := ⟨_, _, _, _, _, _, rfl⟩
  have Ht9 := hid hq
  clear hq
  obtain ⟨is9, hq⟩ : ∃ is9, getB L s = is9 := ⟨_, rfl⟩
  have Hi9 := hid hq
  clear hq
  obtain ⟨k, s8, n, a, b2, c, hq⟩ : ∃ k s8 n a b2 c, getT L x = ⟨k, s8, n, a, b2, c⟩ := ⟨_, _, _, _, _, _, rfl⟩
  have Ht := hid hq
  clear hq
  obtain ⟨is, hq⟩ : ∃ is, getB L x = is := ⟨_, rfl⟩
  have Hi := hid hq
  clear hq
  obtain ⟨R, hR⟩ : ∃ R, open4 m L s x = R := ⟨_, rfl⟩
  rw [hR]
  have HR := hid hR
  clear hR
  rcases is9 with _ | _
  · skip
    go_enter Try.func32, Try.ntmps32
    go_wp2_with fail
    refine (rget_c s (by first | exact H.out | exact H.out.al | exact H.out.al.al | exact H.out.al.al.al | exact H.out.al.al.al.al)).mono ?_
    rw [Ht9.out, Hi9.out]
    simp only [T.val]
    rintro e w1 ⟨rfl, h1⟩
    replace H := hid h1
    clear h1
    go_wp2_with fail
    refine (rget_c x (by first | exact H.out | exact H.out.al | exact H.out.al.al | exact H.out.al.al.al | exact H.out.al.al.al.al)).mono ?_
    rw [Ht.out, Hi.out]
    simp only [T.val]
    rintro e w2 ⟨rfl, h1⟩
    replace H := hid h1
    clear h1
    go_wp2_with fail
    go_ret2
    have hR := HR.out
    simp [open4, Hi9.out] at hR
    subst hR
    exact ⟨rfl, (by first | exact H.out | exact H.out.al | exact H.out.al.al | exact H.out.al.al.al | exact H.out.al.al.al.al)⟩
  rcases is with _ | _
  · skip
    go_enter Try.func32, Try.ntmps32
    go_wp2_with fail
    refine (rget_c s (by first | exact H.out | exact H.out.al | exact H.out.al.al | exact H.out.al.al.al | exact H.out.al.al.al.al)).mono ?_
    rw [Ht9.out, Hi9.out]
    simp only [T.val]
    rintro e w3 ⟨rfl, h1⟩
    replace H := hid h1
    clear h1
    go_wp2_with fail
    refine (rget_c x (by first | exact H.out | exact H.out.al | exact H.out.al.al | exact H.out.al.al.al | exact H.out.al.al.al.al)).mono ?_
    rw [Ht.out, Hi.out]
    simp only [T.val]
    rintro e w4 ⟨rfl, h1⟩
    replace H := hid h1
    clear h1
    go_wp2_with fail
    go_ret2
    have hR := HR.out
    simp [open4, Hi9.out, Hi.out] at hR
    subst hR
    exact ⟨rfl, (by first | exact H.out | exact H.out.al | exact H.out.al.al | exact H.out.al.al.al | exact H.out.al.al.al.al)⟩
  by_cases hk : k = 6
  case neg =>
    have dK0 : (k != 6) = true := by simp [hk]
    have K := hid hk
    clear hk
    go_enter Try.func32, Try.ntmps32
    go_wp2_with fail
    refine (rget_c s (by first | exact H.out | exact H.out.al | exact H.out.al.al | exact H.out.al.al.al | exact H.out.al.al.al.al)).mono ?_
    rw [Ht9.out, Hi9.out]
    simp only [T.val]
    rintro e w5 ⟨rfl, h1⟩
    replace H := hid h1
    clear h1
    go_wp2_with fail
    refine (rget_c x (by first | exact H.out | exact H.out.al | exact H.out.al.al | exact H.out.al.al.al | exact H.out.al.al.al.al)).mono ?_
    rw [Ht.out, Hi.out]
    simp only [T.val]
    rintro e w6 ⟨rfl, h1⟩
    replace H := hid h1
    clear h1
    go_wp2_with fail
    go_ret2
    have hR := HR.out
    simp [open4, Ht.out, Hi9.out, Hi.out, K.out] at hR
    subst hR
    exact ⟨rfl, (by first | exact H.out | exact H.out.al | exact H.out.al.al | exact H.out.al.al.al | exact H.out.al.al.al.al)⟩
  have dK0 : (k != 6) = false := by simp [hk]
  have K := hid hk
  clear hk
  by_cases hk : a = s
  case neg =>
    have dA0 : (a != s) = true := by simp [hk]
    have A := hid hk
    clear hk
    go_enter Try.func32, Try.ntmps32
    go_wp2_with fail
    refine (rget_c s (by first | exact H.out | exact H.out.al | exact H.out.al.al | exact H.out.al.al.al | exact H.out.al.al.al.al)).mono ?_
    rw [Ht9.out, Hi9.out]
    simp only [T.val]
    rintro e w7 ⟨rfl, h1⟩
    replace H := hid h1
    clear h1
    go_wp2_with fail
    refine (rget_c x (by first | exact H.out | exact H.out.al | exact H.out.al.al | exact H.out.al.al.al | exact H.out.al.al.al.al)).mono ?_
    rw [Ht.out, Hi.out]
    simp only [T.val]
    rintro e w8 ⟨rfl, h1⟩
    replace H := hid h1
    clear h1
    go_wp2_with fail
    go_ret2
    have hR := HR.out
    simp [open4, Ht.out, Hi9.out, Hi.out, K.out, A.out] at hR
    subst hR
    exact ⟨rfl, (by first | exact H.out | exact H.out.al | exact H.out.al.al | exact H.out.al.al.al | exact H.out.al.al.al.al)⟩
  have dA0 : (a != s) = false := by simp [hk]
  have A := hid hk
  clear hk
  go_enter Try.func32, Try.ntmps32
  go_wp2_with fail
  refine (rget_c s (by first | exact H.out | exact H.out.al | exact H.out.al.al | exact H.out.al.al.al | exact H.out.al.al.al.al)).mono ?_
  rw [Ht9.out, Hi9.out]
  simp only [T.val]
  rintro e w9 ⟨rfl, h1⟩
  replace H := hid h1
  clear h1
  go_wp2_with fail
  refine (rget_c x (by first | exact H.out | exact H.out.al | exact H.out.al.al | exact H.out.al.al.al | exact H.out.al.al.al.al)).mono ?_
  rw [Ht.out, Hi.out]
  simp only [T.val]
  rintro e w10 ⟨rfl, h1⟩
  replace H := hid h1
  clear h1
  obtain ⟨r1, r2, L2, hq⟩ : ∃ r1 r2 L2, put m L (kemT s b2) = (r1, r2, L2) := ⟨_, _, _, rfl⟩
  have Hq1 := hid hq
  clear hq
  go_wp2_with fail
  refine (rput_c 7 ⟨#[]⟩ 0 s b2 0 Hq1 (by first | exact H.out | exact H.out.al | exact H.out.al.al | exact H.out.al.al.al | exact H.out.al.al.al.al)).mono ?_
  rintro e w11 ⟨rfl, h1⟩
  replace H := hid h1
  clear h1
  go_wp2_with fail
  go_ret2
  have hR := HR.out
  simp [open4, Ht.out, Hi9.out, Hi.out, K.out, A.out, Hq1.out] at hR
  subst hR
  exact ⟨rfl, (by first | exact H.out | exact H.out.al | exact H.out.al.al | exact H.out.al.al.al | exact H.out.al.al.al.al)⟩

end Go.Proofs.Ythbailkfhmkfoaa
