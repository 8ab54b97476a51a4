/-
  Walks through layer 6 of the document: Hash, Derive, Mix. For every store and every names.
-/
import Derived.Test.YtbaliaodioflfaaHd2
import Derived.Test.YtbaliaodioflfaaPureL
namespace Go.Proofs.Ytbaliaodioflfaa
open Go.RowKit

set_option maxRecDepth 100000 in
set_option maxHeartbeats 1000000 in
theorem rhash_calls {W w : World} {Rs : List Res} {b : Nat} {L : List T} {m : Int} (x y : Int) (h : Hd W w (RSto b L m :: Rs)) :
    Calls Try.prog 70 #[.pointer (some ⟨b, 0, none⟩), .int .i64 x, .int .i64 y] w fun e w' => e = .returned (.tuple #[.int .i64 (put m L (hasT x y)).1, .int .i64 (put m L (hasT x y)).2.1]) ∧ Hd W w' (RSto b (put m L (hasT x y)).2.2 m :: Rs) := by
  obtain ⟨r1, r2, L2, hq⟩ : ∃ r1 r2 L2, put m L (hasT x y) = (r1, r2, L2) := ⟨_, _, _, rfl⟩
  rw [hq]
  have Hq := hid hq
  have H := hid h
  clear hq h
  go_enter Try.func70, Try.ntmps70
  go_wp2_with fail
  refine (rput_c 8 ⟨#[]⟩ 0 x y 0 Hq (by first | exact H.out | exact H.out.al | exact H.out.al.al | exact H.out.al.al.al | exact H.out.al.al.al.al)).mono ?_
  rintro e w1 ⟨rfl, h1⟩
  replace H := hid h1
  clear h1
  go_wp2_with fail
  go_ret2
  exact ⟨rfl, H.out⟩

set_option maxRecDepth 100000 in
set_option maxHeartbeats 1000000 in
theorem rderive_calls {W w : World} {Rs : List Res} {b : Nat} {L : List T} {m : Int} (k n : Int) (h : Hd W w (RSto b L m :: Rs)) :
    Calls Try.prog 98 #[.pointer (some ⟨b, 0, none⟩), .int .i64 k, .int .u64 n] w fun e w' => e = .returned (.tuple #[.int .i64 (put m L (keyT k n)).1, .int .i64 (put m L (keyT k n)).2.1]) ∧ Hd W w' (RSto b (put m L (keyT k n)).2.2 m :: Rs) := by
  obtain ⟨r1, r2, L2, hq⟩ : ∃ r1 r2 L2, put m L (keyT k n) = (r1, r2, L2) := ⟨_, _, _, rfl⟩
  rw [hq]
  have Hq := hid hq
  have H := hid h
  clear hq h
  go_enter Try.func98, Try.ntmps98
  go_wp2_with fail
  refine (rput_c 9 ⟨#[]⟩ n k 0 0 Hq (by first | exact H.out | exact H.out.al | exact H.out.al.al | exact H.out.al.al.al | exact H.out.al.al.al.al)).mono ?_
  rintro e w1 ⟨rfl, h1⟩
  replace H := hid h1
  clear h1
  go_wp2_with fail
  go_ret2
  exact ⟨rfl, H.out⟩

theorem rhash_c {W w : World} {Rs : List Res} {b : Nat} {L : List T} {m : Int} (x y : Int) {r1 r2 : Int} {L2 : List T} (hq : Hid (put m L (hasT x y) = (r1, r2, L2))) (h : Hd W w (RSto b L m :: Rs)) :
    Calls Try.prog 70 #[.pointer (some ⟨b, 0, none⟩), .int .i64 x, .int .i64 y] w fun e w' => e = .returned (.tuple #[.int .i64 r1, .int .i64 r2]) ∧ Hd W w' (RSto b L2 m :: Rs) := by
  have := rhash_calls x y h
  rw [hq.out] at this
  exact this

theorem rderive_c {W w : World} {Rs : List Res} {b : Nat} {L : List T} {m : Int} (k n : Int) {r1 r2 : Int} {L2 : List T} (hq : Hid (put m L (keyT k n) = (r1, r2, L2))) (h : Hd W w (RSto b L m :: Rs)) :
    Calls Try.prog 98 #[.pointer (some ⟨b, 0, none⟩), .int .i64 k, .int .u64 n] w fun e w' => e = .returned (.tuple #[.int .i64 r1, .int .i64 r2]) ∧ Hd W w' (RSto b L2 m :: Rs) := by
  have := rderive_calls k n h
  rw [hq.out] at this
  exact this

set_option maxRecDepth 100000 in
set_option maxHeartbeats 4000000 in
theorem rmix_calls {W w : World} {Rs : List Res} {b : Nat} {L : List T} {m : Int} (k i : Int) (h : Hd W w (RSto b L m :: Rs)) :
    Calls Try.prog 72 #[.pointer (some ⟨b, 0, none⟩), .int .i64 k, .int .i64 i] w fun e w' => e = .returned (.tuple #[.int .i64 (mix6 m L k i).1, .int .i64 (mix6 m L k i).2.1, .int .i64 (mix6 m L k i).2.2.1]) ∧ Hd W w' (RSto b (mix6 m L k i).2.2.2 m :: Rs) := by
  have H := hid h
  clear h
  obtain ⟨R, hR⟩ : ∃ R, mix6 m L k i = R := ⟨_, rfl⟩
  rw [hR]
  have HR := hid hR
  clear hR
  go_enter Try.func72, Try.ntmps72
  obtain ⟨h1, e1, L1, hq⟩ : ∃ h1 e1 L1, put m L (hasT k i) = (h1, e1, L1) := ⟨_, _, _, rfl⟩
  have Hq1 := hid hq
  clear hq
  go_wp2_with fail
  refine (rhash_c k i Hq1 (by first | exact H.out | exact H.out.al | exact H.out.al.al | exact H.out.al.al.al | exact H.out.al.al.al.al)).mono ?_
  rintro e w1 ⟨rfl, h1⟩
  replace H := hid h1
  clear h1
  by_cases hk : e1 = 0
  case neg =>
    have dE10 : (e1 != 0) = true := by simp [hk]
    have E1 := hid hk
    clear hk
    go_wp2_with fail
    go_ret3
    have hR := HR.out
    simp [mix6, Hq1.out, E1.out] at hR
    subst hR
    exact ⟨rfl, (by first | exact H.out | exact H.out.al | exact H.out.al.al | exact H.out.al.al.al | exact H.out.al.al.al.al)⟩
  have dE10 : (e1 != 0) = false := by simp [hk]
  have E1 := hid hk
  clear hk
  obtain ⟨h2, e2, L2, hq⟩ : ∃ h2 e2 L2, put m L1 (keyT h1 1) = (h2, e2, L2) := ⟨_, _, _, rfl⟩
  have Hq2 := hid hq
  clear hq
  go_wp2_with fail
  refine (rderive_c h1 1 Hq2 (by first | exact H.out | exact H.out.al | exact H.out.al.al | exact H.out.al.al.al | exact H.out.al.al.al.al)).mono ?_
  rintro e w2 ⟨rfl, h1⟩
  replace H := hid h1
  clear h1
  by_cases hk : e2 = 0
  case neg =>
    have dE20 : (e2 != 0) = true := by simp [hk]
    have E2 := hid hk
    clear hk
    go_wp2_with fail
    go_ret3
    have hR := HR.out
    simp [mix6, Hq1.out, E1.out, Hq2.out, E2.out] at hR
    subst hR
    exact ⟨rfl, (by first | exact H.out | exact H.out.al | exact H.out.al.al | exact H.out.al.al.al | exact H.out.al.al.al.al)⟩
  have dE20 : (e2 != 0) = false := by simp [hk]
  have E2 := hid hk
  clear hk
  obtain ⟨h3, e3, L3, hq⟩ : ∃ h3 e3 L3, put m L2 (keyT h1 2) = (h3, e3, L3) := ⟨_, _, _, rfl⟩
  have Hq3 := hid hq
  clear hq
  go_wp2_with fail
  refine (rderive_c h1 2 Hq3 (by first | exact H.out | exact H.out.al | exact H.out.al.al | exact H.out.al.al.al | exact H.out.al.al.al.al)).mono ?_
  rintro e w3 ⟨rfl, h1⟩
  replace H := hid h1
  clear h1
  by_cases hk : e3 = 0
  case neg =>
    have dE30 : (e3 != 0) = true := by simp [hk]
    have E3 := hid hk
    clear hk
    go_wp2_with fail
    go_ret3
    have hR := HR.out
    simp [mix6, Hq1.out, E1.out, Hq2.out, E2.out, Hq3.out, E3.out] at hR
    subst hR
    exact ⟨rfl, (by first | exact H.out | exact H.out.al | exact H.out.al.al | exact H.out.al.al.al | exact H.out.al.al.al.al)⟩
  have dE30 : (e3 != 0) = false := by simp [hk]
  have E3 := hid hk
  clear hk
  go_wp2_with fail
  go_ret3
  have hR := HR.out
  simp [mix6, Hq1.out, E1.out, Hq2.out, E2.out, Hq3.out, E3.out] at hR
  subst hR
  exact ⟨rfl, (by first | exact H.out | exact H.out.al | exact H.out.al.al | exact H.out.al.al.al | exact H.out.al.al.al.al)⟩

end Go.Proofs.Ytbaliaodioflfaa
