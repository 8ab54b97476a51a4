/-
  Walks through layer 7 of the document: Begin, Hash, Mix, Split. For every store and every state.
-/
import Derived.Test.YtbaliaodioflfaaRKdf
import Derived.Test.YtbaliaodioflfaaRAead
import Derived.Test.YtbaliaodioflfaaPureS
namespace Go.Proofs.Ytbaliaodioflfaa
open Go.RowKit

set_option maxRecDepth 100000 in
set_option maxHeartbeats 4000000 in
theorem rsbegin_calls {W w : World} {Rs : List Res} {b : Nat} {L : List T} {m : Int} (s : ByteArray) (h : Hd W w (RSto b L m :: Rs)) :
    Calls Try.prog 26 #[.pointer (some ⟨b, 0, none⟩), .string s] w fun e w' => e = .returned (.tuple #[.agg #[.int .i64 (sBegin m L s).1.ck, .int .i64 (sBegin m L s).1.k, .int .i64 (sBegin m L s).1.h, .int .u64 (sBegin m L s).1.n], .int .i64 (sBegin m L s).2.1]) ∧ Hd W w' (RSto b (sBegin m L s).2.2 m :: Rs) := by
  have H := hid h
  clear h
  obtain ⟨R, hR⟩ : ∃ R, sBegin m L s = R := ⟨_, rfl⟩
  rw [hR]
  have HR := hid hR
  clear hR
  obtain ⟨p, e1, L1, hq⟩ : ∃ p e1 L1, put m L (txtT s) = (p, e1, L1) := ⟨_, _, _, rfl⟩
  have Hq1 := hid hq
  clear hq
  go_enter Try.func26, Try.ntmps26
  go_wp2_with fail
  refine (rput_c 1 s 0 0 0 0 Hq1 H.out.bx).mono ?_
  rintro e w1 ⟨rfl, h1⟩
  have H1 := hid h1
  clear h1 H
  have hk := H1.out.swap.blk
  have r0 := (cell_of_heap hk 0).trans (show _ = some (.int .i64 0) from rfl)
  have r1 := (cell_of_heap hk 1).trans (show _ = some (.int .i64 0) from rfl)
  have r2 := (cell_of_heap hk 2).trans (show _ = some (.int .i64 0) from rfl)
  have r3 := (cell_of_heap hk 3).trans (show _ = some (.int .u64 0) from rfl)
  have rf := frozen_of_heap hk
  have rl := (Array.getElem?_eq_some_iff.1 hk).1
  clear hk
  by_cases hk : e1 = 0
  case neg =>
    have dE10 : (e1 != 0) = true := by simp [hk]
    have E1 := hid hk
    clear hk
    go_wp2_with fail
    have hR := HR.out
    simp [sBegin, Hq1.out, E1.out] at hR
    subst hR
    refine bodyPost_ret (v := .tuple #[.agg #[.int .i64 0, .int .i64 0, .int .i64 0, .int .u64 0], .int .i64 e1]) (by simp [results, Try.results26, go_sem, r0, r1, r2, r3]) rfl ⟨rfl, ?_⟩
    exact ((((H1.out.swap.set 0 _).set 1 _).set 2 _).set 3 _).drop
  have dE10 : (e1 != 0) = false := by simp [hk]
  have E1 := hid hk
  clear hk
  go_wp2_with fail
  have hR := HR.out
  simp [sBegin, Hq1.out, E1.out] at hR
  subst hR
  refine bodyPost_ret (v := .tuple #[.agg #[.int .i64 p, .int .i64 0, .int .i64 p, .int .u64 0], .int .i64 0]) (by simp [results, Try.results26, go_sem, r0, r1, r2, r3]) rfl ⟨rfl, ?_⟩
  exact ((((H1.out.swap.set 0 _).set 1 _).set 2 _).set 3 _).drop

set_option maxRecDepth 100000 in
set_option maxHeartbeats 4000000 in
theorem rshash_calls {W w : World} {Rs : List Res} {b : Nat} {L : List T} {m : Int} (ck k h n x : Int) (hd : Hd W w (RSto b L m :: Rs)) :
    Calls Try.prog 28 #[.pointer (some ⟨b, 0, none⟩), .agg #[.int .i64 ck, .int .i64 k, .int .i64 h, .int .u64 n], .int .i64 x] w fun e w' => e = .returned (.tuple #[.agg #[.int .i64 (sHash m L ⟨ck, k, h, n⟩ x).1.ck, .int .i64 (sHash m L ⟨ck, k, h, n⟩ x).1.k, .int .i64 (sHash m L ⟨ck, k, h, n⟩ x).1.h, .int .u64 (sHash m L ⟨ck, k, h, n⟩ x).1.n], .int .i64 (sHash m L ⟨ck, k, h, n⟩ x).2.1]) ∧ Hd W w' (RSto b (sHash m L ⟨ck, k, h, n⟩ x).2.2 m :: Rs) := by
  have H := hid hd
  clear hd
  obtain ⟨R, hR⟩ : ∃ R, sHash m L ⟨ck, k, h, n⟩ x = R := ⟨_, rfl⟩
  rw [hR]
  have HR := hid hR
  clear hR
  obtain ⟨p, e1, L1, hq⟩ : ∃ p e1 L1, put m L (hasT h x) = (p, e1, L1) := ⟨_, _, _, rfl⟩
  have Hq1 := hid hq
  clear hq
  go_enter Try.func28, Try.ntmps28
  go_wp2_with fail
  refine (rhash_c h x Hq1 (H.out.bx.bxk (w.heap.size + 1) (by simp))).mono ?_
  rintro e w1 ⟨rfl, h1⟩
  have H1 := hid h1
  clear h1 H
  have hk := H1.out.swap.blk
  have r0 := (cell_of_heap hk 0).trans (show _ = some (.int .i64 0) from rfl)
  have r1 := (cell_of_heap hk 1).trans (show _ = some (.int .i64 0) from rfl)
  have r2 := (cell_of_heap hk 2).trans (show _ = some (.int .i64 0) from rfl)
  have r3 := (cell_of_heap hk 3).trans (show _ = some (.int .u64 0) from rfl)
  have rf := frozen_of_heap hk
  have rl := (Array.getElem?_eq_some_iff.1 hk).1
  clear hk
  have hk := H1.out.third.blk
  have y0 := (cell_of_heap hk 0).trans (show _ = some (.int .i64 ck) from rfl)
  have y1 := (cell_of_heap hk 1).trans (show _ = some (.int .i64 k) from rfl)
  have y2 := (cell_of_heap hk 2).trans (show _ = some (.int .i64 h) from rfl)
  have y3 := (cell_of_heap hk 3).trans (show _ = some (.int .u64 n) from rfl)
  have yf := frozen_of_heap hk
  have yl := (Array.getElem?_eq_some_iff.1 hk).1
  clear hk
  by_cases hk : e1 = 0
  case neg =>
    have dE10 : (e1 != 0) = true := by simp [hk]
    have E1 := hid hk
    clear hk
    go_wp2_with fail
    have hR := HR.out
    simp [sHash, Hq1.out, E1.out] at hR
    subst hR
    refine bodyPost_ret (v := .tuple #[.agg #[.int .i64 0, .int .i64 0, .int .i64 0, .int .u64 0], .int .i64 e1]) (by simp [results, Try.results28, go_sem, r0, r1, r2, r3]) rfl ⟨rfl, ?_⟩
    exact ((((H1.out.swap.set 0 _).set 1 _).set 2 _).set 3 _).drop.un2
  have dE10 : (e1 != 0) = false := by simp [hk]
  have E1 := hid hk
  clear hk
  go_wp2_with fail
  have hR := HR.out
  simp [sHash, Hq1.out, E1.out] at hR
  subst hR
  refine bodyPost_ret (v := .tuple #[.agg #[.int .i64 ck, .int .i64 k, .int .i64 p, .int .u64 n], .int .i64 0]) (by simp [results, Try.results28, go_sem, r0, r1, r2, r3]) rfl ⟨rfl, ?_⟩
  exact ((((H1.out.swap.set 0 _).set 1 _).set 2 _).set 3 _).drop.un2

set_option maxRecDepth 100000 in
set_option maxHeartbeats 4000000 in
theorem rsmix_calls {W w : World} {Rs : List Res} {b : Nat} {L : List T} {m : Int} (ck k h n x : Int) (hd : Hd W w (RSto b L m :: Rs)) :
    Calls Try.prog 30 #[.pointer (some ⟨b, 0, none⟩), .agg #[.int .i64 ck, .int .i64 k, .int .i64 h, .int .u64 n], .int .i64 x] w fun e w' => e = .returned (.tuple #[.agg #[.int .i64 (sMix m L ⟨ck, k, h, n⟩ x).1.ck, .int .i64 (sMix m L ⟨ck, k, h, n⟩ x).1.k, .int .i64 (sMix m L ⟨ck, k, h, n⟩ x).1.h, .int .u64 (sMix m L ⟨ck, k, h, n⟩ x).1.n], .int .i64 (sMix m L ⟨ck, k, h, n⟩ x).2.1]) ∧ Hd W w' (RSto b (sMix m L ⟨ck, k, h, n⟩ x).2.2 m :: Rs) := by
  have H := hid hd
  clear hd
  obtain ⟨R, hR⟩ : ∃ R, sMix m L ⟨ck, k, h, n⟩ x = R := ⟨_, rfl⟩
  rw [hR]
  have HR := hid hR
  clear hR
  obtain ⟨p, q, e1, L1, hq⟩ : ∃ p q e1 L1, mix6 m L ck x = (p, q, e1, L1) := ⟨_, _, _, _, rfl⟩
  have Hq1 := hid hq
  clear hq
  go_enter Try.func30, Try.ntmps30
  go_wp2_with fail
  refine (rmix_calls ck x (H.out.bx.bxk (w.heap.size + 1) (by simp))).mono ?_
  rw [Hq1.out]
  rintro e w1 ⟨rfl, h1⟩
  have H1 := hid h1
  clear h1 H
  have hk := H1.out.swap.blk
  have r0 := (cell_of_heap hk 0).trans (show _ = some (.int .i64 0) from rfl)
  have r1 := (cell_of_heap hk 1).trans (show _ = some (.int .i64 0) from rfl)
  have r2 := (cell_of_heap hk 2).trans (show _ = some (.int .i64 0) from rfl)
  have r3 := (cell_of_heap hk 3).trans (show _ = some (.int .u64 0) from rfl)
  have rf := frozen_of_heap hk
  have rl := (Array.getElem?_eq_some_iff.1 hk).1
  clear hk
  have hk := H1.out.third.blk
  have y0 := (cell_of_heap hk 0).trans (show _ = some (.int .i64 ck) from rfl)
  have y1 := (cell_of_heap hk 1).trans (show _ = some (.int .i64 k) from rfl)
  have y2 := (cell_of_heap hk 2).trans (show _ = some (.int .i64 h) from rfl)
  have y3 := (cell_of_heap hk 3).trans (show _ = some (.int .u64 n) from rfl)
  have yf := frozen_of_heap hk
  have yl := (Array.getElem?_eq_some_iff.1 hk).1
  clear hk
  by_cases hk : e1 = 0
  case neg =>
    have dE10 : (e1 != 0) = true := by simp [hk]
    have E1 := hid hk
    clear hk
    go_wp2_with fail
    have hR := HR.out
    simp [sMix, Hq1.out, E1.out] at hR
    subst hR
    refine bodyPost_ret (v := .tuple #[.agg #[.int .i64 0, .int .i64 0, .int .i64 0, .int .u64 0], .int .i64 e1]) (by simp [results, Try.results30, go_sem, r0, r1, r2, r3]) rfl ⟨rfl, ?_⟩
    exact ((((H1.out.swap.set 0 _).set 1 _).set 2 _).set 3 _).drop.un2
  have dE10 : (e1 != 0) = false := by simp [hk]
  have E1 := hid hk
  clear hk
  go_wp2_with fail
  have hR := HR.out
  simp [sMix, Hq1.out, E1.out] at hR
  subst hR
  refine bodyPost_ret (v := .tuple #[.agg #[.int .i64 p, .int .i64 q, .int .i64 h, .int .u64 0], .int .i64 0]) (by simp [results, Try.results30, go_sem, r0, r1, r2, r3]) rfl ⟨rfl, ?_⟩
  exact ((((H1.out.swap.set 0 _).set 1 _).set 2 _).set 3 _).drop.un2

set_option maxRecDepth 100000 in
set_option maxHeartbeats 4000000 in
theorem rssplit_calls {W w : World} {Rs : List Res} {b : Nat} {L : List T} {m : Int} (ck k h n : Int) (hd : Hd W w (RSto b L m :: Rs)) :
    Calls Try.prog 36 #[.pointer (some ⟨b, 0, none⟩), .agg #[.int .i64 ck, .int .i64 k, .int .i64 h, .int .u64 n]] w fun e w' => e = .returned (.tuple #[.int .i64 (sSplit m L ⟨ck, k, h, n⟩).1, .int .i64 (sSplit m L ⟨ck, k, h, n⟩).2.1, .int .i64 (sSplit m L ⟨ck, k, h, n⟩).2.2.1]) ∧ Hd W w' (RSto b (sSplit m L ⟨ck, k, h, n⟩).2.2.2 m :: Rs) := by
  have H := hid hd
  clear hd
  obtain ⟨R, hR⟩ : ∃ R, sSplit m L ⟨ck, k, h, n⟩ = R := ⟨_, rfl⟩
  rw [hR]
  have HR := hid hR
  clear hR
  obtain ⟨p, e1, L1, hq⟩ : ∃ p e1 L1, put m L (txtT ⟨#[]⟩) = (p, e1, L1) := ⟨_, _, _, rfl⟩
  have Hq1 := hid hq
  clear hq
  go_enter Try.func36, Try.ntmps36
  go_wp2_with fail
  refine (rput_c 1 ⟨#[]⟩ 0 0 0 0 Hq1 H.out.bx).mono ?_
  rintro e w1 ⟨rfl, h1⟩
  replace H := hid h1
  clear h1
  have hk := H.out.swap.blk
  have y0 := (cell_of_heap hk 0).trans (show _ = some (.int .i64 ck) from rfl)
  have y1 := (cell_of_heap hk 1).trans (show _ = some (.int .i64 k) from rfl)
  have y2 := (cell_of_heap hk 2).trans (show _ = some (.int .i64 h) from rfl)
  have y3 := (cell_of_heap hk 3).trans (show _ = some (.int .u64 n) from rfl)
  have yf := frozen_of_heap hk
  have yl := (Array.getElem?_eq_some_iff.1 hk).1
  clear hk
  by_cases hk : e1 = 0
  case neg =>
    have dE10 : (e1 != 0) = true := by simp [hk]
    have E1 := hid hk
    clear hk
    go_wp2_with fail
    go_ret3
    have hR := HR.out
    simp [sSplit, Hq1.out, E1.out] at hR
    subst hR
    exact ⟨rfl, H.out.un2⟩
  have dE10 : (e1 != 0) = false := by simp [hk]
  have E1 := hid hk
  clear hk
  obtain ⟨q1, q2, e2, L2, hq⟩ : ∃ q1 q2 e2 L2, mix6 m L1 ck p = (q1, q2, e2, L2) := ⟨_, _, _, _, rfl⟩
  have Hq2 := hid hq
  clear hq
  go_wp2_with fail
  refine (rmix_calls ck p H.out).mono ?_
  rw [Hq2.out]
  rintro e w2 ⟨rfl, h1⟩
  replace H := hid h1
  clear h1 y0 y1 y2 y3 yf yl
  go_wp2_with fail
  go_ret3
  have hR := HR.out
  simp [sSplit, Hq1.out, E1.out, Hq2.out] at hR
  subst hR
  exact ⟨rfl, H.out.un2⟩

end Go.Proofs.Ytbaliaodioflfaa
