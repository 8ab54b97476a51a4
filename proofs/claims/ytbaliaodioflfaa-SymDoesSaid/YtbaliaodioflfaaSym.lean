/-
  Walks through layer 7 of the program: ready, Begin, Hash, Mix, Split. For every store and every state.
-/
import Derived.Test.YtbaliaodioflfaaKdfB
import Derived.Test.YtbaliaodioflfaaAead
import Derived.Test.YtbaliaodioflfaaPureS
namespace Go.Proofs.Ytbaliaodioflfaa
open Go.RowKit

theorem neq_Sy (x y : Sy) (w : World) : (binOp .neq 25 (.agg #[.int .i64 x.ck, .int .i64 x.k, .int .i64 x.h, .int .u64 x.n]) (.agg #[.int .i64 y.ck, .int .i64 y.k, .int .i64 y.h, .int .u64 y.n])).run Try.prog w = .ok (.bool (!decide (x = y))) w := by
  obtain ⟨a, b, c, d⟩ := x
  obtain ⟨a', b', c', d'⟩ := y
  have e : (Op.equalIn 10000 25 (.agg #[.int .i64 a, .int .i64 b, .int .i64 c, .int .u64 d]) (.agg #[.int .i64 a', .int .i64 b', .int .i64 c', .int .u64 d'])).run Try.prog w = .ok (decide ((⟨a, b, c, d⟩ : Sy) = ⟨a', b', c', d'⟩)) w := by
    go_simp
    by_cases h1 : a = a' <;> by_cases h2 : b = b' <;> by_cases h3 : c = c' <;> by_cases h4 : d = d' <;> simp [h1, h2, h3, h4]
  rw [run_neq_struct, e]
  rfl

set_option maxRecDepth 100000 in
set_option maxHeartbeats 2000000 in
theorem ready_c {W w : World} {Rs : List Res} (ck k h n : Int) (hn : n ≤ 18446744073709551615) (hd : Hd W w Rs) :
    Calls Try.prog 73 #[.agg #[.int .i64 ck, .int .i64 k, .int .i64 h, .int .u64 n]] w fun e w' => e = .returned (.bool (Sy.ready ⟨ck, k, h, n⟩)) ∧ Hd W w' Rs := by
  have H := hid hd
  have hne := neq_Sy ⟨ck, k, h, n⟩ ⟨ck, 0, h, n⟩
  dsimp only at hne
  clear hd
  by_cases hk : k = 0
  · have hR : Hid (Sy.ready ⟨ck, k, h, n⟩ = false) := hid (by simp [Sy.ready, hk])
    have h1 : decide ((⟨ck, k, h, n⟩ : Sy) = ⟨ck, 0, h, n⟩) = true := by simp [hk]
    rw [h1] at hne
    clear h1 hk hn
    go_enter Try.func73, Try.ntmps73
    go_wp2_with fail
    go_ret
    rw [hR.out]
    exact ⟨rfl, H.out.al⟩
  have h1 : decide ((⟨ck, k, h, n⟩ : Sy) = ⟨ck, 0, h, n⟩) = false := by simp [hk]
  rw [h1] at hne
  by_cases hm : n = 18446744073709551615
  · have hR : Hid (Sy.ready ⟨ck, k, h, n⟩ = false) := hid (by simp [Sy.ready, hm])
    have d1 : decide (n < 18446744073709551615) = false := by simp [hm]
    clear h1 hk hn hm
    go_enter Try.func73, Try.ntmps73
    go_wp2_with fail
    go_ret
    rw [hR.out]
    exact ⟨rfl, H.out.al⟩
  · have hR : Hid (Sy.ready ⟨ck, k, h, n⟩ = true) := hid (by simp [Sy.ready, hm, hk])
    have d1 : decide (n < 18446744073709551615) = true := decide_eq_true (by omega)
    clear h1 hk hn hm
    go_enter Try.func73, Try.ntmps73
    go_wp2_with fail
    go_ret
    rw [hR.out]
    exact ⟨rfl, H.out.al⟩

set_option maxRecDepth 100000 in
set_option maxHeartbeats 4000000 in
theorem sbegin_calls {W w : World} {Rs : List Res} {b : Nat} {L : List T} {m : Int} (s : ByteArray) (h : Hd W w (Sto b L m :: Rs)) :
    Calls Try.prog 24 #[.pointer (some ⟨b, 0, none⟩), .string s] w fun e w' => e = .returned (.tuple #[.agg #[.int .i64 (sBegin m L s).1.ck, .int .i64 (sBegin m L s).1.k, .int .i64 (sBegin m L s).1.h, .int .u64 (sBegin m L s).1.n], .int .i64 (sBegin m L s).2.1]) ∧ Hd W w' (Sto b (sBegin m L s).2.2 m :: Rs) := by
  have H := hid h
  clear h
  obtain ⟨R, hR⟩ : ∃ R, sBegin m L s = R := ⟨_, rfl⟩
  rw [hR]
  have HR := hid hR
  clear hR
  obtain ⟨p, e1, L1, hq⟩ : ∃ p e1 L1, put m L (txtT s) = (p, e1, L1) := ⟨_, _, _, rfl⟩
  have Hq1 := hid hq
  clear hq
  go_enter Try.func24, Try.ntmps24
  go_wp2_with fail
  refine (put_c 1 s 0 0 0 0 Hq1 H.out.bx).mono ?_
  rintro e w1 ⟨rfl, h1⟩
  have H1 := hid h1
  clear h1 H
  have hk := H1.out.swap.blk
  have r0 := (cell_of_heap hk 0).trans (show _ = some (.int .i64 0) from rfl)
  have r1 := (cell_of_heap hk 1).trans (show _ = some (.int .i64 0) from rfl)
  have r2 := (cell_of_heap hk 2).trans (show _ = some (.int .i64 0) from rfl)
  have r3 := (cell_of_heap hk 3).trans (show _ = some (.int .u64 0) from rfl)
  have rf := frozen_of_heap hk
  have rl := (Array.getElem?_eq_some_iff.1 hk).1
  clear hk
  by_cases hk : e1 = 0
  case neg =>
    have dE10 : (e1 != 0) = true := by simp [hk]
    have E1 := hid hk
    clear hk
    go_wp2_with fail
    have hR := HR.out
    simp [sBegin, Hq1.out, E1.out] at hR
    subst hR
    refine bodyPost_ret (v := .tuple #[.agg #[.int .i64 0, .int .i64 0, .int .i64 0, .int .u64 0], .int .i64 e1]) (by simp [results, Try.results24, go_sem, r0, r1, r2, r3]) rfl ⟨rfl, ?_⟩
    exact ((((H1.out.swap.set 0 _).set 1 _).set 2 _).set 3 _).drop
  have dE10 : (e1 != 0) = false := by simp [hk]
  have E1 := hid hk
  clear hk
  go_wp2_with fail
  have hR := HR.out
  simp [sBegin, Hq1.out, E1.out] at hR
  subst hR
  refine bodyPost_ret (v := .tuple #[.agg #[.int .i64 p, .int .i64 0, .int .i64 p, .int .u64 0], .int .i64 0]) (by simp [results, Try.results24, go_sem, r0, r1, r2, r3]) rfl ⟨rfl, ?_⟩
  exact ((((H1.out.swap.set 0 _).set 1 _).set 2 _).set 3 _).drop

set_option maxRecDepth 100000 in
set_option maxHeartbeats 4000000 in
theorem shash_calls {W w : World} {Rs : List Res} {b : Nat} {L : List T} {m : Int} (ck k h n x : Int) (hd : Hd W w (Sto b L m :: Rs)) :
    Calls Try.prog 27 #[.agg #[.int .i64 ck, .int .i64 k, .int .i64 h, .int .u64 n], .pointer (some ⟨b, 0, none⟩), .int .i64 x] w fun e w' => e = .returned (.tuple #[.agg #[.int .i64 (sHash m L ⟨ck, k, h, n⟩ x).1.ck, .int .i64 (sHash m L ⟨ck, k, h, n⟩ x).1.k, .int .i64 (sHash m L ⟨ck, k, h, n⟩ x).1.h, .int .u64 (sHash m L ⟨ck, k, h, n⟩ x).1.n], .int .i64 (sHash m L ⟨ck, k, h, n⟩ x).2.1]) ∧ Hd W w' (Sto b (sHash m L ⟨ck, k, h, n⟩ x).2.2 m :: Rs) := by
  have H := hid hd
  clear hd
  obtain ⟨R, hR⟩ : ∃ R, sHash m L ⟨ck, k, h, n⟩ x = R := ⟨_, rfl⟩
  rw [hR]
  have HR := hid hR
  clear hR
  obtain ⟨p, e1, L1, hq⟩ : ∃ p e1 L1, put m L (hasT h x) = (p, e1, L1) := ⟨_, _, _, rfl⟩
  have Hq1 := hid hq
  clear hq
  go_enter Try.func27, Try.ntmps27
  go_wp2_with fail
  refine (hash_c h x Hq1 (H.out.bx.bxk (w.heap.size + 1) (by simp))).mono ?_
  rintro e w1 ⟨rfl, h1⟩
  have H1 := hid h1
  clear h1 H
  have hk := H1.out.swap.blk
  have r0 := (cell_of_heap hk 0).trans (show _ = some (.int .i64 0) from rfl)
  have r1 := (cell_of_heap hk 1).trans (show _ = some (.int .i64 0) from rfl)
  have r2 := (cell_of_heap hk 2).trans (show _ = some (.int .i64 0) from rfl)
  have r3 := (cell_of_heap hk 3).trans (show _ = some (.int .u64 0) from rfl)
  have rf := frozen_of_heap hk
  have rl := (Array.getElem?_eq_some_iff.1 hk).1
  clear hk
  have hk := H1.out.third.blk
  have y0 := (cell_of_heap hk 0).trans (show _ = some (.int .i64 ck) from rfl)
  have y1 := (cell_of_heap hk 1).trans (show _ = some (.int .i64 k) from rfl)
  have y2 := (cell_of_heap hk 2).trans (show _ = some (.int .i64 h) from rfl)
  have y3 := (cell_of_heap hk 3).trans (show _ = some (.int .u64 n) from rfl)
  have yf := frozen_of_heap hk
  have yl := (Array.getElem?_eq_some_iff.1 hk).1
  clear hk
  by_cases hk : e1 = 0
  case neg =>
    have dE10 : (e1 != 0) = true := by simp [hk]
    have E1 := hid hk
    clear hk
    go_wp2_with fail
    have hR := HR.out
    simp [sHash, Hq1.out, E1.out] at hR
    subst hR
    refine bodyPost_ret (v := .tuple #[.agg #[.int .i64 0, .int .i64 0, .int .i64 0, .int .u64 0], .int .i64 e1]) (by simp [results, Try.results27, go_sem, r0, r1, r2, r3]) rfl ⟨rfl, ?_⟩
    exact ((((H1.out.swap.set 0 _).set 1 _).set 2 _).set 3 _).drop.un2
  have dE10 : (e1 != 0) = false := by simp [hk]
  have E1 := hid hk
  clear hk
  go_wp2_with fail
  have hR := HR.out
  simp [sHash, Hq1.out, E1.out] at hR
  subst hR
  refine bodyPost_ret (v := .tuple #[.agg #[.int .i64 ck, .int .i64 k, .int .i64 p, .int .u64 n], .int .i64 0]) (by simp [results, Try.results27, go_sem, r0, r1, r2, r3]) rfl ⟨rfl, ?_⟩
  exact (((((H1.out.third.set 2 _).third.set 0 _).set 1 _).set 2 _).set 3 _).drop.drop

set_option maxRecDepth 100000 in
set_option maxHeartbeats 4000000 in
theorem smix_calls {W w : World} {Rs : List Res} {b : Nat} {L : List T} {m : Int} (ck k h n x : Int) (hd : Hd W w (Sto b L m :: Rs)) :
    Calls Try.prog 29 #[.agg #[.int .i64 ck, .int .i64 k, .int .i64 h, .int .u64 n], .pointer (some ⟨b, 0, none⟩), .int .i64 x] w fun e w' => e = .returned (.tuple #[.agg #[.int .i64 (sMix m L ⟨ck, k, h, n⟩ x).1.ck, .int .i64 (sMix m L ⟨ck, k, h, n⟩ x).1.k, .int .i64 (sMix m L ⟨ck, k, h, n⟩ x).1.h, .int .u64 (sMix m L ⟨ck, k, h, n⟩ x).1.n], .int .i64 (sMix m L ⟨ck, k, h, n⟩ x).2.1]) ∧ Hd W w' (Sto b (sMix m L ⟨ck, k, h, n⟩ x).2.2 m :: Rs) := by
  have H := hid hd
  clear hd
  obtain ⟨R, hR⟩ : ∃ R, sMix m L ⟨ck, k, h, n⟩ x = R := ⟨_, rfl⟩
  rw [hR]
  have HR := hid hR
  clear hR
  obtain ⟨p, q, e1, L1, hq⟩ : ∃ p q e1 L1, mix6 m L ck x = (p, q, e1, L1) := ⟨_, _, _, _, rfl⟩
  have Hq1 := hid hq
  clear hq
  go_enter Try.func29, Try.ntmps29
  go_wp2_with fail
  refine (mix_calls ck x (H.out.bx.bxk (w.heap.size + 1) (by simp))).mono ?_
  rw [Hq1.out]
  rintro e w1 ⟨rfl, h1⟩
  have H1 := hid h1
  clear h1 H
  have hk := H1.out.swap.blk
  have r0 := (cell_of_heap hk 0).trans (show _ = some (.int .i64 0) from rfl)
  have r1 := (cell_of_heap hk 1).trans (show _ = some (.int .i64 0) from rfl)
  have r2 := (cell_of_heap hk 2).trans (show _ = some (.int .i64 0) from rfl)
  have r3 := (cell_of_heap hk 3).trans (show _ = some (.int .u64 0) from rfl)
  have rf := frozen_of_heap hk
  have rl := (Array.getElem?_eq_some_iff.1 hk).1
  clear hk
  have hk := H1.out.third.blk
  have y0 := (cell_of_heap hk 0).trans (show _ = some (.int .i64 ck) from rfl)
  have y1 := (cell_of_heap hk 1).trans (show _ = some (.int .i64 k) from rfl)
  have y2 := (cell_of_heap hk 2).trans (show _ = some (.int .i64 h) from rfl)
  have y3 := (cell_of_heap hk 3).trans (show _ = some (.int .u64 n) from rfl)
  have yf := frozen_of_heap hk
  have yl := (Array.getElem?_eq_some_iff.1 hk).1
  clear hk
  by_cases hk : e1 = 0
  case neg =>
    have dE10 : (e1 != 0) = true := by simp [hk]
    have E1 := hid hk
    clear hk
    go_wp2_with fail
    have hR := HR.out
    simp [sMix, Hq1.out, E1.out] at hR
    subst hR
    refine bodyPost_ret (v := .tuple #[.agg #[.int .i64 0, .int .i64 0, .int .i64 0, .int .u64 0], .int .i64 e1]) (by simp [results, Try.results29, go_sem, r0, r1, r2, r3]) rfl ⟨rfl, ?_⟩
    exact ((((H1.out.swap.set 0 _).set 1 _).set 2 _).set 3 _).drop.un2
  have dE10 : (e1 != 0) = false := by simp [hk]
  have E1 := hid hk
  clear hk
  go_wp2_with fail
  have hR := HR.out
  simp [sMix, Hq1.out, E1.out] at hR
  subst hR
  refine bodyPost_ret (v := .tuple #[.agg #[.int .i64 p, .int .i64 q, .int .i64 h, .int .u64 0], .int .i64 0]) (by simp [results, Try.results29, go_sem, r0, r1, r2, r3]) rfl ⟨rfl, ?_⟩
  exact ((((H1.out.swap.set 0 _).set 1 _).set 2 _).set 3 _).drop.un2

set_option maxRecDepth 100000 in
set_option maxHeartbeats 4000000 in
theorem ssplit_calls {W w : World} {Rs : List Res} {b : Nat} {L : List T} {m : Int} (ck k h n : Int) (hd : Hd W w (Sto b L m :: Rs)) :
    Calls Try.prog 35 #[.agg #[.int .i64 ck, .int .i64 k, .int .i64 h, .int .u64 n], .pointer (some ⟨b, 0, none⟩)] w fun e w' => e = .returned (.tuple #[.int .i64 (sSplit m L ⟨ck, k, h, n⟩).1, .int .i64 (sSplit m L ⟨ck, k, h, n⟩).2.1, .int .i64 (sSplit m L ⟨ck, k, h, n⟩).2.2.1]) ∧ Hd W w' (Sto b (sSplit m L ⟨ck, k, h, n⟩).2.2.2 m :: Rs) := by
  have H := hid hd
  clear hd
  obtain ⟨R, hR⟩ : ∃ R, sSplit m L ⟨ck, k, h, n⟩ = R := ⟨_, rfl⟩
  rw [hR]
  have HR := hid hR
  clear hR
  obtain ⟨p, e1, L1, hq⟩ : ∃ p e1 L1, put m L (txtT ⟨#[]⟩) = (p, e1, L1) := ⟨_, _, _, rfl⟩
  have Hq1 := hid hq
  clear hq
  go_enter Try.func35, Try.ntmps35
  go_wp2_with fail
  refine (put_c 1 ⟨#[]⟩ 0 0 0 0 Hq1 H.out.bx).mono ?_
  rintro e w1 ⟨rfl, h1⟩
  replace H := hid h1
  clear h1
  have hk := H.out.swap.blk
  have y0 := (cell_of_heap hk 0).trans (show _ = some (.int .i64 ck) from rfl)
  have y1 := (cell_of_heap hk 1).trans (show _ = some (.int .i64 k) from rfl)
  have y2 := (cell_of_heap hk 2).trans (show _ = some (.int .i64 h) from rfl)
  have y3 := (cell_of_heap hk 3).trans (show _ = some (.int .u64 n) from rfl)
  have yf := frozen_of_heap hk
  have yl := (Array.getElem?_eq_some_iff.1 hk).1
  clear hk
  by_cases hk : e1 = 0
  case neg =>
    have dE10 : (e1 != 0) = true := by simp [hk]
    have E1 := hid hk
    clear hk
    go_wp2_with fail
    go_ret3
    have hR := HR.out
    simp [sSplit, Hq1.out, E1.out] at hR
    subst hR
    exact ⟨rfl, H.out.un2⟩
  have dE10 : (e1 != 0) = false := by simp [hk]
  have E1 := hid hk
  clear hk
  obtain ⟨q1, q2, e2, L2, hq⟩ : ∃ q1 q2 e2 L2, mix6 m L1 ck p = (q1, q2, e2, L2) := ⟨_, _, _, _, rfl⟩
  have Hq2 := hid hq
  clear hq
  go_wp2_with fail
  refine (mix_calls ck p H.out).mono ?_
  rw [Hq2.out]
  rintro e w2 ⟨rfl, h1⟩
  replace H := hid h1
  clear h1 y0 y1 y2 y3 yf yl
  go_wp2_with fail
  go_ret3
  have hR := HR.out
  simp [sSplit, Hq1.out, E1.out, Hq2.out] at hR
  subst hR
  exact ⟨rfl, H.out.un2⟩

end Go.Proofs.Ytbaliaodioflfaa
