/-
  Walks through layer 7 of the document: Seal, Open. For every store and every state.
-/
import Derived.Test.YtbaliaodioflfaaRSym
import Derived.Test.YtbaliaodioflfaaSymB
namespace Go.Proofs.Ytbaliaodioflfaa
open Go.RowKit

set_option maxRecDepth 100000 in
set_option maxHeartbeats 8000000 in
theorem rsseal_calls {W w : World} {Rs : List Res} {b : Nat} {L : List T} {m : Int} (ck k h n x : Int) (hn0 : 0 ≤ n) (hn : n ≤ 18446744073709551615) (hd : Hd W w (RSto b L m :: Rs)) :
    Calls Try.prog 32 #[.pointer (some ⟨b, 0, none⟩), .agg #[.int .i64 ck, .int .i64 k, .int .i64 h, .int .u64 n], .int .i64 x] w fun e w' => e = .returned (.tuple #[.agg #[.int .i64 (sSeal m L ⟨ck, k, h, n⟩ x).1.ck, .int .i64 (sSeal m L ⟨ck, k, h, n⟩ x).1.k, .int .i64 (sSeal m L ⟨ck, k, h, n⟩ x).1.h, .int .u64 (sSeal m L ⟨ck, k, h, n⟩ x).1.n], .int .i64 (sSeal m L ⟨ck, k, h, n⟩ x).2.1, .int .i64 (sSeal m L ⟨ck, k, h, n⟩ x).2.2.1]) ∧ Hd W w' (RSto b (sSeal m L ⟨ck, k, h, n⟩ x).2.2.2 m :: Rs) := by
  have H := hid hd
  clear hd
  obtain ⟨R, hR⟩ : ∃ R, sSeal m L ⟨ck, k, h, n⟩ x = R := ⟨_, rfl⟩
  rw [hR]
  have HR := hid hR
  clear hR
  have Hn := hid hn
  have H0 := hid hn0
  clear hn hn0
  by_cases hk : k = 0
  case pos =>
    have d0 : (k == 0) = true := by simpa using hk
    have Hr : Hid (Sy.ready ⟨ck, k, h, n⟩ = false) := hid (by simp [Sy.ready, hk])
    clear hk
    go_enter Try.func32, Try.ntmps32
    go_wp2_with fail
    have hR := HR.out
    simp [sSeal, Hr.out] at hR
    subst hR
    refine bodyPost_ret (v := .tuple #[.agg #[.int .i64 0, .int .i64 0, .int .i64 0, .int .u64 0], .int .i64 0, .int .i64 7]) (by simp [results, Try.results32, go_sem]) rfl ⟨rfl, ?_⟩
    exact H.out.al.al
  have d0 : (k == 0) = false := by simpa using hk
  by_cases hm : n = 18446744073709551615
  case pos =>
    have d1 : (n == 18446744073709551615) = true := by simpa using hm
    have Hr : Hid (Sy.ready ⟨ck, k, h, n⟩ = false) := hid (by simp [Sy.ready, hm])
    clear hk hm
    go_enter Try.func32, Try.ntmps32
    go_wp2_with fail
    have hR := HR.out
    simp [sSeal, Hr.out] at hR
    subst hR
    refine bodyPost_ret (v := .tuple #[.agg #[.int .i64 0, .int .i64 0, .int .i64 0, .int .u64 0], .int .i64 0, .int .i64 7]) (by simp [results, Try.results32, go_sem]) rfl ⟨rfl, ?_⟩
    exact H.out.al.al
  have d1 : (n == 18446744073709551615) = false := by simpa using hm
  have Hr : Hid (Sy.ready ⟨ck, k, h, n⟩ = true) := hid (ready_iff.2 ⟨hk, hm⟩)
  have hw := u64_up H0.out Hn.out hm
  clear hk hm
  obtain ⟨p, e1, L1, hq⟩ : ∃ p e1 L1, put m L (seaT k n h x) = (p, e1, L1) := ⟨_, _, _, rfl⟩
  have Hq1 := hid hq
  clear hq
  go_enter Try.func32, Try.ntmps32
  go_wp2_with fail
  refine (rseal_c k n h x Hq1 (H.out.bx.bxk (w.heap.size + 1) (by simp))).mono ?_
  rintro e w2 ⟨rfl, h1⟩
  have H2 := hid h1
  clear h1 H
  have hk := H2.out.swap.blk
  have r0 := (cell_of_heap hk 0).trans (show _ = some (.int .i64 0) from rfl)
  have r1 := (cell_of_heap hk 1).trans (show _ = some (.int .i64 0) from rfl)
  have r2 := (cell_of_heap hk 2).trans (show _ = some (.int .i64 0) from rfl)
  have r3 := (cell_of_heap hk 3).trans (show _ = some (.int .u64 0) from rfl)
  have rf := frozen_of_heap hk
  have rl := (Array.getElem?_eq_some_iff.1 hk).1
  clear hk
  have hk := H2.out.third.blk
  have y0 := (cell_of_heap hk 0).trans (show _ = some (.int .i64 ck) from rfl)
  have y1 := (cell_of_heap hk 1).trans (show _ = some (.int .i64 k) from rfl)
  have y2 := (cell_of_heap hk 2).trans (show _ = some (.int .i64 h) from rfl)
  have y3 := (cell_of_heap hk 3).trans (show _ = some (.int .u64 n) from rfl)
  have yf := frozen_of_heap hk
  have yl := (Array.getElem?_eq_some_iff.1 hk).1
  clear hk
  by_cases hk : e1 = 0
  case neg =>
    have dE10 : (e1 != 0) = true := by simp [hk]
    have E1 := hid hk
    clear hk
    go_wp2_with fail
    have hR := HR.out
    simp [sSeal, Hr.out, Hq1.out, E1.out] at hR
    subst hR
    refine bodyPost_ret (v := .tuple #[.agg #[.int .i64 0, .int .i64 0, .int .i64 0, .int .u64 0], .int .i64 0, .int .i64 e1]) (by simp [results, Try.results32, go_sem, r0, r1, r2, r3]) rfl ⟨rfl, ?_⟩
    exact ((((H2.out.swap.set 0 _).set 1 _).set 2 _).set 3 _).drop.un2
  have dE10 : (e1 != 0) = false := by simp [hk]
  have E1 := hid hk
  clear hk
  obtain ⟨z, e2, L2, hq⟩ : ∃ z e2 L2, sHash m L1 ⟨ck, k, h, n + 1⟩ p = (z, e2, L2) := ⟨_, _, _, rfl⟩
  have Hz := hid hq
  clear hq
  obtain ⟨zc, zk, zh, zn⟩ := z
  have Hz2 : Hid (sSaid m L1 ⟨ck, k, h, n⟩ p p = if e2 = 0 then (⟨zc, zk, zh, zn⟩, p, 0, L2) else (Sy.zero, 0, e2, L2)) := hid (by
    have := Hz.out
    unfold sHash at this
    unfold sSaid
    dsimp only at this ⊢
    split at this
    · rename_i h1
      rw [if_pos h1]
      simp only [Prod.mk.injEq] at this
      obtain ⟨h2, h3, h4⟩ := this
      rw [← h2, ← h3, ← h4, if_pos rfl]
    · rename_i h1
      rw [if_neg h1]
      simp only [Prod.mk.injEq] at this
      obtain ⟨h2, h3, h4⟩ := this
      rw [← h3, ← h4, if_neg h1])
  go_wp2_with fail
  refine (rshash_calls ck k h (n + 1) p H2.out).mono ?_
  rw [Hz.out]
  rintro e w3 ⟨rfl, h1⟩
  have H3 := hid h1
  clear h1 r0 r1 r2 r3 rf rl y0 y1 y2 y3 yf yl
  have hk := H3.out.swap.blk
  have r0 := (cell_of_heap hk 0).trans (show _ = some (.int .i64 0) from rfl)
  have r1 := (cell_of_heap hk 1).trans (show _ = some (.int .i64 0) from rfl)
  have r2 := (cell_of_heap hk 2).trans (show _ = some (.int .i64 0) from rfl)
  have r3 := (cell_of_heap hk 3).trans (show _ = some (.int .u64 0) from rfl)
  have rf := frozen_of_heap hk
  have rl := (Array.getElem?_eq_some_iff.1 hk).1
  clear hk
  by_cases hk : e2 = 0
  case neg =>
    have dE20 : (e2 != 0) = true := by simp [hk]
    have E2 := hid hk
    clear hk
    go_wp2_with fail
    have hR := HR.out
    simp only [sSeal, Hr.out, Hq1.out, E1.out, if_true, Hz2.out] at hR
    simp [E2.out] at hR
    subst hR
    refine bodyPost_ret (v := .tuple #[.agg #[.int .i64 0, .int .i64 0, .int .i64 0, .int .u64 0], .int .i64 0, .int .i64 e2]) (by simp [results, Try.results32, go_sem, r0, r1, r2, r3, rl]) rfl ⟨rfl, ?_⟩
    first | exact ((((H3.out.al.swap.set 0 _).set 1 _).set 2 _).set 3 _).drop.un2 | exact ((((H3.out.swap.set 0 _).set 1 _).set 2 _).set 3 _).drop.un2.al | exact ((((H3.out.swap.set 0 _).set 1 _).set 2 _).set 3 _).drop.un2
  have dE20 : (e2 != 0) = false := by simp [hk]
  have E2 := hid hk
  clear hk
  go_wp2_with fail
  have hR := HR.out
  simp only [sSeal, Hr.out, Hq1.out, E1.out, if_true, Hz2.out] at hR
  simp [E2.out] at hR
  subst hR
  refine bodyPost_ret (v := .tuple #[.agg #[.int .i64 zc, .int .i64 zk, .int .i64 zh, .int .u64 zn], .int .i64 p, .int .i64 0]) (by simp [results, Try.results32, go_sem, r0, r1, r2, r3, rl]) rfl ⟨rfl, ?_⟩
  first | exact ((((H3.out.al.swap.set 0 _).set 1 _).set 2 _).set 3 _).drop.un2 | exact ((((H3.out.swap.set 0 _).set 1 _).set 2 _).set 3 _).drop.un2.al | exact ((((H3.out.swap.set 0 _).set 1 _).set 2 _).set 3 _).drop.un2

set_option maxRecDepth 100000 in
set_option maxHeartbeats 8000000 in
theorem rsopen_calls {W w : World} {Rs : List Res} {b : Nat} {L : List T} {m : Int} (ck k h n x : Int) (hn0 : 0 ≤ n) (hn : n ≤ 18446744073709551615) (hd : Hd W w (RSto b L m :: Rs)) :
    Calls Try.prog 34 #[.pointer (some ⟨b, 0, none⟩), .agg #[.int .i64 ck, .int .i64 k, .int .i64 h, .int .u64 n], .int .i64 x] w fun e w' => e = .returned (.tuple #[.agg #[.int .i64 (sOpen m L ⟨ck, k, h, n⟩ x).1.ck, .int .i64 (sOpen m L ⟨ck, k, h, n⟩ x).1.k, .int .i64 (sOpen m L ⟨ck, k, h, n⟩ x).1.h, .int .u64 (sOpen m L ⟨ck, k, h, n⟩ x).1.n], .int .i64 (sOpen m L ⟨ck, k, h, n⟩ x).2.1, .int .i64 (sOpen m L ⟨ck, k, h, n⟩ x).2.2.1]) ∧ Hd W w' (RSto b (sOpen m L ⟨ck, k, h, n⟩ x).2.2.2 m :: Rs) := by
  have H := hid hd
  clear hd
  obtain ⟨R, hR⟩ : ∃ R, sOpen m L ⟨ck, k, h, n⟩ x = R := ⟨_, rfl⟩
  rw [hR]
  have HR := hid hR
  clear hR
  have Hn := hid hn
  have H0 := hid hn0
  clear hn hn0
  by_cases hk : k = 0
  case pos =>
    have d0 : (k == 0) = true := by simpa using hk
    have Hr : Hid (Sy.ready ⟨ck, k, h, n⟩ = false) := hid (by simp [Sy.ready, hk])
    clear hk
    go_enter Try.func34, Try.ntmps34
    go_wp2_with fail
    have hR := HR.out
    simp [sOpen, Hr.out] at hR
    subst hR
    refine bodyPost_ret (v := .tuple #[.agg #[.int .i64 0, .int .i64 0, .int .i64 0, .int .u64 0], .int .i64 0, .int .i64 7]) (by simp [results, Try.results34, go_sem]) rfl ⟨rfl, ?_⟩
    exact H.out.al.al
  have d0 : (k == 0) = false := by simpa using hk
  by_cases hm : n = 18446744073709551615
  case pos =>
    have d1 : (n == 18446744073709551615) = true := by simpa using hm
    have Hr : Hid (Sy.ready ⟨ck, k, h, n⟩ = false) := hid (by simp [Sy.ready, hm])
    clear hk hm
    go_enter Try.func34, Try.ntmps34
    go_wp2_with fail
    have hR := HR.out
    simp [sOpen, Hr.out] at hR
    subst hR
    refine bodyPost_ret (v := .tuple #[.agg #[.int .i64 0, .int .i64 0, .int .i64 0, .int .u64 0], .int .i64 0, .int .i64 7]) (by simp [results, Try.results34, go_sem]) rfl ⟨rfl, ?_⟩
    exact H.out.al.al
  have d1 : (n == 18446744073709551615) = false := by simpa using hm
  have Hr : Hid (Sy.ready ⟨ck, k, h, n⟩ = true) := hid (ready_iff.2 ⟨hk, hm⟩)
  have hw := u64_up H0.out Hn.out hm
  clear hk hm
  obtain ⟨p, e1, hq⟩ : ∃ p e1, open5 L k n h x = (p, e1) := ⟨_, _, rfl⟩
  have Hq1 := hid hq
  clear hq
  go_enter Try.func34, Try.ntmps34
  go_wp2_with fail
  refine (ropen_c k n h x Hq1 (H.out.bx.bxk (w.heap.size + 1) (by simp))).mono ?_
  rintro e w2 ⟨rfl, h1⟩
  have H2 := hid h1
  clear h1 H
  have hk := H2.out.swap.blk
  have r0 := (cell_of_heap hk 0).trans (show _ = some (.int .i64 0) from rfl)
  have r1 := (cell_of_heap hk 1).trans (show _ = some (.int .i64 0) from rfl)
  have r2 := (cell_of_heap hk 2).trans (show _ = some (.int .i64 0) from rfl)
  have r3 := (cell_of_heap hk 3).trans (show _ = some (.int .u64 0) from rfl)
  have rf := frozen_of_heap hk
  have rl := (Array.getElem?_eq_some_iff.1 hk).1
  clear hk
  have hk := H2.out.third.blk
  have y0 := (cell_of_heap hk 0).trans (show _ = some (.int .i64 ck) from rfl)
  have y1 := (cell_of_heap hk 1).trans (show _ = some (.int .i64 k) from rfl)
  have y2 := (cell_of_heap hk 2).trans (show _ = some (.int .i64 h) from rfl)
  have y3 := (cell_of_heap hk 3).trans (show _ = some (.int .u64 n) from rfl)
  have yf := frozen_of_heap hk
  have yl := (Array.getElem?_eq_some_iff.1 hk).1
  clear hk
  by_cases hk : e1 = 0
  case neg =>
    have dE10 : (e1 != 0) = true := by simp [hk]
    have E1 := hid hk
    clear hk
    go_wp2_with fail
    have hR := HR.out
    simp [sOpen, Hr.out, Hq1.out, E1.out] at hR
    subst hR
    refine bodyPost_ret (v := .tuple #[.agg #[.int .i64 0, .int .i64 0, .int .i64 0, .int .u64 0], .int .i64 0, .int .i64 e1]) (by simp [results, Try.results34, go_sem, r0, r1, r2, r3]) rfl ⟨rfl, ?_⟩
    exact ((((H2.out.swap.set 0 _).set 1 _).set 2 _).set 3 _).drop.un2
  have dE10 : (e1 != 0) = false := by simp [hk]
  have E1 := hid hk
  clear hk
  obtain ⟨z, e2, L2, hq⟩ : ∃ z e2 L2, sHash m L ⟨ck, k, h, n + 1⟩ x = (z, e2, L2) := ⟨_, _, _, rfl⟩
  have Hz := hid hq
  clear hq
  obtain ⟨zc, zk, zh, zn⟩ := z
  have Hz2 : Hid (sSaid m L ⟨ck, k, h, n⟩ x p = if e2 = 0 then (⟨zc, zk, zh, zn⟩, p, 0, L2) else (Sy.zero, 0, e2, L2)) := hid (by
    have := Hz.out
    unfold sHash at this
    unfold sSaid
    dsimp only at this ⊢
    split at this
    · rename_i h1
      rw [if_pos h1]
      simp only [Prod.mk.injEq] at this
      obtain ⟨h2, h3, h4⟩ := this
      rw [← h2, ← h3, ← h4, if_pos rfl]
    · rename_i h1
      rw [if_neg h1]
      simp only [Prod.mk.injEq] at this
      obtain ⟨h2, h3, h4⟩ := this
      rw [← h3, ← h4, if_neg h1])
  go_wp2_with fail
  refine (rshash_calls ck k h (n + 1) x H2.out).mono ?_
  rw [Hz.out]
  rintro e w3 ⟨rfl, h1⟩
  have H3 := hid h1
  clear h1 r0 r1 r2 r3 rf rl y0 y1 y2 y3 yf yl
  have hk := H3.out.swap.blk
  have r0 := (cell_of_heap hk 0).trans (show _ = some (.int .i64 0) from rfl)
  have r1 := (cell_of_heap hk 1).trans (show _ = some (.int .i64 0) from rfl)
  have r2 := (cell_of_heap hk 2).trans (show _ = some (.int .i64 0) from rfl)
  have r3 := (cell_of_heap hk 3).trans (show _ = some (.int .u64 0) from rfl)
  have rf := frozen_of_heap hk
  have rl := (Array.getElem?_eq_some_iff.1 hk).1
  clear hk
  by_cases hk : e2 = 0
  case neg =>
    have dE20 : (e2 != 0) = true := by simp [hk]
    have E2 := hid hk
    clear hk
    go_wp2_with fail
    have hR := HR.out
    simp only [sOpen, Hr.out, Hq1.out, E1.out, if_true, Hz2.out] at hR
    simp [E2.out] at hR
    subst hR
    refine bodyPost_ret (v := .tuple #[.agg #[.int .i64 0, .int .i64 0, .int .i64 0, .int .u64 0], .int .i64 0, .int .i64 e2]) (by simp [results, Try.results34, go_sem, r0, r1, r2, r3, rl]) rfl ⟨rfl, ?_⟩
    first | exact ((((H3.out.al.swap.set 0 _).set 1 _).set 2 _).set 3 _).drop.un2 | exact ((((H3.out.swap.set 0 _).set 1 _).set 2 _).set 3 _).drop.un2.al | exact ((((H3.out.swap.set 0 _).set 1 _).set 2 _).set 3 _).drop.un2
  have dE20 : (e2 != 0) = false := by simp [hk]
  have E2 := hid hk
  clear hk
  go_wp2_with fail
  have hR := HR.out
  simp only [sOpen, Hr.out, Hq1.out, E1.out, if_true, Hz2.out] at hR
  simp [E2.out] at hR
  subst hR
  refine bodyPost_ret (v := .tuple #[.agg #[.int .i64 zc, .int .i64 zk, .int .i64 zh, .int .u64 zn], .int .i64 p, .int .i64 0]) (by simp [results, Try.results34, go_sem, r0, r1, r2, r3, rl]) rfl ⟨rfl, ?_⟩
  first | exact ((((H3.out.al.swap.set 0 _).set 1 _).set 2 _).set 3 _).drop.un2 | exact ((((H3.out.swap.set 0 _).set 1 _).set 2 _).set 3 _).drop.un2.al | exact ((((H3.out.swap.set 0 _).set 1 _).set 2 _).set 3 _).drop.un2

end Go.Proofs.Ytbaliaodioflfaa
