/-
  Walks through layer 7 of the program: said, Seal, Open. For every store and every state.
-/
import Derived.Test.YtbaliaodioflfaaSym
import Derived.IntWalk
import Derived.ScopeJumps
import Derived.WalkMore
namespace Go.Proofs.Ytbaliaodioflfaa
open Go.RowKit

theorem wp_scope_forward {P : Program} {a : Act} {w : World} {Q : Exit → Act → World → Prop} {c rest : Code} (l : Nat) (hf : findLabel c l = some rest)
    (first : c.wp P (Exit.jump l (fun a w => rest.wp P (Exit.jump l (fun _ _ => False) Q) a w) Q) a w) : (Code.scope c).wp P Q a w :=
  wp_scope_jumps l (fun a w => rest.wp P (Exit.jump l (fun _ _ => False) Q) a w) (fun _ _ => 0) hf first fun _ _ h => Code.wp_mono (fun e _ _ q => by
    cases e <;> first | exact q | exact ⟨q.1, q.2.elim⟩) h

theorem u64_up {n : Int} (h0 : 0 ≤ n) (h1 : n ≤ 18446744073709551615) (h2 : n ≠ 18446744073709551615) : IntKind.u64.wrap (n + 1) = n + 1 := IntWalk.u64_in _ (by omega)
theorem ready_iff {ck k h n : Int} : Sy.ready ⟨ck, k, h, n⟩ = true ↔ k ≠ 0 ∧ n ≠ 18446744073709551615 := by simp [Sy.ready]

set_option maxRecDepth 100000 in
set_option maxHeartbeats 4000000 in
theorem said_bad {W w : World} {Rs : List Res} {b : Nat} {L : List T} {m : Int} (ck k h n x p e0 : Int) (he : ¬ e0 = 0) (hd : Hd W w (Sto b L m :: Rs)) :
    Calls Try.prog 75 #[.agg #[.int .i64 ck, .int .i64 k, .int .i64 h, .int .u64 n], .pointer (some ⟨b, 0, none⟩), .int .i64 x, .int .i64 p, .int .i64 e0] w fun e w' => e = .returned (.tuple #[.agg #[.int .i64 0, .int .i64 0, .int .i64 0, .int .u64 0], .int .i64 0, .int .i64 e0]) ∧ Hd W w' (Sto b L m :: Rs) := by
  have H := hid hd
  have d1 : (e0 != 0) = true := by simpa using he
  clear hd he
  go_enter Try.func75, Try.ntmps75
  go_wp2_with fail
  refine wp_scope_forward 0 rfl ?_
  go_wp2_with fail
  go_step3
  refine ⟨rfl, ?_⟩
  go_wp2_with fail
  try simp only [Exit.jump]
  refine bodyPost_ret (v := .tuple #[.agg #[.int .i64 0, .int .i64 0, .int .i64 0, .int .u64 0], .int .i64 0, .int .i64 e0]) (by simp [results, Try.results75, go_sem]) rfl ⟨rfl, ?_⟩
  exact H.out.al.al.al

set_option maxRecDepth 100000 in
set_option maxHeartbeats 8000000 in
theorem said_ok {W w : World} {Rs : List Res} {b : Nat} {L : List T} {m : Int} (ck k h n x p : Int) (hw : IntKind.u64.wrap (n + 1) = n + 1) (hd : Hd W w (Sto b L m :: Rs)) :
    Calls Try.prog 75 #[.agg #[.int .i64 ck, .int .i64 k, .int .i64 h, .int .u64 n], .pointer (some ⟨b, 0, none⟩), .int .i64 x, .int .i64 p, .int .i64 0] w fun e w' => e = .returned (.tuple #[.agg #[.int .i64 (sSaid m L ⟨ck, k, h, n⟩ x p).1.ck, .int .i64 (sSaid m L ⟨ck, k, h, n⟩ x p).1.k, .int .i64 (sSaid m L ⟨ck, k, h, n⟩ x p).1.h, .int .u64 (sSaid m L ⟨ck, k, h, n⟩ x p).1.n], .int .i64 (sSaid m L ⟨ck, k, h, n⟩ x p).2.1, .int .i64 (sSaid m L ⟨ck, k, h, n⟩ x p).2.2.1]) ∧ Hd W w' (Sto b (sSaid m L ⟨ck, k, h, n⟩ x p).2.2.2 m :: Rs) := by
  have H := hid hd
  clear hd
  obtain ⟨R, hR⟩ : ∃ R, sSaid m L ⟨ck, k, h, n⟩ x p = R := ⟨_, rfl⟩
  rw [hR]
  have HR := hid hR
  clear hR
  obtain ⟨z, e1, L1, hq⟩ : ∃ z e1 L1, sHash m L ⟨ck, k, h, n + 1⟩ x = (z, e1, L1) := ⟨_, _, _, rfl⟩
  have Hz := hid hq
  clear hq
  obtain ⟨q1, q2, L9, hq⟩ : ∃ q1 q2 L9, put m L (hasT h x) = (q1, q2, L9) := ⟨_, _, _, rfl⟩
  have Hq1 := hid hq
  clear hq
  obtain ⟨zc, zk, zh, zn⟩ := z
  have Hz2 : Hid (sSaid m L ⟨ck, k, h, n⟩ x p = if e1 = 0 then (⟨zc, zk, zh, zn⟩, p, 0, L1) else (Sy.zero, 0, e1, L1)) := hid (by
    have := Hz.out
    unfold sHash at this
    unfold sSaid
    dsimp only at this ⊢
    split at this
    · rename_i h1
      rw [if_pos h1]
      simp only [Prod.mk.injEq] at this
      obtain ⟨h2, h3, h4⟩ := this
      rw [← h2, ← h3, ← h4, if_pos rfl]
    · rename_i h1
      rw [if_neg h1]
      simp only [Prod.mk.injEq] at this
      obtain ⟨h2, h3, h4⟩ := this
      rw [← h3, ← h4, if_neg h1])
  go_enter Try.func75, Try.ntmps75
  go_wp2_with fail
  go_step3
  go_wp2_with fail
  refine (shash_calls ck k h (n + 1) x ((H.out.bx.bxk (w.heap.size + 1) (by simp)).bxk (w.heap.size + 1 + 1) (by simp))).mono ?_
  rw [Hz.out]
  rintro e w1 ⟨rfl, h1⟩
  have H1 := hid h1
  clear h1 H
  have hk := H1.out.swap.blk
  have z0 := (cell_of_heap hk 0).trans (show _ = some (.int .i64 0) from rfl)
  have z1 := (cell_of_heap hk 1).trans (show _ = some (.int .i64 0) from rfl)
  have z2 := (cell_of_heap hk 2).trans (show _ = some (.int .i64 0) from rfl)
  have z3 := (cell_of_heap hk 3).trans (show _ = some (.int .u64 0) from rfl)
  have zf := frozen_of_heap hk
  have zl := (Array.getElem?_eq_some_iff.1 hk).1
  clear hk
  have hk := H1.out.third.blk
  have r0 := (cell_of_heap hk 0).trans (show _ = some (.int .i64 0) from rfl)
  have r1 := (cell_of_heap hk 1).trans (show _ = some (.int .i64 0) from rfl)
  have r2 := (cell_of_heap hk 2).trans (show _ = some (.int .i64 0) from rfl)
  have r3 := (cell_of_heap hk 3).trans (show _ = some (.int .u64 0) from rfl)
  have rf := frozen_of_heap hk
  have rl := (Array.getElem?_eq_some_iff.1 hk).1
  clear hk
  by_cases hk : e1 = 0
  case neg =>
    have dE10 : (e1 == 0) = false := by simp [hk]
    have dE11 : (e1 != 0) = true := by simp [hk]
    have E1 := hid hk
    clear hk
    go_wp2_with fail
    go_step3
    go_wp2_with fail
    try rw [Exit.noGoto_ret]
    have hR := HR.out
    rw [Hz2.out] at hR
    simp [E1.out] at hR
    subst hR
    refine bodyPost_ret (v := .tuple #[.agg #[.int .i64 0, .int .i64 0, .int .i64 0, .int .u64 0], .int .i64 0, .int .i64 e1]) (by simp [results, Try.results75, go_sem, r0, r1, r2, r3]) rfl ⟨rfl, ?_⟩
    exact ((((((((H1.out.swap.set 0 _).set 1 _).set 2 _).set 3 _).third.set 0 _).set 1 _).set 2 _).set 3 _).drop.drop.un2
  have dE10 : (e1 == 0) = true := by simp [hk]
  have dE11 : (e1 != 0) = false := by simp [hk]
  have E1 := hid hk
  clear hk
  go_wp2_with fail
  try rw [Exit.noGoto_ret]
  have hR := HR.out
  rw [Hz2.out] at hR
  simp [E1.out] at hR
  subst hR
  refine bodyPost_ret (v := .tuple #[.agg #[.int .i64 zc, .int .i64 zk, .int .i64 zh, .int .u64 zn], .int .i64 p, .int .i64 0]) (by simp [results, Try.results75, go_sem, r0, r1, r2, r3]) rfl ⟨rfl, ?_⟩
  exact ((((((((H1.out.swap.set 0 _).set 1 _).set 2 _).set 3 _).third.set 0 _).set 1 _).set 2 _).set 3 _).drop.drop.un2

set_option maxRecDepth 100000 in
set_option maxHeartbeats 8000000 in
theorem sseal_calls {W w : World} {Rs : List Res} {b : Nat} {L : List T} {m : Int} (ck k h n x : Int) (hn0 : 0 ≤ n) (hn : n ≤ 18446744073709551615) (hd : Hd W w (Sto b L m :: Rs)) :
    Calls Try.prog 31 #[.agg #[.int .i64 ck, .int .i64 k, .int .i64 h, .int .u64 n], .pointer (some ⟨b, 0, none⟩), .int .i64 x] w fun e w' => e = .returned (.tuple #[.agg #[.int .i64 (sSeal m L ⟨ck, k, h, n⟩ x).1.ck, .int .i64 (sSeal m L ⟨ck, k, h, n⟩ x).1.k, .int .i64 (sSeal m L ⟨ck, k, h, n⟩ x).1.h, .int .u64 (sSeal m L ⟨ck, k, h, n⟩ x).1.n], .int .i64 (sSeal m L ⟨ck, k, h, n⟩ x).2.1, .int .i64 (sSeal m L ⟨ck, k, h, n⟩ x).2.2.1]) ∧ Hd W w' (Sto b (sSeal m L ⟨ck, k, h, n⟩ x).2.2.2 m :: Rs) := by
  have H := hid hd
  clear hd
  obtain ⟨R, hR⟩ : ∃ R, sSeal m L ⟨ck, k, h, n⟩ x = R := ⟨_, rfl⟩
  rw [hR]
  have HR := hid hR
  clear hR
  have Hn := hid hn
  have H0 := hid hn0
  clear hn hn0
  by_cases hr : Sy.ready ⟨ck, k, h, n⟩ = true
  case neg =>
    have Hr : Hid (Sy.ready ⟨ck, k, h, n⟩ = false) := hid (by simpa using hr)
    clear hr
    go_enter Try.func31, Try.ntmps31
    go_wp2_with fail
    refine (ready_c ck k h n Hn.out (H.out.bx.bxk (w.heap.size + 1) (by simp))).mono ?_
    rw [Hr.out]
    rintro e w1 ⟨rfl, h1⟩
    have H1 := hid h1
    clear h1
    have hk := H1.out.swap.blk
    have r0 := (cell_of_heap hk 0).trans (show _ = some (.int .i64 0) from rfl)
    have r1 := (cell_of_heap hk 1).trans (show _ = some (.int .i64 0) from rfl)
    have r2 := (cell_of_heap hk 2).trans (show _ = some (.int .i64 0) from rfl)
    have r3 := (cell_of_heap hk 3).trans (show _ = some (.int .u64 0) from rfl)
    have rf := frozen_of_heap hk
    have rl := (Array.getElem?_eq_some_iff.1 hk).1
    clear hk
    have hk := H1.out.third.blk
    have y0 := (cell_of_heap hk 0).trans (show _ = some (.int .i64 ck) from rfl)
    have y1 := (cell_of_heap hk 1).trans (show _ = some (.int .i64 k) from rfl)
    have y2 := (cell_of_heap hk 2).trans (show _ = some (.int .i64 h) from rfl)
    have y3 := (cell_of_heap hk 3).trans (show _ = some (.int .u64 n) from rfl)
    have yf := frozen_of_heap hk
    have yl := (Array.getElem?_eq_some_iff.1 hk).1
    clear hk
    go_wp2_with fail
    have hR := HR.out
    simp [sSeal, Hr.out] at hR
    subst hR
    refine bodyPost_ret (v := .tuple #[.agg #[.int .i64 0, .int .i64 0, .int .i64 0, .int .u64 0], .int .i64 0, .int .i64 7]) (by simp [results, Try.results31, go_sem, r0, r1, r2, r3]) rfl ⟨rfl, ?_⟩
    exact ((((H1.out.swap.set 0 _).set 1 _).set 2 _).set 3 _).drop.un2
  have Hr := hid hr
  have hw := u64_up H0.out Hn.out (ready_iff.1 hr).2
  have Hw := hid hw
  clear hr hw
  obtain ⟨p, e1, L1, hq⟩ : ∃ p e1 L1, put m L (seaT k n h x) = (p, e1, L1) := ⟨_, _, _, rfl⟩
  have Hq1 := hid hq
  clear hq
  go_enter Try.func31, Try.ntmps31
  go_wp2_with fail
  refine (ready_c ck k h n Hn.out (H.out.bx.bxk (w.heap.size + 1) (by simp))).mono ?_
  rw [Hr.out]
  rintro e w1 ⟨rfl, h1⟩
  have H1 := hid h1
  clear h1
  have hk := H1.out.swap.blk
  have r0 := (cell_of_heap hk 0).trans (show _ = some (.int .i64 0) from rfl)
  have r1 := (cell_of_heap hk 1).trans (show _ = some (.int .i64 0) from rfl)
  have r2 := (cell_of_heap hk 2).trans (show _ = some (.int .i64 0) from rfl)
  have r3 := (cell_of_heap hk 3).trans (show _ = some (.int .u64 0) from rfl)
  have rf := frozen_of_heap hk
  have rl := (Array.getElem?_eq_some_iff.1 hk).1
  clear hk
  have hk := H1.out.third.blk
  have y0 := (cell_of_heap hk 0).trans (show _ = some (.int .i64 ck) from rfl)
  have y1 := (cell_of_heap hk 1).trans (show _ = some (.int .i64 k) from rfl)
  have y2 := (cell_of_heap hk 2).trans (show _ = some (.int .i64 h) from rfl)
  have y3 := (cell_of_heap hk 3).trans (show _ = some (.int .u64 n) from rfl)
  have yf := frozen_of_heap hk
  have yl := (Array.getElem?_eq_some_iff.1 hk).1
  clear hk
  go_wp2_with fail
  refine (seal_c k n h x Hq1 H1.out).mono ?_
  rintro e w2 ⟨rfl, h1⟩
  have H2 := hid h1
  clear h1 r0 r1 r2 r3 rf rl y0 y1 y2 y3 yf yl
  have hk := H2.out.swap.blk
  have r0 := (cell_of_heap hk 0).trans (show _ = some (.int .i64 0) from rfl)
  have r1 := (cell_of_heap hk 1).trans (show _ = some (.int .i64 0) from rfl)
  have r2 := (cell_of_heap hk 2).trans (show _ = some (.int .i64 0) from rfl)
  have r3 := (cell_of_heap hk 3).trans (show _ = some (.int .u64 0) from rfl)
  have rf := frozen_of_heap hk
  have rl := (Array.getElem?_eq_some_iff.1 hk).1
  clear hk
  have hk := H2.out.third.blk
  have y0 := (cell_of_heap hk 0).trans (show _ = some (.int .i64 ck) from rfl)
  have y1 := (cell_of_heap hk 1).trans (show _ = some (.int .i64 k) from rfl)
  have y2 := (cell_of_heap hk 2).trans (show _ = some (.int .i64 h) from rfl)
  have y3 := (cell_of_heap hk 3).trans (show _ = some (.int .u64 n) from rfl)
  have yf := frozen_of_heap hk
  have yl := (Array.getElem?_eq_some_iff.1 hk).1
  clear hk
  by_cases hk : e1 = 0
  case neg =>
    have dE10 : (e1 != 0) = true := by simp [hk]
    have E1 := hid hk
    clear hk
    go_wp2_with fail
    refine (said_bad ck k h n _ _ e1 E1.out H2.out).mono ?_
    rintro e w3 ⟨rfl, h1⟩
    have H3 := hid h1
    clear h1 r0 r1 r2 r3 rf rl y0 y1 y2 y3 yf yl
    have hk := H3.out.swap.blk
    have r0 := (cell_of_heap hk 0).trans (show _ = some (.int .i64 0) from rfl)
    have r1 := (cell_of_heap hk 1).trans (show _ = some (.int .i64 0) from rfl)
    have r2 := (cell_of_heap hk 2).trans (show _ = some (.int .i64 0) from rfl)
    have r3 := (cell_of_heap hk 3).trans (show _ = some (.int .u64 0) from rfl)
    have rf := frozen_of_heap hk
    have rl := (Array.getElem?_eq_some_iff.1 hk).1
    clear hk
    go_wp2_with fail
    have hR := HR.out
    simp [sSeal, Hr.out, Hq1.out, E1.out] at hR
    subst hR
    refine bodyPost_ret (v := .tuple #[.agg #[.int .i64 0, .int .i64 0, .int .i64 0, .int .u64 0], .int .i64 0, .int .i64 e1]) (by simp [results, Try.results31, go_sem, r0, r1, r2, r3]) rfl ⟨rfl, ?_⟩
    exact ((((H3.out.swap.set 0 _).set 1 _).set 2 _).set 3 _).drop.un2
  have dE10 : (e1 != 0) = false := by simp [hk]
  have E1 := hid hk
  clear hk
  obtain rfl : e1 = 0 := E1.out
  obtain ⟨z, q, e2, L2, hq⟩ : ∃ z q e2 L2, sSaid m L1 ⟨ck, k, h, n⟩ p p = (z, q, e2, L2) := ⟨_, _, _, _, rfl⟩
  have Hz := hid hq
  clear hq
  obtain ⟨zc, zk, zh, zn⟩ := z
  go_wp2_with fail
  refine (said_ok ck k h n p p Hw.out H2.out).mono ?_
  rw [Hz.out]
  rintro e w3 ⟨rfl, h1⟩
  have H3 := hid h1
  clear h1 r0 r1 r2 r3 rf rl
  have hk := H3.out.swap.blk
  have r0 := (cell_of_heap hk 0).trans (show _ = some (.int .i64 0) from rfl)
  have r1 := (cell_of_heap hk 1).trans (show _ = some (.int .i64 0) from rfl)
  have r2 := (cell_of_heap hk 2).trans (show _ = some (.int .i64 0) from rfl)
  have r3 := (cell_of_heap hk 3).trans (show _ = some (.int .u64 0) from rfl)
  have rf := frozen_of_heap hk
  have rl := (Array.getElem?_eq_some_iff.1 hk).1
  clear hk
  go_wp2_with fail
  have hR := HR.out
  simp [sSeal, Hr.out, Hq1.out, Hz.out] at hR
  subst hR
  refine bodyPost_ret (v := .tuple #[.agg #[.int .i64 zc, .int .i64 zk, .int .i64 zh, .int .u64 zn], .int .i64 q, .int .i64 e2]) (by simp [results, Try.results31, go_sem, r0, r1, r2, r3]) rfl ⟨rfl, ?_⟩
  exact ((((H3.out.swap.set 0 _).set 1 _).set 2 _).set 3 _).drop.un2

set_option maxRecDepth 100000 in
set_option maxHeartbeats 8000000 in
theorem sopen_calls {W w : World} {Rs : List Res} {b : Nat} {L : List T} {m : Int} (ck k h n x : Int) (hn0 : 0 ≤ n) (hn : n ≤ 18446744073709551615) (hd : Hd W w (Sto b L m :: Rs)) :
    Calls Try.prog 33 #[.agg #[.int .i64 ck, .int .i64 k, .int .i64 h, .int .u64 n], .pointer (some ⟨b, 0, none⟩), .int .i64 x] w fun e w' => e = .returned (.tuple #[.agg #[.int .i64 (sOpen m L ⟨ck, k, h, n⟩ x).1.ck, .int .i64 (sOpen m L ⟨ck, k, h, n⟩ x).1.k, .int .i64 (sOpen m L ⟨ck, k, h, n⟩ x).1.h, .int .u64 (sOpen m L ⟨ck, k, h, n⟩ x).1.n], .int .i64 (sOpen m L ⟨ck, k, h, n⟩ x).2.1, .int .i64 (sOpen m L ⟨ck, k, h, n⟩ x).2.2.1]) ∧ Hd W w' (Sto b (sOpen m L ⟨ck, k, h, n⟩ x).2.2.2 m :: Rs) := by
  have H := hid hd
  clear hd
  obtain ⟨R, hR⟩ : ∃ R, sOpen m L ⟨ck, k, h, n⟩ x = R := ⟨_, rfl⟩
  rw [hR]
  have HR := hid hR
  clear hR
  have Hn := hid hn
  have H0 := hid hn0
  clear hn hn0
  by_cases hr : Sy.ready ⟨ck, k, h, n⟩ = true
  case neg =>
    have Hr : Hid (Sy.ready ⟨ck, k, h, n⟩ = false) := hid (by simpa using hr)
    clear hr
    go_enter Try.func33, Try.ntmps33
    go_wp2_with fail
    refine (ready_c ck k h n Hn.out (H.out.bx.bxk (w.heap.size + 1) (by simp))).mono ?_
    rw [Hr.out]
    rintro e w1 ⟨rfl, h1⟩
    have H1 := hid h1
    clear h1
    have hk := H1.out.swap.blk
    have r0 := (cell_of_heap hk 0).trans (show _ = some (.int .i64 0) from rfl)
    have r1 := (cell_of_heap hk 1).trans (show _ = some (.int .i64 0) from rfl)
    have r2 := (cell_of_heap hk 2).trans (show _ = some (.int .i64 0) from rfl)
    have r3 := (cell_of_heap hk 3).trans (show _ = some (.int .u64 0) from rfl)
    have rf := frozen_of_heap hk
    have rl := (Array.getElem?_eq_some_iff.1 hk).1
    clear hk
    have hk := H1.out.third.blk
    have y0 := (cell_of_heap hk 0).trans (show _ = some (.int .i64 ck) from rfl)
    have y1 := (cell_of_heap hk 1).trans (show _ = some (.int .i64 k) from rfl)
    have y2 := (cell_of_heap hk 2).trans (show _ = some (.int .i64 h) from rfl)
    have y3 := (cell_of_heap hk 3).trans (show _ = some (.int .u64 n) from rfl)
    have yf := frozen_of_heap hk
    have yl := (Array.getElem?_eq_some_iff.1 hk).1
    clear hk
    go_wp2_with fail
    have hR := HR.out
    simp [sOpen, Hr.out] at hR
    subst hR
    refine bodyPost_ret (v := .tuple #[.agg #[.int .i64 0, .int .i64 0, .int .i64 0, .int .u64 0], .int .i64 0, .int .i64 7]) (by simp [results, Try.results33, go_sem, r0, r1, r2, r3]) rfl ⟨rfl, ?_⟩
    exact ((((H1.out.swap.set 0 _).set 1 _).set 2 _).set 3 _).drop.un2
  have Hr := hid hr
  have hw := u64_up H0.out Hn.out (ready_iff.1 hr).2
  have Hw := hid hw
  clear hr hw
  obtain ⟨p, e1, hq⟩ : ∃ p e1, open5 L k n h x = (p, e1) := ⟨_, _, rfl⟩
  have Hq1 := hid hq
  clear hq
  go_enter Try.func33, Try.ntmps33
  go_wp2_with fail
  refine (ready_c ck k h n Hn.out (H.out.bx.bxk (w.heap.size + 1) (by simp))).mono ?_
  rw [Hr.out]
  rintro e w1 ⟨rfl, h1⟩
  have H1 := hid h1
  clear h1
  have hk := H1.out.swap.blk
  have r0 := (cell_of_heap hk 0).trans (show _ = some (.int .i64 0) from rfl)
  have r1 := (cell_of_heap hk 1).trans (show _ = some (.int .i64 0) from rfl)
  have r2 := (cell_of_heap hk 2).trans (show _ = some (.int .i64 0) from rfl)
  have r3 := (cell_of_heap hk 3).trans (show _ = some (.int .u64 0) from rfl)
  have rf := frozen_of_heap hk
  have rl := (Array.getElem?_eq_some_iff.1 hk).1
  clear hk
  have hk := H1.out.third.blk
  have y0 := (cell_of_heap hk 0).trans (show _ = some (.int .i64 ck) from rfl)
  have y1 := (cell_of_heap hk 1).trans (show _ = some (.int .i64 k) from rfl)
  have y2 := (cell_of_heap hk 2).trans (show _ = some (.int .i64 h) from rfl)
  have y3 := (cell_of_heap hk 3).trans (show _ = some (.int .u64 n) from rfl)
  have yf := frozen_of_heap hk
  have yl := (Array.getElem?_eq_some_iff.1 hk).1
  clear hk
  go_wp2_with fail
  refine (aopen_c k n h x Hq1 H1.out).mono ?_
  rintro e w2 ⟨rfl, h1⟩
  have H2 := hid h1
  clear h1 r0 r1 r2 r3 rf rl y0 y1 y2 y3 yf yl
  have hk := H2.out.swap.blk
  have r0 := (cell_of_heap hk 0).trans (show _ = some (.int .i64 0) from rfl)
  have r1 := (cell_of_heap hk 1).trans (show _ = some (.int .i64 0) from rfl)
  have r2 := (cell_of_heap hk 2).trans (show _ = some (.int .i64 0) from rfl)
  have r3 := (cell_of_heap hk 3).trans (show _ = some (.int .u64 0) from rfl)
  have rf := frozen_of_heap hk
  have rl := (Array.getElem?_eq_some_iff.1 hk).1
  clear hk
  have hk := H2.out.third.blk
  have y0 := (cell_of_heap hk 0).trans (show _ = some (.int .i64 ck) from rfl)
  have y1 := (cell_of_heap hk 1).trans (show _ = some (.int .i64 k) from rfl)
  have y2 := (cell_of_heap hk 2).trans (show _ = some (.int .i64 h) from rfl)
  have y3 := (cell_of_heap hk 3).trans (show _ = some (.int .u64 n) from rfl)
  have yf := frozen_of_heap hk
  have yl := (Array.getElem?_eq_some_iff.1 hk).1
  clear hk
  by_cases hk : e1 = 0
  case neg =>
    have dE10 : (e1 != 0) = true := by simp [hk]
    have E1 := hid hk
    clear hk
    go_wp2_with fail
    refine (said_bad ck k h n _ _ e1 E1.out H2.out).mono ?_
    rintro e w3 ⟨rfl, h1⟩
    have H3 := hid h1
    clear h1 r0 r1 r2 r3 rf rl y0 y1 y2 y3 yf yl
    have hk := H3.out.swap.blk
    have r0 := (cell_of_heap hk 0).trans (show _ = some (.int .i64 0) from rfl)
    have r1 := (cell_of_heap hk 1).trans (show _ = some (.int .i64 0) from rfl)
    have r2 := (cell_of_heap hk 2).trans (show _ = some (.int .i64 0) from rfl)
    have r3 := (cell_of_heap hk 3).trans (show _ = some (.int .u64 0) from rfl)
    have rf := frozen_of_heap hk
    have rl := (Array.getElem?_eq_some_iff.1 hk).1
    clear hk
    go_wp2_with fail
    have hR := HR.out
    simp [sOpen, Hr.out, Hq1.out, E1.out] at hR
    subst hR
    refine bodyPost_ret (v := .tuple #[.agg #[.int .i64 0, .int .i64 0, .int .i64 0, .int .u64 0], .int .i64 0, .int .i64 e1]) (by simp [results, Try.results33, go_sem, r0, r1, r2, r3]) rfl ⟨rfl, ?_⟩
    exact ((((H3.out.swap.set 0 _).set 1 _).set 2 _).set 3 _).drop.un2
  have dE10 : (e1 != 0) = false := by simp [hk]
  have E1 := hid hk
  clear hk
  obtain rfl : e1 = 0 := E1.out
  obtain ⟨z, q, e2, L2, hq⟩ : ∃ z q e2 L2, sSaid m L ⟨ck, k, h, n⟩ x p = (z, q, e2, L2) := ⟨_, _, _, _, rfl⟩
  have Hz := hid hq
  clear hq
  obtain ⟨zc, zk, zh, zn⟩ := z
  go_wp2_with fail
  refine (said_ok ck k h n x p Hw.out H2.out).mono ?_
  rw [Hz.out]
  rintro e w3 ⟨rfl, h1⟩
  have H3 := hid h1
  clear h1 r0 r1 r2 r3 rf rl
  have hk := H3.out.swap.blk
  have r0 := (cell_of_heap hk 0).trans (show _ = some (.int .i64 0) from rfl)
  have r1 := (cell_of_heap hk 1).trans (show _ = some (.int .i64 0) from rfl)
  have r2 := (cell_of_heap hk 2).trans (show _ = some (.int .i64 0) from rfl)
  have r3 := (cell_of_heap hk 3).trans (show _ = some (.int .u64 0) from rfl)
  have rf := frozen_of_heap hk
  have rl := (Array.getElem?_eq_some_iff.1 hk).1
  clear hk
  go_wp2_with fail
  have hR := HR.out
  simp [sOpen, Hr.out, Hq1.out, Hz.out] at hR
  subst hR
  refine bodyPost_ret (v := .tuple #[.agg #[.int .i64 zc, .int .i64 zk, .int .i64 zh, .int .u64 zn], .int .i64 q, .int .i64 e2]) (by simp [results, Try.results33, go_sem, r0, r1, r2, r3]) rfl ⟨rfl, ?_⟩
  exact ((((H3.out.swap.set 0 _).set 1 _).set 2 _).set 3 _).drop.un2

end Go.Proofs.Ytbaliaodioflfaa
