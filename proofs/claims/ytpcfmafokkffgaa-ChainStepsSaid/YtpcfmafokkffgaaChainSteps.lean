/-
  ChainSteps returns true, and writes nothing that was there. For every input.
-/
import Derived.Test.YtpcfmafokkffgaaFixCh
import Derived.Test.YtpcfmafokkffgaaChainQ
import Derived.Test.YtpcfmafokkffgaaArgsC
import Derived.Test.YtpcfmafokkffgaaStores
namespace Go.Proofs.Ytpcfmafokkffgaa
open Go.RowKit

set_option maxRecDepth 100000 in
set_option maxHeartbeats 8000000 in
theorem chainSteps_walk (ad : Option Addr) (len cap : Nat) (ts : List T) (x0 x1 x2 : Int) (W : World) (hlen : len = ts.length) (hmax : len ≤ maxLen) (hts : TermsIn W ad ts) (hbx : (0 ≤ x0 ∧ x0 ≤ 65535) ∧ (0 ≤ x1 ∧ x1 ≤ 65535) ∧ (0 ≤ x2 ∧ x2 ≤ 65535)) :
    Calls Try.prog 3 #[.slice ad len cap, .agg #[.int .u16 x0, .int .u16 x1, .int .u16 x2]] W fun e w' => e = .returned (.bool true) ∧ Below W.heap.size W w' := by
  obtain ⟨⟨hx0, hx0'⟩, ⟨hx1, hx1'⟩, hx2, hx2'⟩ := hbx
  have H := hid ((Hd.refl W).boxk (o := .cells #[.int .u16 x0, .int .u16 x1, .int .u16 x2] 24 (0, 0)) W.heap.size rfl)
  have Hlen := hid hlen
  have Hmax := hid hmax
  have Hts := hid hts
  clear hlen hmax hts
  go_enter Try.func3, Try.ntmps3
  go_wp2_with fail
  refine (stores_calls H.out ad len cap ts Hlen.out Hmax.out Hts.out 20 (by decide)).mono ?_
  rintro e w1 ⟨b, b', L, rfl, hg, hl, hd⟩
  have H2 := hid ((hd.front 1 rfl).drop)
  clear hd H
  have H := H2
  clear H2
  have HG := hid hg
  have HL := hid hl
  clear hg hl
  obtain ⟨lb, db, mb, lc, dc, hat⟩ := H.out.sto
  go_wp2_with fail
  refine (len_calls' hat).mono ?_
  rintro e w2 ⟨rfl, rfl⟩
  clear hat
  by_cases hL : L.length = 0
  · have e0 : ((L.length : Int) == 0) = true := by simp [hL]
    have e1 : (L.length == 0) = true := by simp [hL]
    clear hL
    go_wp2_with fail
    refine (fixed15_calls H.out).mono ?_
    rintro e w3 ⟨rfl, h5⟩
    have H5 := hid h5
    clear h5
    go_wp2_with fail
    go_ret
    exact ⟨rfl, H5.out.below⟩
  have e0 : ((L.length : Int) == 0) = false := by simpa using hL
  have e1 : (L.length == 0) = false := by simpa using hL
  have hL1 : (1 : Int) ≤ (L.length : Int) := by omega
  clear hL
  go_wp2_with fail
  obtain ⟨r, hrr⟩ : ∃ r, x0.tmod L.length = r := ⟨_, rfl⟩
  obtain ⟨ee, he⟩ : ∃ ee, x1.tmod 990 = ee := ⟨_, rfl⟩
  have hr0 : 0 ≤ r ∧ r < L.length := by rw [← hrr, Int.tmod_eq_emod_of_nonneg hx0]; exact ⟨Int.emod_nonneg _ (by omega), Int.emod_lt_of_pos _ (by omega)⟩
  have he0 : 0 ≤ ee ∧ ee < 990 := by rw [← he, Int.tmod_eq_emod_of_nonneg hx1]; omega
  have z0 : IntKind.i64.wrap x0 = x0 := IntWalk.i64_in _ (by omega)
  have z1 : IntKind.i64.wrap x1 = x1 := IntWalk.i64_in _ (by omega)
  have z2 : IntKind.i64.wrap r = r := IntWalk.i64_in _ (by have := HL.out; omega)
  have z3 : IntKind.i64.wrap ee = ee := IntWalk.i64_in _ (by omega)
  have z4 : IntKind.i64.wrap (1 + r) = 1 + r := IntWalk.i64_in _ (by have := HL.out; omega)
  have z4' : wrap64 (1 + r) = 1 + r := IntWalk.wrap64_in _ (by have := HL.out; omega)
  have mixed : Try.prog.follows .mixedOrders = true := by kernel_rfl
  have cf : ∀ args w, (callFunc 18 args).run Try.prog w = .ok (.enter 18 args) w := fun args w => by kernel_rfl
  
  refine hold_coreB (P := Try.prog) (W := W) (Rs := Sto b L 1000 :: Blk W.heap.size (.cells #[.int .u16 x0, .int .u16 x1, .int .u16 x2] 24 (0, 0)) :: []) [[], [0], [1], [], [3], [2, 4], [5], [], [7], [8], [9], [6, 10], [], [11, 12]] [[], [], [], [], [], [], [], [], [], [], [], [], [12], [12]] ([some 35, some 36, some 37, some 38, some 39, some 40, some 41, some 42, some 43, some 44, some 45, some 46, some 7, none] : List (Option Nat)) ([none, none, none, none, none, none, none, none, none, none, none, none, some 13, none] : List (Option Nat)) ((fun _ => .pointer (some ⟨W.heap.size, 0, none⟩)) :: (fun _ => .int .u16 x0) :: (fun _ => .int .i64 x0) :: (fun _ => .pointer (some ⟨b, 0, none⟩)) :: (fun _ => .int .i64 (L.length : Nat)) :: (fun _ => .int .i64 r) :: (fun _ => .int .i64 (1 + r)) :: (fun _ => .pointer (some ⟨W.heap.size, 1, none⟩)) :: (fun _ => .int .u16 x1) :: (fun _ => .int .i64 x1) :: (fun _ => .int .i64 ee) :: (fun _ => .agg #[.int .i64 (1 + r), .int .i64 ee]) :: (fun gs => .pointer (some ⟨(gs.getD 0 default).2, 0, none⟩)) :: (fun _ => undef) :: []) ((fun _ => []) :: (fun _ => []) :: (fun _ => []) :: (fun _ => []) :: (fun _ => []) :: (fun _ => []) :: (fun _ => []) :: (fun _ => []) :: (fun _ => []) :: (fun _ => []) :: (fun _ => []) :: (fun _ => []) :: (fun gs => [Blk (gs.getD 0 default).2 (.cells #[.int .i64 0, .int .i64 0] 32 (0, 0))]) :: (fun _ => []) :: ([] : List (List Gh → List Res))) ((fun _ => []) :: (fun _ => []) :: (fun _ => []) :: (fun _ => []) :: (fun _ => []) :: (fun _ => []) :: (fun _ => []) :: (fun _ => []) :: (fun _ => []) :: (fun _ => []) :: (fun _ => []) :: (fun _ => []) :: (fun gs => [Blk (gs.getD 0 default).2 (.cells #[.int .i64 (1 + r), .int .i64 ee] 32 (0, 0))]) :: (fun _ => []) :: ([] : List (List Gh → List Res)))
    (by kernel_rfl) rfl (hold_lt (n := 140) (by decide)) H.out rfl (by decide) (hold_nil (fs := [13]) trivial rfl ?nil) ?gd ?step (fun t => decide (t = 7) || (decide (35 ≤ t) && decide (t ≤ 46))) (by decide) ?done (fun I h0 st dn => run_wpB mixed I h0 st dn)
  case nil =>
    intro s gs hs
    simp only [List.mem_cons, List.not_mem_nil, or_false] at hs
    subst hs; rfl
  case gd =>
    repeat (refine StepAll.cons (by first | exact trivial | exact fun g => rfl) ?_)
    exact trivial
  case step =>
    refine StepAll.cons ?_ ?_
    · refine HoldStepB.val (by decide) fun a wx γ hn hr hres hpre Ss hH K hK => ?_
      have ec := evc a
      have e3 : a.eval (.tmp 3) = .pointer (some ⟨W.heap.size, 0, none⟩) := (hr 3 (by decide)).trans rfl
      exact hold_run (v := .pointer (some ⟨W.heap.size, 0, none⟩)) (by clear hn hr hK; generalize a.eval = ρ at *; simp [execOp, ec, e3, go_sem]) rfl rfl hH hK
    refine StepAll.cons ?_ ?_
    · refine HoldStepB.val (by decide) fun a wx γ hn hr hres hpre Ss hH K hK => ?_
      have ec := evc a
      have e35 : a.eval (.tmp 35) = .pointer (some ⟨W.heap.size, 0, none⟩) := hn 0 (by decide) 35 rfl
      have hk := Hd.nthk 1 hH.rear rfl
      have c0 := (cell_of_heap hk 0).trans (show _ = some (.int .u16 x0) from rfl)
      have cs := (Array.getElem?_eq_some_iff.1 hk).1
      clear hk
      exact hold_run (v := .int .u16 x0) (by clear hn hr hK; generalize a.eval = ρ at *; simp [execOp, e35, c0, go_sem]) rfl rfl hH hK
    refine StepAll.cons ?_ ?_
    · refine HoldStepB.val (by decide) fun a wx γ hn hr hres hpre Ss hH K hK => ?_
      have ec := evc a
      have e36 : a.eval (.tmp 36) = .int .u16 x0 := hn 1 (by decide) 36 rfl
      exact hold_run (v := .int .i64 x0) (by clear hn hr hK; generalize a.eval = ρ at *; simp [execOp, e36, z0, go_sem]) rfl rfl hH hK
    refine StepAll.cons ?_ ?_
    · refine HoldStepB.val (by decide) fun a wx γ hn hr hres hpre Ss hH K hK => ?_
      have ec := evc a
      have e5 : a.eval (.tmp 5) = .pointer (some ⟨b, 0, none⟩) := (hr 5 (by decide)).trans rfl
      exact hold_run (v := .pointer (some ⟨b, 0, none⟩)) (by clear hn hr hK; generalize a.eval = ρ at *; simp [execOp, e5, go_sem]) rfl rfl hH hK
    refine StepAll.cons ?_ ?_
    · refine HoldStepB.val (by decide) fun a wx γ hn hr hres hpre Ss hH K hK => ?_
      have e38 : a.eval (.tmp 38) = .pointer (some ⟨b, 0, none⟩) := hn 3 (by decide) 38 rfl
      have ef : a.eval (.func 18) = .func (.func 18) #[] #[] := rfl
      obtain ⟨lb, db, mb, lc, dc, hat⟩ := hH.rear.sto
      refine hold_call (f := 18) (args := #[.pointer (some ⟨b, 0, none⟩)]) (by clear hn hr hK hH; generalize a.eval = ρ at *; simp [execOp, e38, cf, ef, go_sem]) ?_ hH hK
      exact (len_calls' hat).mono (fun e w2 h => ⟨default, h.1, fun Xs hX => h.2 ▸ hX⟩)
    refine StepAll.cons ?_ ?_
    · refine HoldStepB.val (by decide) fun a wx γ hn hr hres hpre Ss hH K hK => ?_
      have ec := evc a
      have e37 : a.eval (.tmp 37) = .int .i64 x0 := hn 2 (by decide) 37 rfl
      have e39 : a.eval (.tmp 39) = .int .i64 (L.length : Nat) := hn 4 (by decide) 39 rfl
      have hz : ¬ (L = []) := fun h => by rw [h] at hL1; simp at hL1
      exact hold_run (v := .int .i64 r) (by clear hn hr hK; generalize a.eval = ρ at *; simp [execOp, e37, e39, hz, hrr, go_sem]) rfl rfl hH hK
    refine StepAll.cons ?_ ?_
    · refine HoldStepB.val (by decide) fun a wx γ hn hr hres hpre Ss hH K hK => ?_
      have ec := evc a
      have e40 : a.eval (.tmp 40) = .int .i64 r := hn 5 (by decide) 40 rfl
      exact hold_run (v := .int .i64 (1 + r)) (by clear hn hr hK; generalize a.eval = ρ at *; simp [execOp, ec, e40, z4, go_sem]) rfl rfl hH hK
    refine StepAll.cons ?_ ?_
    · refine HoldStepB.val (by decide) fun a wx γ hn hr hres hpre Ss hH K hK => ?_
      have ec := evc a
      have e3 : a.eval (.tmp 3) = .pointer (some ⟨W.heap.size, 0, none⟩) := (hr 3 (by decide)).trans rfl
      exact hold_run (v := .pointer (some ⟨W.heap.size, 1, none⟩)) (by clear hn hr hK; generalize a.eval = ρ at *; simp [execOp, ec, e3, go_sem]) rfl rfl hH hK
    refine StepAll.cons ?_ ?_
    · refine HoldStepB.val (by decide) fun a wx γ hn hr hres hpre Ss hH K hK => ?_
      have ec := evc a
      have e42 : a.eval (.tmp 42) = .pointer (some ⟨W.heap.size, 1, none⟩) := hn 7 (by decide) 42 rfl
      have hk := Hd.nthk 1 hH.rear rfl
      have c1 := (cell_of_heap hk 1).trans (show _ = some (.int .u16 x1) from rfl)
      have cs := (Array.getElem?_eq_some_iff.1 hk).1
      clear hk
      exact hold_run (v := .int .u16 x1) (by clear hn hr hK; generalize a.eval = ρ at *; simp [execOp, e42, c1, go_sem]) rfl rfl hH hK
    refine StepAll.cons ?_ ?_
    · refine HoldStepB.val (by decide) fun a wx γ hn hr hres hpre Ss hH K hK => ?_
      have ec := evc a
      have e43 : a.eval (.tmp 43) = .int .u16 x1 := hn 8 (by decide) 43 rfl
      exact hold_run (v := .int .i64 x1) (by clear hn hr hK; generalize a.eval = ρ at *; simp [execOp, e43, z1, go_sem]) rfl rfl hH hK
    refine StepAll.cons ?_ ?_
    · refine HoldStepB.val (by decide) fun a wx γ hn hr hres hpre Ss hH K hK => ?_
      have ec := evc a
      have e44 : a.eval (.tmp 44) = .int .i64 x1 := hn 9 (by decide) 44 rfl
      exact hold_run (v := .int .i64 ee) (by clear hn hr hK; generalize a.eval = ρ at *; simp [execOp, ec, e44, he, go_sem]) rfl rfl hH hK
    refine StepAll.cons ?_ ?_
    · refine HoldStepB.val (by decide) fun a wx γ hn hr hres hpre Ss hH K hK => ?_
      have ec := evc a
      have e41 : a.eval (.tmp 41) = .int .i64 (1 + r) := hn 6 (by decide) 41 rfl
      have e45 : a.eval (.tmp 45) = .int .i64 ee := hn 10 (by decide) 45 rfl
      exact hold_run (v := .agg #[.int .i64 (1 + r), .int .i64 ee]) (by clear hn hr hK; generalize a.eval = ρ at *; simp [execOp, e41, e45, go_sem]) rfl rfl hH hK
    refine StepAll.cons ?_ ?_
    · refine HoldStepB.val (by decide) fun a wx γ hn hr hres hpre Ss hH K hK => ?_
      exact hold_new (obj := .cells #[.int .i64 0, .int .i64 0] 32 (0, 0)) (v := .pointer (some ⟨wx.heap.size, 0, none⟩)) (by clear hn hr hK; generalize a.eval = ρ at *; simp [execOp, go_sem]) rfl rfl hH hK
    refine StepAll.cons ?_ ?_
    · refine HoldStepB.fil 12 (by decide) fun a wx γ hn hr hres hpre Ss hH K hK => ?_
      have e46 : a.eval (.tmp 46) = .agg #[.int .i64 (1 + r), .int .i64 ee] := hn 11 (by decide) 46 rfl
      have e7 : a.eval (.tmp 7) = .pointer (some ⟨(γ 12).2, 0, none⟩) := hn 12 (by decide) 7 rfl
      have hH2 : Hd W wx (Blk (γ 12).2 (.cells #[.int .i64 0, .int .i64 0] 32 (0, 0)) :: (Ss ++ (Sto b L 1000 :: Blk W.heap.size (.cells #[.int .u16 x0, .int .u16 x1, .int .u16 x2] 24 (0, 0)) :: []))) := hH
      have hk := hH2.blk
      have c0 := (cell_of_heap hk 0).trans (show _ = some (.int .i64 0) from rfl)
      have c1 := (cell_of_heap hk 1).trans (show _ = some (.int .i64 0) from rfl)
      have cf := frozen_of_heap hk
      clear hk hH
      exact hold_filB (w' := (wx.setCell ⟨(γ 12).2, 0, none⟩ (.int .i64 (1 + r))).setCell ⟨(γ 12).2, 1, none⟩ (.int .i64 ee)) (by clear hn hr hK hH2; generalize a.eval = ρ at *; simp [execOp, e7, e46, c0, c1, cf, go_sem]) rfl rfl ((hH2.set 0 (.int .i64 (1 + r))).set 1 (.int .i64 ee)) hK
    exact trivial
  case done =>
    intro f w9 g9 hv h9
    have er7 : f 7 = .pointer (some ⟨(g9 12).2, 0, none⟩) := hv 12 7 rfl
    have hd : Hd W w9 (Blk (g9 12).2 (.cells #[.int .i64 (1 + r), .int .i64 ee] 32 (0, 0)) :: Sto b L 1000 :: Blk W.heap.size (.cells #[.int .u16 x0, .int .u16 x1, .int .u16 x2] 24 (0, 0)) :: []) := h9
    obtain ⟨p7, hp7⟩ : ∃ p, (g9 12).2 = p := ⟨_, rfl⟩
    rw [hp7] at er7 hd
    clear H
    have H := hid hd.swap
    clear hv h9 hp7 hd cf mixed e0 e1 g9
    simp only [patchG, Nat.reduceAdd, Nat.reduceLeDiff, Nat.reduceEqDiff, decide_true, decide_false, Bool.and_true, Bool.and_false, Bool.or_true, Bool.or_false, cond_true, cond_false, er7]
    clear er7
    obtain ⟨N, hN⟩ : ∃ N : Nat, x2 % 5 = N := ⟨(x2 % 5).toNat, by omega⟩
    have hN4 : N ≤ 4 := by omega
    obtain ⟨ks, dk, L3, hq1, rfl, hq3⟩ := steps15_ok 1000 N L (1 + r) ee (by omega) (by omega) (by omega) (by omega) (by have := HL.out; omega)
    have Hs := hid (steps15_stays 1000 _ hq1 (List.prefix_refl L3))
    have Hq1 := hid (to15_at hN4 hq1)
    have z5 : IntKind.i64.wrap x2 = x2 := IntWalk.i64_in _ (by omega)
    have z6 : x2.tmod 5 = ks.length := (Int.tmod_eq_emod_of_nonneg hx2).trans hN
    have z7 : IntKind.i64.wrap (ks.length : Int) = ks.length := IntWalk.i64_in _ (by omega)
    have z8 : IntKind.i64.wrap (ee + ks.length) = ee + ks.length := IntWalk.i64_in _ (by omega)
    have HE := hid he0
    have HN := hid hN4
    have H3 : Hid ((L3.length : Int) < 1000) := hid (by have := HL.out; omega)
    clear hq1 hq3 hN hN4 he0 hr0 hrr he z0 z1 z2 z3 z4 z4' hL1 hx0 hx0' hx1 hx1' hx2 hx2'
    have hk := Hd.nthk 2 H.out rfl
    have xx0 := (cell_of_heap hk 0).trans (show _ = some (.int .u16 (x0)) from rfl)
    have xx1 := (cell_of_heap hk 1).trans (show _ = some (.int .u16 (x1)) from rfl)
    have xx2 := (cell_of_heap hk 2).trans (show _ = some (.int .u16 (x2)) from rfl)
    have xxs := (Array.getElem?_eq_some_iff.1 hk).1
    clear hk
    have hk := Hd.nthk 1 H.out rfl
    have ba0 := (cell_of_heap hk 0).trans (show _ = some (.int .i64 (1 + r)) from rfl)
    have ba1 := (cell_of_heap hk 1).trans (show _ = some (.int .i64 (ee)) from rfl)
    have bas := (Array.getElem?_eq_some_iff.1 hk).1
    clear hk
    go_wp2_with fail
    refine (to_calls (1 + r) ee (ee + ks.length) (by have := HE.out; have := HN.out; omega) (by have := HE.out; have := HN.out; omega) (by have := HE.out; have := HN.out; omega) (by have := HE.out; have := HN.out; omega) H.out Hq1.out).mono ?_
    rintro e w3 ⟨v10, rfl, h1⟩
    clear H z5 z6 z8 Hq1 xx0 xx1 xx2 xxs ba0 ba1 bas
    obtain ⟨a10, c10, rfl, hi10⟩ := row_ints h1
    have H := hid h1.swap
    clear h1 hi10
    go_wp2_with fail
    go_loopw [12] (fun q wr => ∃ j : Nat, j ≤ ks.length ∧ q = .int .i64 j ∧ ∃ k' : Int, steps15 1000 (ks.length - j) L3 k' (ee + j) = (ks.drop j, (dk, ee + ks.length), 0, L3) ∧ (∀ y ∈ ks.take j, ∃ k'', k'' < k' ∧ At L3 y (keyT k'' 1)) ∧ Hid (Hd W wr (Sto b L3 1000 :: Blk w3.heap.size (.cells #[.int .i64 dk, .int .i64 (ee + ks.length)] 32 (0, 0)) :: RowR 3 1 (.slice a10 ks.length c10) ks.length (nums .i64 ks) :: Blk p7 (.cells #[.int .i64 k', .int .i64 (ee + j)] 32 (0, 0)) :: Blk W.heap.size (.cells #[.int .u16 x0, .int .u16 x1, .int .u16 x2] 24 (0, 0)) :: []))) (fun q _ => ks.length - (intOf q).toNat)
    case atStart => exact ⟨0, Nat.zero_le _, rfl, 1 + r, by simpa using Hs.out, by simp, hid (by simpa using H.out.bx)⟩
    case round =>
      clear H
      obtain ⟨j, hj, rfl, k', hst, hall, H⟩ := hrel
      obtain ⟨wo, rfl⟩ : ∃ wo : World, wo = wr := ⟨_, rfl⟩
      by_cases hlt : j < ks.length
      · have dlt : decide ((j : Int) < (ks.length : Int)) = true := by simpa using hlt
        obtain ⟨n, hn⟩ : ∃ n, ks.length - j = n + 1 := ⟨ks.length - j - 1, by omega⟩
        rw [hn] at hst
        obtain ⟨z, zs, d, hz, hs1, hs2, hs3, hs4⟩ := steps15_step hst
        have hzj : ks.getD j 0 = z := by
          have : ks[j]? = some z := by
            have := List.getElem?_drop (xs := ks) (i := j) (j := 0)
            rw [hz] at this
            simpa using this.symm
          simp [List.getD, this]
        have hg : Good L3 := by
          obtain ⟨lb, db, mb, lc, dc, hs⟩ := H.out.sto
          exact hs.good
        obtain ⟨n1, n2, n3, n4⟩ := step_new hg H3.out hs1 hs3 hall
        have HS1 := hid hs1
        have HS2 := hid hs2
        have N3 := hid n3
        have HT : Hid (steps15 1000 (ks.length - (j + 1)) L3 d (ee + ((j + 1 : Nat) : Int)) = (ks.drop (j + 1), (dk, ee + ks.length), 0, L3)) := hid (by
          rw [show ks.length - (j + 1) = n by omega, show ee + ((j + 1 : Nat) : Int) = ee + j + 1 by omega, hs4, show ks.drop (j + 1) = zs by rw [← List.drop_drop, hz]; rfl])
        have HA : Hid (∀ y ∈ ks.take (j + 1), ∃ k'', k'' < d ∧ At L3 y (keyT k'' 1)) := hid (by
          have e9 : ks.take (j + 1) = ks.take j ++ [z] := by
            rw [List.take_add_one]
            have : ks[j]? = some z := by
              have := List.getElem?_drop (xs := ks) (i := j) (j := 0)
              rw [hz] at this
              simpa using this.symm
            rw [this]; rfl
          rw [e9]; exact n4)
        have f1 : (z != z) = false := by simp
        have f2 : (d == z) = false := by simpa using n1
        have f3 : (d == k') = false := by simp; omega
        have he1 : 0 ≤ ee + (j : Int) := by have := HE.out; omega
        have he2 : ee + (j : Int) ≤ 1000 := by have := HE.out; have := HN.out; omega
        have f4 : IntKind.i64.wrap (ee + j + 1) = ee + j + 1 := IntWalk.i64_in _ (by omega)
        have f5 : (ee + (j : Int) + 1 != ee + j + 1) = false := by simp
        have hj0 : (0 : Int) ≤ (j : Int) := by omega
        have hj1 : (j : Int) < (ks.length : Int) := by omega
        have HZ := hid hzj
        clear hst hall hz hs1 hs2 hs3 hs4 hg n1 n2 n3 n4 hn hzj
        have hk := Hd.nthk 3 H.out rfl
        have ba0 := (cell_of_heap hk 0).trans (show _ = some (.int .i64 (k')) from rfl)
        have ba1 := (cell_of_heap hk 1).trans (show _ = some (.int .i64 (ee + j)) from rfl)
        have bas := (Array.getElem?_eq_some_iff.1 hk).1
        clear hk
        go_wp2_with fail
        refine (seal15_calls k' (ee + j) HS1.out H.out).mono ?_
        rintro e w4 ⟨rfl, h1⟩
        clear H ba0 ba1 bas
        have H := hid h1
        clear h1
        have hk := Hd.nthk 3 H.out rfl
        have ba0 := (cell_of_heap hk 0).trans (show _ = some (.int .i64 (k')) from rfl)
        have ba1 := (cell_of_heap hk 1).trans (show _ = some (.int .i64 (ee + j)) from rfl)
        have bas := (Array.getElem?_eq_some_iff.1 hk).1
        clear hk
        go_wp2_with fail
        refine (next15_calls k' (ee + j) HS2.out H.out).mono ?_
        rintro e w5 ⟨rfl, h1⟩
        clear H ba0 ba1 bas
        have H := hid h1
        clear h1
        have hk := Hd.nthk 3 H.out rfl
        have ba0 := (cell_of_heap hk 0).trans (show _ = some (.int .i64 (k')) from rfl)
        have ba1 := (cell_of_heap hk 1).trans (show _ = some (.int .i64 (ee + j)) from rfl)
        have bas := (Array.getElem?_eq_some_iff.1 hk).1
        clear hk
        obtain ⟨a', c', ea, hi⟩ := row_ints (ks := ks) (H.out.front 2 rfl)
        simp only [Value.slice.injEq] at ea
        obtain ⟨rfl, _, rfl⟩ := ea
        obtain ⟨g1, o1, rfl, hc1⟩ := hi.resolve_left fun e => by rw [e] at hlt; simp at hlt
        have dd := hc1 j (by omega)
        have dds := World.block_lt_of_cell? _ _ dd
        clear hc1 hi
        rw [HZ.out] at dd
        go_wp2_with fail
        go_loopw [17] (fun q wr => ∃ i : Nat, i ≤ j ∧ q = .int .i64 i ∧ Hid (Hd W wr (Sto b L3 1000 :: Blk w5.heap.size (.cells #[.int .i64 d, .int .i64 (ee + j + 1)] 32 (0, 0)) :: Blk w3.heap.size (.cells #[.int .i64 dk, .int .i64 (ee + ks.length)] 32 (0, 0)) :: RowR 3 1 (.slice (some ⟨g1, o1, none⟩) ks.length c10) ks.length (nums .i64 ks) :: Blk p7 (.cells #[.int .i64 k', .int .i64 (ee + j)] 32 (0, 0)) :: Blk W.heap.size (.cells #[.int .u16 x0, .int .u16 x1, .int .u16 x2] 24 (0, 0)) :: []))) (fun q _ => j - (intOf q).toNat)
        case atStart => exact ⟨0, Nat.zero_le _, rfl, hid H.out.bx⟩
        case round =>
          clear H ba0 ba1 bas dd dds f1 f2 f3 f5
          obtain ⟨i, hi', rfl, H⟩ := hrel
          by_cases hlt2 : i < j
          · have dlt2 : decide ((i : Int) < (j : Int)) = true := by simpa using hlt2
            have hi0 : (0 : Int) ≤ (i : Int) := by omega
            have hi1 : (i : Int) < (ks.length : Int) := by omega
            obtain ⟨y, hy⟩ : ∃ y, ks.getD i 0 = y := ⟨_, rfl⟩
            have f6 : (y == z) = false := by
              have hm : ks[i]? = some y := by
                have h9 : i < ks.length := by omega
                rw [List.getElem?_eq_getElem h9, ← hy]; simp [List.getD, List.getElem?_eq_getElem h9]
              have : y ∈ ks.take j := by
                refine List.mem_of_getElem? (i := i) ?_
                rw [List.getElem?_take, if_pos hlt2]; exact hm
              simpa using N3.out y this
            obtain ⟨a', c', ea, hi⟩ := row_ints (ks := ks) (H.out.front 3 rfl)
            simp only [Value.slice.injEq] at ea
            obtain ⟨rfl, _, rfl⟩ := ea
            obtain ⟨g2, o2, e9, hc1⟩ := hi.resolve_left fun e => by rw [e] at hlt; simp at hlt
            simp only [Option.some.injEq, Addr.mk.injEq, and_true] at e9
            obtain ⟨rfl, rfl⟩ := e9
            have dd := hc1 i (by omega)
            have dds := World.block_lt_of_cell? _ _ dd
            clear hc1 hi
            rw [hy] at dd
            clear hy
            have hN4 := HN.out
            go_wp2_with fail
            go_roundw
            case rel => exact ⟨i + 1, by omega, by go_num, H⟩
            case measure => simp [intOf]; omega
          · have dlt2 : decide ((i : Int) < (j : Int)) = false := by simp; omega
            have hk := Hd.nthk 1 H.out rfl
            have bb0 := (cell_of_heap hk 0).trans (show _ = some (.int .i64 (d)) from rfl)
            have bb1 := (cell_of_heap hk 1).trans (show _ = some (.int .i64 (ee + j + 1)) from rfl)
            have bbs := (Array.getElem?_eq_some_iff.1 hk).1
            clear hk
            have hk := Hd.nthk 4 H.out rfl
            have ba0 := (cell_of_heap hk 0).trans (show _ = some (.int .i64 (k')) from rfl)
            have ba1 := (cell_of_heap hk 1).trans (show _ = some (.int .i64 (ee + j)) from rfl)
            have bas := (Array.getElem?_eq_some_iff.1 hk).1
            have baf := frozen_of_heap hk
            clear hk
            have hN4 := HN.out
            go_wp2_with fail
            go_roundw
            case rel =>
              refine ⟨j + 1, by omega, by go_num, d, HT.out, HA.out, hid ?_⟩
              rw [show ee + ((j + 1 : Nat) : Int) = ee + j + 1 by omega]
              exact (((H.out.un2.front 3 rfl).set 0 (.int .i64 d)).set 1 (.int .i64 (ee + j + 1))).back 3 (Ss := Sto b L3 1000 :: Blk w3.heap.size (.cells #[.int .i64 dk, .int .i64 (ee + ks.length)] 32 (0, 0)) :: RowR 3 1 (.slice (some ⟨g1, o1, none⟩) ks.length c10) ks.length (nums .i64 ks) :: Blk p7 (.cells #[.int .i64 d, .int .i64 (ee + j + 1)] 32 (0, 0)) :: Blk W.heap.size (.cells #[.int .u16 x0, .int .u16 x1, .int .u16 x2] 24 (0, 0)) :: []) rfl
            case measure => simp [intOf]; omega
      · have dlt : decide ((j : Int) < (ks.length : Int)) = false := by simp; omega
        obtain rfl : j = ks.length := by omega
        rw [Nat.sub_self] at hst
        simp only [steps15, Prod.mk.injEq] at hst
        obtain ⟨_, ⟨rfl, _⟩, _⟩ := hst
        have q3 := eqt_Ch k' (ee + ks.length)
        clear hall hlt hj Hs
        have hk := Hd.nthk 3 H.out rfl
        have ba0 := (cell_of_heap hk 0).trans (show _ = some (.int .i64 (k')) from rfl)
        have ba1 := (cell_of_heap hk 1).trans (show _ = some (.int .i64 (ee + ks.length)) from rfl)
        have bas := (Array.getElem?_eq_some_iff.1 hk).1
        clear hk
        have hk := Hd.nthk 1 H.out rfl
        have bb0 := (cell_of_heap hk 0).trans (show _ = some (.int .i64 (k')) from rfl)
        have bb1 := (cell_of_heap hk 1).trans (show _ = some (.int .i64 (ee + ks.length)) from rfl)
        have bbs := (Array.getElem?_eq_some_iff.1 hk).1
        clear hk
        go_wp2_with fail
        refine (fixed15_calls H.out).mono ?_
        rintro e w9 ⟨rfl, h1⟩
        clear H
        have H := hid h1
        clear h1
        go_wp2_with fail
        go_ret
        exact ⟨rfl, H.out.below⟩
end Go.Proofs.Ytpcfmafokkffgaa
