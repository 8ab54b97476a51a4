/-
  ChainTells returns true, and writes nothing that was there. For every input.
-/
import Derived.Test.YtpcfmafokkffgaaFixCh
import Derived.Test.YtpcfmafokkffgaaChainU
import Derived.Test.YtpcfmafokkffgaaHoldC
import Derived.Test.YtpcfmafokkffgaaSame
import Derived.Test.YtpcfmafokkffgaaArgsC
namespace Go.Proofs.Ytpcfmafokkffgaa
open Go.RowKit

theorem neqf_RCh (k e : Int) (w : World) : (binOp .neq 57 (.agg #[.int .i64 k, .int .i64 e]) (.agg #[.int .i64 k, .int .i64 e])).run Try.prog w = .ok (.bool false) w := by
  have q : (Op.equalIn 10000 57 (.agg #[.int .i64 k, .int .i64 e]) (.agg #[.int .i64 k, .int .i64 e])).run Try.prog w = .ok true w := by
    go_simp
  rw [run_neq_struct, q]
  rfl

theorem steps15_len (m : Int) : ∀ (n : Nat) (L : List T) (k e : Int), (steps15 m n L k e).1.length ≤ n
  | 0, L, k, e => by simp [steps15]
  | n + 1, L, k, e => by
    rw [steps15_succ]
    have ih := steps15_len m n
    split
    · split
      · simp only [List.length_cons]
        have := ih (next15 m (put m L (keyT k 1)).2.2 k e).2.2 (next15 m (put m L (keyT k 1)).2.2 k e).1.1 (next15 m (put m L (keyT k 1)).2.2 k e).1.2
        omega
      · simp
    · simp
theorem to15_len (m : Int) (L : List T) (k e x : Int) : (to15 m L k e x).2.1.length ≤ 4 := by
  unfold to15
  split
  · simp
  · split
    · simp
    · have := steps15_len m (x - e).toNat L k e
      split
      · dsimp only; omega
      · simp

set_option maxRecDepth 100000 in
set_option maxHeartbeats 32000000 in
theorem chainTells_walk (ad : Option Addr) (len cap : Nat) (ts : List T) (ad2 : Option Addr) (len2 cap2 : Nat) (zs : List (List Int)) (W : World) (hlen : len = ts.length) (hmax : len ≤ maxLen) (hts : TermsIn W ad ts)
    (hlen2 : len2 = zs.length) (hmax2 : len2 ≤ maxLen) (hzs : RowsIn 3 .i64 W ad2 zs) :
    Calls Try.prog 7 #[.slice ad len cap, .slice ad2 len2 cap2] W fun e w' => e = .returned (.bool true) ∧ Below W.heap.size W w' := by
  have Hlen := hid hlen
  have Hts := hid hts
  have Hmax := hid hmax
  have Hlen2 := hid hlen2
  have Hzs := hid hzs
  have mixed : Try.prog.follows .mixedOrders = true := by kernel_rfl
  clear hts hlen hmax hlen2 hzs
  unfold maxLen at hmax2
  go_enter Try.func7, Try.ntmps7
  go_wp2_with fail
  refine (stores_calls (Hd.refl W) ad len cap ts Hlen.out Hmax.out Hts.out 30 (by decide)).mono ?_
  rintro e w1 ⟨b, b', L0, rfl, hg, hl, hd⟩
  have H0 := hid hd
  clear hd hg hl
  go_wp2_with fail
  go_loopw [7] (fun i wr => ∃ j : Nat, j ≤ len2 ∧ i = .int .i64 j ∧ ∃ L : List T, Hid (Hd W wr [Sto b L 1000, RSto b' L 1000])) (fun i _ => len2 - (intOf i).toNat)
  case atStart => exact ⟨0, Nat.zero_le _, rfl, L0, H0⟩
  case round =>
    obtain ⟨j, hj, rfl, L, H⟩ := hrel
    clear H0
    by_cases hlt : j < len2 ∧ j < 20
    · have hd1 : decide (j < len2) = true := by simpa using hlt.1
      have hd2 : decide ((j : Int) < 20) = true := by simp; omega
      obtain ⟨z, hz⟩ : ∃ z, zs[j]? = some z := ⟨zs[j]'(by rw [← Hlen2.out]; exact hlt.1), List.getElem?_eq_getElem _⟩
      obtain ⟨hzl, hzr, g, o, rfl, hc⟩ := Hzs.out j z hz
      obtain ⟨u, v, y, rfl⟩ : ∃ u v y, z = [u, v, y] := by
        match z, hzl with
        | [u, v, y], _ => exact ⟨u, v, y, rfl⟩
      have k0 := hc 0 u rfl
      have k1 := hc 1 v rfl
      have k2 := hc 2 y rfl
      simp only [Nat.add_zero] at k0
      have hv := hzr v (by simp)
      have hy := hzr y (by simp)
      have hj0 : (0 : Int) ≤ (j : Int) := by omega
      have hj1 : (j : Int) < (len2 : Int) := by omega
      have HV : Hid (-9223372036854775808 ≤ v ∧ v ≤ 9223372036854775807) := hid (by simpa [IntKind.min, IntKind.max, IntKind.signed, IntKind.bits] using hv)
      have HY : Hid (-9223372036854775808 ≤ y ∧ y ≤ 9223372036854775807) := hid (by simpa [IntKind.min, IntKind.max, IntKind.signed, IntKind.bits] using hy)
      have HLT := hid hlt
      clear hc hz hzl hzr hlt hv hy
      obtain ⟨r1, r2, L1, hq⟩ : ∃ r1 r2 L1, put 1000 L (keyT u 1) = (r1, r2, L1) := ⟨_, _, _, rfl⟩
      have Q1 := hid hq
      clear hq
      obtain ⟨⟨dk, de⟩, n2, L2, hq⟩ : ∃ d n2 L2, next15 1000 L1 u v = (d, n2, L2) := ⟨_, _, _, rfl⟩
      have Q2 := hid hq
      clear hq
      obtain ⟨⟨tk, te⟩, ks, t2, L3, hq⟩ : ∃ t ks t2 L3, to15 1000 L2 u v y = (t, ks, t2, L3) := ⟨_, _, _, _, rfl⟩
      have HKS : Hid (ks.length ≤ 4611686018427387904) := hid (by have := to15_len 1000 L2 u v y; rw [hq] at this; dsimp only at this; omega)
      have Q3 := hid hq
      clear hq
      go_wp2_with fail
      refine hold_coreB (P := Try.prog) (W := W) (Rs := (Sto b L 1000 :: RSto b' L 1000 :: [])) [[], [], [0, 1], [2], [3], [], [], [5, 6], [7], [8], [4, 9], [], [10, 11]] [[], [], [], [], [], [], [], [], [], [], [], [11], [11]] ([some 40, some 41, some 42, some 43, some 44, some 45, some 46, some 47, some 48, some 49, some 50, some 8, none] : List (Option Nat)) ([none, none, none, none, none, none, none, none, none, none, none, some 12, none] : List (Option Nat)) ((fun _ => .slice (some ⟨g, o, none⟩) len2 cap2) :: (fun _ => .int .i64 (j : Int)) :: (fun _ => .pointer (some ⟨g, o + j * 3, none⟩)) :: (fun _ => .pointer (some ⟨g, o + j * 3, none⟩)) :: (fun _ => .int .i64 u) :: (fun _ => .slice (some ⟨g, o, none⟩) len2 cap2) :: (fun _ => .int .i64 (j : Int)) :: (fun _ => .pointer (some ⟨g, o + j * 3, none⟩)) :: (fun _ => .pointer (some ⟨g, o + j * 3 + 1, none⟩)) :: (fun _ => .int .i64 v) :: (fun _ => .agg #[.int .i64 u, .int .i64 v]) :: (fun gs => .pointer (some ⟨(gs.getD 0 default).2, 0, none⟩)) :: (fun _ => undef) :: []) ((fun _ => []) :: (fun _ => []) :: (fun _ => []) :: (fun _ => []) :: (fun _ => []) :: (fun _ => []) :: (fun _ => []) :: (fun _ => []) :: (fun _ => []) :: (fun _ => []) :: (fun _ => []) :: (fun gs => [Blk (gs.getD 0 default).2 (.cells #[.int .i64 0, .int .i64 0] 32 (0, 0))]) :: (fun _ => []) :: ([] : List (List Gh → List Res))) ((fun _ => []) :: (fun _ => []) :: (fun _ => []) :: (fun _ => []) :: (fun _ => []) :: (fun _ => []) :: (fun _ => []) :: (fun _ => []) :: (fun _ => []) :: (fun _ => []) :: (fun _ => []) :: (fun gs => [Blk (gs.getD 0 default).2 (.cells #[.int .i64 u, .int .i64 v] 32 (0, 0))]) :: (fun _ => []) :: ([] : List (List Gh → List Res))) (by kernel_rfl) rfl (hold_lt (n := 145) (by decide)) H.out rfl (by decide) (hold_nil (fs := [12]) trivial rfl ?nil7) ?gd7 ?step7 (fun t => decide (t = 8) || (decide (40 ≤ t) && decide (t ≤ 50))) (by decide) ?done7 (fun I h0 st dn => run_wpB mixed I h0 st dn)
      case nil7 =>
        intro s gs hs
        simp only [List.mem_cons, List.not_mem_nil, or_false] at hs
        subst hs; rfl
      case gd7 =>
        repeat (refine StepAll.cons (by first | exact trivial | exact fun g => rfl) ?_)
        exact trivial
      case step7 =>
        refine StepAll.cons ?_ ?_
        · refine HoldStepB.val (by decide) fun a wx γ hn hr hres hpre Ss hH K hK => ?_
          have e1 : a.eval (.tmp 1) = .slice (some ⟨g, o, none⟩) len2 cap2 := (hr 1 (by decide)).trans rfl
          exact hold_run (v := .slice (some ⟨g, o, none⟩) len2 cap2) (by clear hn hr hK; generalize a.eval = ρ at *; simp [execOp, e1, go_sem]) rfl rfl hH hK
        refine StepAll.cons ?_ ?_
        · refine HoldStepB.val (by decide) fun a wx γ hn hr hres hpre Ss hH K hK => ?_
          have e7 : a.eval (.tmp 7) = .int .i64 (j : Int) := (hr 7 (by decide)).trans rfl
          exact hold_run (v := .int .i64 (j : Int)) (by clear hn hr hK; generalize a.eval = ρ at *; simp [execOp, e7, go_sem]) rfl rfl hH hK
        refine StepAll.cons ?_ ?_
        · refine HoldStepB.val (by decide) fun a wx γ hn hr hres hpre Ss hH K hK => ?_
          have e40 : a.eval (.tmp 40) = .slice (some ⟨g, o, none⟩) len2 cap2 := hn 0 (by decide) 40 rfl
          have e41 : a.eval (.tmp 41) = .int .i64 (j : Int) := hn 1 (by decide) 41 rfl
          exact hold_run (v := .pointer (some ⟨g, o + j * 3, none⟩)) (by clear hn hr hK; generalize a.eval = ρ at *; simp [execOp, e40, e41, hj0, hj1, go_sem]) rfl rfl hH hK
        refine StepAll.cons ?_ ?_
        · refine HoldStepB.val (by decide) fun a wx γ hn hr hres hpre Ss hH K hK => ?_
          have ec := evc a
          have e42 : a.eval (.tmp 42) = .pointer (some ⟨g, o + j * 3, none⟩) := hn 2 (by decide) 42 rfl
          exact hold_run (v := .pointer (some ⟨g, o + j * 3, none⟩)) (by clear hn hr hK; generalize a.eval = ρ at *; simp [execOp, ec, e42, go_sem]) rfl rfl hH hK
        refine StepAll.cons ?_ ?_
        · refine HoldStepB.val (by decide) fun a wx γ hn hr hres hpre Ss hH K hK => ?_
          have e43 : a.eval (.tmp 43) = .pointer (some ⟨g, o + j * 3, none⟩) := hn 3 (by decide) 43 rfl
          have c0 := (hH.below.cell (p := ⟨g, o + j * 3, none⟩) (World.block_lt_of_cell? W _ k0)).trans k0
          exact hold_run (v := .int .i64 u) (by clear hn hr hK; generalize a.eval = ρ at *; simp [execOp, e43, c0, go_sem]) rfl rfl hH hK
        refine StepAll.cons ?_ ?_
        · refine HoldStepB.val (by decide) fun a wx γ hn hr hres hpre Ss hH K hK => ?_
          have e1 : a.eval (.tmp 1) = .slice (some ⟨g, o, none⟩) len2 cap2 := (hr 1 (by decide)).trans rfl
          exact hold_run (v := .slice (some ⟨g, o, none⟩) len2 cap2) (by clear hn hr hK; generalize a.eval = ρ at *; simp [execOp, e1, go_sem]) rfl rfl hH hK
        refine StepAll.cons ?_ ?_
        · refine HoldStepB.val (by decide) fun a wx γ hn hr hres hpre Ss hH K hK => ?_
          have e7 : a.eval (.tmp 7) = .int .i64 (j : Int) := (hr 7 (by decide)).trans rfl
          exact hold_run (v := .int .i64 (j : Int)) (by clear hn hr hK; generalize a.eval = ρ at *; simp [execOp, e7, go_sem]) rfl rfl hH hK
        refine StepAll.cons ?_ ?_
        · refine HoldStepB.val (by decide) fun a wx γ hn hr hres hpre Ss hH K hK => ?_
          have e45 : a.eval (.tmp 45) = .slice (some ⟨g, o, none⟩) len2 cap2 := hn 5 (by decide) 45 rfl
          have e46 : a.eval (.tmp 46) = .int .i64 (j : Int) := hn 6 (by decide) 46 rfl
          exact hold_run (v := .pointer (some ⟨g, o + j * 3, none⟩)) (by clear hn hr hK; generalize a.eval = ρ at *; simp [execOp, e45, e46, hj0, hj1, go_sem]) rfl rfl hH hK
        refine StepAll.cons ?_ ?_
        · refine HoldStepB.val (by decide) fun a wx γ hn hr hres hpre Ss hH K hK => ?_
          have ec := evc a
          have e47 : a.eval (.tmp 47) = .pointer (some ⟨g, o + j * 3, none⟩) := hn 7 (by decide) 47 rfl
          exact hold_run (v := .pointer (some ⟨g, o + j * 3 + 1, none⟩)) (by clear hn hr hK; generalize a.eval = ρ at *; simp [execOp, ec, e47, go_sem]) rfl rfl hH hK
        refine StepAll.cons ?_ ?_
        · refine HoldStepB.val (by decide) fun a wx γ hn hr hres hpre Ss hH K hK => ?_
          have e48 : a.eval (.tmp 48) = .pointer (some ⟨g, o + j * 3 + 1, none⟩) := hn 8 (by decide) 48 rfl
          have c0 := (hH.below.cell (p := ⟨g, o + j * 3 + 1, none⟩) (World.block_lt_of_cell? W _ k1)).trans k1
          exact hold_run (v := .int .i64 v) (by clear hn hr hK; generalize a.eval = ρ at *; simp [execOp, e48, c0, go_sem]) rfl rfl hH hK
        refine StepAll.cons ?_ ?_
        · refine HoldStepB.val (by decide) fun a wx γ hn hr hres hpre Ss hH K hK => ?_
          have e44 : a.eval (.tmp 44) = .int .i64 u := hn 4 (by decide) 44 rfl
          have e49 : a.eval (.tmp 49) = .int .i64 v := hn 9 (by decide) 49 rfl
          exact hold_run (v := .agg #[.int .i64 u, .int .i64 v]) (by clear hn hr hK; generalize a.eval = ρ at *; simp [execOp, e44, e49, go_sem]) rfl rfl hH hK
        refine StepAll.cons ?_ ?_
        · refine HoldStepB.val (by decide) fun a wx γ hn hr hres hpre Ss hH K hK => ?_
          exact hold_new (obj := .cells #[.int .i64 0, .int .i64 0] 32 (0, 0)) (v := .pointer (some ⟨wx.heap.size, 0, none⟩)) (by clear hn hr hK; generalize a.eval = ρ at *; simp [execOp, go_sem]) rfl rfl hH hK
        refine StepAll.cons ?_ ?_
        · refine HoldStepB.fil 11 (by decide) fun a wx γ hn hr hres hpre Ss hH K hK => ?_
          have e8 : a.eval (.tmp 8) = .pointer (some ⟨(γ 11).2, 0, none⟩) := hn 11 (by decide) 8 rfl
          have e50 : a.eval (.tmp 50) = .agg #[.int .i64 u, .int .i64 v] := hn 10 (by decide) 50 rfl
          have hH2 : Hd W wx (Blk (γ 11).2 (.cells #[.int .i64 0, .int .i64 0] 32 (0, 0)) :: (Ss ++ (Sto b L 1000 :: RSto b' L 1000 :: []))) := hH
          have hk := hH2.blk
          have c0 := (cell_of_heap hk 0).trans (show _ = some (.int .i64 0) from rfl)
          have c1 := (cell_of_heap hk 1).trans (show _ = some (.int .i64 0) from rfl)
          have cf := frozen_of_heap hk
          clear hk hH
          exact hold_filB (w' := ((wx.setCell ⟨(γ 11).2, 0, none⟩ (.int .i64 u)).setCell ⟨(γ 11).2, 1, none⟩ (.int .i64 v))) (by clear hn hr hK hH2; generalize a.eval = ρ at *; simp [execOp, e8, e50, c0, c1, cf, go_sem]) rfl rfl ((hH2.set 0 (.int .i64 u)).set 1 (.int .i64 v)) hK
        exact trivial
      case done7 =>
        intro f w9 g9 hv h9
        have er8 : f 8 = .pointer (some ⟨(g9 11).2, 0, none⟩) := hv 11 8 rfl
        have hd : Hd W w9 (Blk (g9 11).2 (.cells #[.int .i64 u, .int .i64 v] 32 (0, 0)) :: Sto b L 1000 :: RSto b' L 1000 :: []) := h9
        obtain ⟨⟨_, p8⟩, hG11⟩ : ∃ x, g9 11 = x := ⟨_, rfl⟩
        simp only [hG11] at hd er8
        clear hv h9 hG11 
        clear g9
        simp only [patchG, Nat.reduceAdd, Nat.reduceLeDiff, Nat.reduceEqDiff, decide_true, decide_false, Bool.and_true, Bool.and_false, Bool.or_true, Bool.or_false, cond_true, cond_false, er8]
        clear er8
        clear H
        have H := hid hd
        clear hd
        replace H := hid ((H.out.front 2 rfl).front 2 rfl)
        have hk := Hd.nthk 2 H.out rfl
        have ba0 := (cell_of_heap hk 0).trans (show _ = some (.int .i64 (u)) from rfl)
        have ba1 := (cell_of_heap hk 1).trans (show _ = some (.int .i64 (v)) from rfl)
        have bas := (Array.getElem?_eq_some_iff.1 hk).1
        clear hk
        go_wp2_with fail
        refine (seal15_calls u v Q1.out H.out).mono ?_
        rintro e w2 ⟨rfl, h1⟩
        clear H ba0 ba1 bas
        have H := hid h1
        clear h1
        replace H := hid (((H.out.front 2 rfl).front 1 rfl).front 2 rfl)
        have hk := Hd.nthk 2 H.out rfl
        have ba0 := (cell_of_heap hk 0).trans (show _ = some (.int .i64 (u)) from rfl)
        have ba1 := (cell_of_heap hk 1).trans (show _ = some (.int .i64 (v)) from rfl)
        have bas := (Array.getElem?_eq_some_iff.1 hk).1
        clear hk
        go_wp2_with fail
        refine (ref15_calls u v _).mono ?_
        rintro e w3 ⟨rfl, h1⟩
        replace H := hid (H.out.still h1)
        clear h1 ba0 ba1 bas
        have hk := Hd.nthk 2 H.out rfl
        have ba0 := (cell_of_heap hk 0).trans (show _ = some (.int .i64 (u)) from rfl)
        have ba1 := (cell_of_heap hk 1).trans (show _ = some (.int .i64 (v)) from rfl)
        have bas := (Array.getElem?_eq_some_iff.1 hk).1
        clear hk
        go_wp2_with fail
        refine (rseal15_calls u v Q1.out H.out).mono ?_
        rintro e w4 ⟨rfl, h1⟩
        clear H ba0 ba1 bas
        have H := hid h1
        clear h1
        replace H := hid (((H.out.front 2 rfl).front 1 rfl).front 2 rfl)
        have hk := Hd.nthk 2 H.out rfl
        have ba0 := (cell_of_heap hk 0).trans (show _ = some (.int .i64 (u)) from rfl)
        have ba1 := (cell_of_heap hk 1).trans (show _ = some (.int .i64 (v)) from rfl)
        have bas := (Array.getElem?_eq_some_iff.1 hk).1
        clear hk
        go_wp2_with fail
        refine (next15_calls u v Q2.out H.out).mono ?_
        rintro e w5 ⟨rfl, h1⟩
        clear H ba0 ba1 bas
        have H := hid h1
        clear h1
        replace H := hid (((H.out.front 2 rfl).front 1 rfl).front 2 rfl)
        have hk := Hd.nthk 2 H.out rfl
        have ba0 := (cell_of_heap hk 0).trans (show _ = some (.int .i64 (u)) from rfl)
        have ba1 := (cell_of_heap hk 1).trans (show _ = some (.int .i64 (v)) from rfl)
        have bas := (Array.getElem?_eq_some_iff.1 hk).1
        clear hk
        go_wp2_with fail
        refine (ref15_calls u v _).mono ?_
        rintro e w6 ⟨rfl, h1⟩
        have HB := hid (H.out.bxk w5.heap.size rfl (o := .cells #[.int .i64 dk, .int .i64 de] 32 (0, 0)))
        clear H ba0 ba1 bas
        have H := hid (HB.out.still h1)
        clear h1 HB
        have hk := Hd.nthk 3 H.out rfl
        have ba0 := (cell_of_heap hk 0).trans (show _ = some (.int .i64 (u)) from rfl)
        have ba1 := (cell_of_heap hk 1).trans (show _ = some (.int .i64 (v)) from rfl)
        have bas := (Array.getElem?_eq_some_iff.1 hk).1
        clear hk
        go_wp2_with fail
        refine (rnext15_calls u v Q2.out H.out).mono ?_
        rintro e w7 ⟨rfl, h1⟩
        clear H ba0 ba1 bas
        have H := hid h1
        clear h1
        clear Q1 Q2
        have HB := hid (H.out.bxk w7.heap.size rfl (o := .cells #[.int .i64 dk, .int .i64 de] 57 (0, 0)))
        clear H
        replace HB := hid (((((HB.out.front 4 rfl).front 3 rfl).front 3 rfl).front 3 rfl).front 4 rfl)
        go_wp2_with fail
        have cf20 : ∀ args w, (callFunc 20 args).run Try.prog w = .ok (.enter 20 args) w := fun args w => by kernel_rfl
        refine hold_coreB (P := Try.prog) (W := W) (Rs := (RSto b' L2 1000 :: Blk w7.heap.size (.cells #[.int .i64 dk, .int .i64 de] 57 (0, 0)) :: Blk w5.heap.size (.cells #[.int .i64 dk, .int .i64 de] 32 (0, 0)) :: Blk p8 (.cells #[.int .i64 u, .int .i64 v] 32 (0, 0)) :: [])) [[], [], [], [], [2, 3], [4], [5], [0, 1, 6], [7], [8], [8], [8], [], [9, 12], [10], [11]] [[], [], [], [], [], [], [], [7], [7], [], [7], [], [12], [12], [7], []] ([some 78, some 79, some 80, some 81, some 82, some 83, some 84, some 85, some 77, some 86, some 87, some 88, some 17, none, some 18, some 19] : List (Option Nat)) ([none, none, none, none, none, none, none, none, none, none, none, none, some 13, none, none, none, some 7] : List (Option Nat)) ((fun _ => .agg #[.int .i64 u, .int .i64 v]) :: (fun _ => .pointer (some ⟨b, 0, none⟩)) :: (fun _ => .slice (some ⟨g, o, none⟩) len2 cap2) :: (fun _ => .int .i64 (j : Int)) :: (fun _ => .pointer (some ⟨g, o + j * 3, none⟩)) :: (fun _ => .pointer (some ⟨g, o + j * 3 + 2, none⟩)) :: (fun _ => .int .i64 y) :: (fun gs => .tuple #[.agg #[.int .i64 tk, .int .i64 te], .slice (gs.getD 0 default).1 ks.length (gs.getD 0 default).2, .int .i64 t2]) :: (fun gs => .tuple #[.agg #[.int .i64 tk, .int .i64 te], .slice (gs.getD 0 default).1 ks.length (gs.getD 0 default).2, .int .i64 t2]) :: (fun _ => .agg #[.int .i64 tk, .int .i64 te]) :: (fun gs => .slice (gs.getD 0 default).1 ks.length (gs.getD 0 default).2) :: (fun _ => .int .i64 t2) :: (fun gs => .pointer (some ⟨(gs.getD 0 default).2, 0, none⟩)) :: (fun _ => undef) :: (fun gs => .slice (gs.getD 0 default).1 ks.length (gs.getD 0 default).2) :: (fun _ => .int .i64 t2) :: []) ((fun _ => []) :: (fun _ => []) :: (fun _ => []) :: (fun _ => []) :: (fun _ => []) :: (fun _ => []) :: (fun _ => []) :: (fun _ => []) :: (fun _ => []) :: (fun _ => []) :: (fun _ => []) :: (fun _ => []) :: (fun gs => [Blk (gs.getD 0 default).2 (.cells #[.int .i64 0, .int .i64 0] 32 (0, 0))]) :: (fun _ => []) :: (fun _ => []) :: (fun _ => []) :: (fun _ => [Sto b L2 1000]) :: ([] : List (List Gh → List Res))) ((fun _ => []) :: (fun _ => []) :: (fun _ => []) :: (fun _ => []) :: (fun _ => []) :: (fun _ => []) :: (fun _ => []) :: (fun _ => []) :: (fun _ => []) :: (fun _ => []) :: (fun _ => []) :: (fun _ => []) :: (fun gs => [Blk (gs.getD 0 default).2 (.cells #[.int .i64 tk, .int .i64 te] 32 (0, 0))]) :: (fun _ => []) :: (fun _ => []) :: (fun _ => []) :: (fun gs => [RowR 3 1 (.slice (gs.getD 0 default).1 ks.length (gs.getD 0 default).2) ks.length (nums .i64 ks), Sto b L3 1000]) :: ([] : List (List Gh → List Res))) (by kernel_rfl) rfl (hold_lt (n := 145) (by decide)) HB.out rfl (by decide) (hold_nil (fs := [13, 7]) trivial rfl ?nil12) ?gd12 ?step12 (fun t => (decide (17 ≤ t) && decide (t ≤ 19)) || (decide (77 ≤ t) && decide (t ≤ 88))) (by decide) ?done12 (fun I h0 st dn => run_wpB mixed I h0 st dn)
        case nil12 =>
          intro s gs hs
          simp only [List.mem_cons, List.not_mem_nil, or_false] at hs
          rcases hs with rfl | rfl <;> rfl
        case gd12 =>
          repeat (refine StepAll.cons (by first | exact trivial | exact fun g => rfl) ?_)
          exact trivial
        case step12 =>
          refine StepAll.cons ?_ ?_
          · refine HoldStepB.val (by decide) fun a wx γ hn hr hres hpre Ss hH K hK => ?_
            have e8 : a.eval (.tmp 8) = .pointer (some ⟨p8, 0, none⟩) := (hr 8 (by decide)).trans rfl
            have hk := Hd.nthk 3 hH.rear rfl
            have c0 := (cell_of_heap hk 0).trans (show _ = some (.int .i64 u) from rfl)
            have c1 := (cell_of_heap hk 1).trans (show _ = some (.int .i64 v) from rfl)
            clear hk
            exact hold_run (v := .agg #[.int .i64 u, .int .i64 v]) (by clear hn hr hK; generalize a.eval = ρ at *; simp [execOp, e8, c0, c1, go_sem]) rfl rfl hH hK
          refine StepAll.cons ?_ ?_
          · refine HoldStepB.val (by decide) fun a wx γ hn hr hres hpre Ss hH K hK => ?_
            have e5 : a.eval (.tmp 5) = .pointer (some ⟨b, 0, none⟩) := (hr 5 (by decide)).trans rfl
            exact hold_run (v := .pointer (some ⟨b, 0, none⟩)) (by clear hn hr hK; generalize a.eval = ρ at *; simp [execOp, e5, go_sem]) rfl rfl hH hK
          refine StepAll.cons ?_ ?_
          · refine HoldStepB.val (by decide) fun a wx γ hn hr hres hpre Ss hH K hK => ?_
            have e1 : a.eval (.tmp 1) = .slice (some ⟨g, o, none⟩) len2 cap2 := (hr 1 (by decide)).trans rfl
            exact hold_run (v := .slice (some ⟨g, o, none⟩) len2 cap2) (by clear hn hr hK; generalize a.eval = ρ at *; simp [execOp, e1, go_sem]) rfl rfl hH hK
          refine StepAll.cons ?_ ?_
          · refine HoldStepB.val (by decide) fun a wx γ hn hr hres hpre Ss hH K hK => ?_
            have e7 : a.eval (.tmp 7) = .int .i64 (j : Int) := (hr 7 (by decide)).trans rfl
            exact hold_run (v := .int .i64 (j : Int)) (by clear hn hr hK; generalize a.eval = ρ at *; simp [execOp, e7, go_sem]) rfl rfl hH hK
          refine StepAll.cons ?_ ?_
          · refine HoldStepB.val (by decide) fun a wx γ hn hr hres hpre Ss hH K hK => ?_
            have e80 : a.eval (.tmp 80) = .slice (some ⟨g, o, none⟩) len2 cap2 := hn 2 (by decide) 80 rfl
            have e81 : a.eval (.tmp 81) = .int .i64 (j : Int) := hn 3 (by decide) 81 rfl
            exact hold_run (v := .pointer (some ⟨g, o + j * 3, none⟩)) (by clear hn hr hK; generalize a.eval = ρ at *; simp [execOp, e80, e81, hj0, hj1, go_sem]) rfl rfl hH hK
          refine StepAll.cons ?_ ?_
          · refine HoldStepB.val (by decide) fun a wx γ hn hr hres hpre Ss hH K hK => ?_
            have ec := evc a
            have e82 : a.eval (.tmp 82) = .pointer (some ⟨g, o + j * 3, none⟩) := hn 4 (by decide) 82 rfl
            exact hold_run (v := .pointer (some ⟨g, o + j * 3 + 2, none⟩)) (by clear hn hr hK; generalize a.eval = ρ at *; simp [execOp, ec, e82, go_sem]) rfl rfl hH hK
          refine StepAll.cons ?_ ?_
          · refine HoldStepB.val (by decide) fun a wx γ hn hr hres hpre Ss hH K hK => ?_
            have e83 : a.eval (.tmp 83) = .pointer (some ⟨g, o + j * 3 + 2, none⟩) := hn 5 (by decide) 83 rfl
            have c0 := (hH.below.cell (p := ⟨g, o + j * 3 + 2, none⟩) (World.block_lt_of_cell? W _ k2)).trans k2
            exact hold_run (v := .int .i64 y) (by clear hn hr hK; generalize a.eval = ρ at *; simp [execOp, e83, c0, go_sem]) rfl rfl hH hK
          refine StepAll.cons ?_ ?_
          · refine HoldStepB.fil 16 (by decide) fun a wx γ hn hr hres hpre Ss hH K hK => ?_
            have e78 : a.eval (.tmp 78) = .agg #[.int .i64 u, .int .i64 v] := hn 0 (by decide) 78 rfl
            have e79 : a.eval (.tmp 79) = .pointer (some ⟨b, 0, none⟩) := hn 1 (by decide) 79 rfl
            have e84 : a.eval (.tmp 84) = .int .i64 y := hn 6 (by decide) 84 rfl
            have ef : a.eval (.func 20) = .func (.func 20) #[] #[] := rfl
            refine hold_callB (b := 16) (f := 20) (args := #[.agg #[.int .i64 u, .int .i64 v], .pointer (some ⟨b, 0, none⟩), .int .i64 y]) (by clear hn hr hK hH; generalize a.eval = ρ at *; simp [execOp, e78, e79, e84, cf20, ef, go_sem]) ?_ hK
            refine (to_calls u v y (by have := HY.out; omega) (by have := HY.out; omega) (by have := HV.out; omega) (by have := HV.out; omega) hH Q3.out).mono ?_
            rintro e w9 ⟨vv, rfl, h9⟩
            obtain ⟨a9, c9, rfl⟩ := h9.row_form
            exact ⟨(a9, c9), rfl, h9⟩
          refine StepAll.cons ?_ ?_
          · refine HoldStepB.val (by decide) fun a wx γ hn hr hres hpre Ss hH K hK => ?_
            have e85 : a.eval (.tmp 85) = .tuple #[.agg #[.int .i64 tk, .int .i64 te], .slice (γ 7).1 ks.length (γ 7).2, .int .i64 t2] := hn 7 (by decide) 85 rfl
            exact hold_run (v := .tuple #[.agg #[.int .i64 tk, .int .i64 te], .slice (γ 7).1 ks.length (γ 7).2, .int .i64 t2]) (by clear hn hr hK; generalize a.eval = ρ at *; simp [execOp, e85, go_sem]) rfl rfl hH hK
          refine StepAll.cons ?_ ?_
          · refine HoldStepB.val (by decide) fun a wx γ hn hr hres hpre Ss hH K hK => ?_
            have e77 : a.eval (.tmp 77) = .tuple #[.agg #[.int .i64 tk, .int .i64 te], .slice (γ 7).1 ks.length (γ 7).2, .int .i64 t2] := hn 8 (by decide) 77 rfl
            exact hold_run (v := .agg #[.int .i64 tk, .int .i64 te]) (by clear hn hr hK; generalize a.eval = ρ at *; simp [execOp, e77, go_sem]) rfl rfl hH hK
          refine StepAll.cons ?_ ?_
          · refine HoldStepB.val (by decide) fun a wx γ hn hr hres hpre Ss hH K hK => ?_
            have e77 : a.eval (.tmp 77) = .tuple #[.agg #[.int .i64 tk, .int .i64 te], .slice (γ 7).1 ks.length (γ 7).2, .int .i64 t2] := hn 8 (by decide) 77 rfl
            exact hold_run (v := .slice (γ 7).1 ks.length (γ 7).2) (by clear hn hr hK; generalize a.eval = ρ at *; simp [execOp, e77, go_sem]) rfl rfl hH hK
          refine StepAll.cons ?_ ?_
          · refine HoldStepB.val (by decide) fun a wx γ hn hr hres hpre Ss hH K hK => ?_
            have e77 : a.eval (.tmp 77) = .tuple #[.agg #[.int .i64 tk, .int .i64 te], .slice (γ 7).1 ks.length (γ 7).2, .int .i64 t2] := hn 8 (by decide) 77 rfl
            exact hold_run (v := .int .i64 t2) (by clear hn hr hK; generalize a.eval = ρ at *; simp [execOp, e77, go_sem]) rfl rfl hH hK
          refine StepAll.cons ?_ ?_
          · refine HoldStepB.val (by decide) fun a wx γ hn hr hres hpre Ss hH K hK => ?_
            exact hold_new (obj := .cells #[.int .i64 0, .int .i64 0] 32 (0, 0)) (v := .pointer (some ⟨wx.heap.size, 0, none⟩)) (by clear hn hr hK; generalize a.eval = ρ at *; simp [execOp, go_sem]) rfl rfl hH hK
          refine StepAll.cons ?_ ?_
          · refine HoldStepB.fil 12 (by decide) fun a wx γ hn hr hres hpre Ss hH K hK => ?_
            have e17 : a.eval (.tmp 17) = .pointer (some ⟨(γ 12).2, 0, none⟩) := hn 12 (by decide) 17 rfl
            have e86 : a.eval (.tmp 86) = .agg #[.int .i64 tk, .int .i64 te] := hn 9 (by decide) 86 rfl
            have hH2 : Hd W wx (Blk (γ 12).2 (.cells #[.int .i64 0, .int .i64 0] 32 (0, 0)) :: (Ss ++ (RSto b' L2 1000 :: Blk w7.heap.size (.cells #[.int .i64 dk, .int .i64 de] 57 (0, 0)) :: Blk w5.heap.size (.cells #[.int .i64 dk, .int .i64 de] 32 (0, 0)) :: Blk p8 (.cells #[.int .i64 u, .int .i64 v] 32 (0, 0)) :: []))) := hH
            have hk := hH2.blk
            have c0 := (cell_of_heap hk 0).trans (show _ = some (.int .i64 0) from rfl)
            have c1 := (cell_of_heap hk 1).trans (show _ = some (.int .i64 0) from rfl)
            have cf := frozen_of_heap hk
            clear hk hH
            exact hold_filB (w' := ((wx.setCell ⟨(γ 12).2, 0, none⟩ (.int .i64 tk)).setCell ⟨(γ 12).2, 1, none⟩ (.int .i64 te))) (by clear hn hr hK hH2; generalize a.eval = ρ at *; simp [execOp, e17, e86, c0, c1, cf, go_sem]) rfl rfl ((hH2.set 0 (.int .i64 tk)).set 1 (.int .i64 te)) hK
          refine StepAll.cons ?_ ?_
          · refine HoldStepB.val (by decide) fun a wx γ hn hr hres hpre Ss hH K hK => ?_
            have e87 : a.eval (.tmp 87) = .slice (γ 7).1 ks.length (γ 7).2 := hn 10 (by decide) 87 rfl
            exact hold_run (v := .slice (γ 7).1 ks.length (γ 7).2) (by clear hn hr hK; generalize a.eval = ρ at *; simp [execOp, e87, go_sem]) rfl rfl hH hK
          refine StepAll.cons ?_ ?_
          · refine HoldStepB.val (by decide) fun a wx γ hn hr hres hpre Ss hH K hK => ?_
            have e88 : a.eval (.tmp 88) = .int .i64 t2 := hn 11 (by decide) 88 rfl
            exact hold_run (v := .int .i64 t2) (by clear hn hr hK; generalize a.eval = ρ at *; simp [execOp, e88, go_sem]) rfl rfl hH hK
          exact trivial
        case done12 =>
          intro f w9 g9 hv h9
          have er17 : f 17 = .pointer (some ⟨(g9 12).2, 0, none⟩) := hv 12 17 rfl
          have er18 : f 18 = .slice (g9 7).1 ks.length (g9 7).2 := hv 14 18 rfl
          have er19 : f 19 = .int .i64 t2 := hv 15 19 rfl
          have hd : Hd W w9 (Blk (g9 12).2 (.cells #[.int .i64 tk, .int .i64 te] 32 (0, 0)) :: RowR 3 1 (.slice (g9 7).1 ks.length (g9 7).2) ks.length (nums .i64 ks) :: Sto b L3 1000 :: RSto b' L2 1000 :: Blk w7.heap.size (.cells #[.int .i64 dk, .int .i64 de] 57 (0, 0)) :: Blk w5.heap.size (.cells #[.int .i64 dk, .int .i64 de] 32 (0, 0)) :: Blk p8 (.cells #[.int .i64 u, .int .i64 v] 32 (0, 0)) :: []) := h9
          obtain ⟨⟨a18, c18⟩, hG7⟩ : ∃ x, g9 7 = x := ⟨_, rfl⟩
          obtain ⟨⟨_, p17⟩, hG12⟩ : ∃ x, g9 12 = x := ⟨_, rfl⟩
          simp only [hG7, hG12] at hd er17 er18 er19
          clear hv h9 hG7 hG12 cf20
          clear g9
          simp only [patchG, Nat.reduceAdd, Nat.reduceLeDiff, decide_true, decide_false, Bool.and_true, Bool.and_false, Bool.or_true, Bool.or_false, cond_true, cond_false, er17, er18, er19]
          clear er17 er18 er19
          clear HB
          have H := hid (((((((hd.front 6 rfl).front 6 rfl).front 6 rfl).front 5 rfl).front 5 rfl).front 5 rfl).front 6 rfl)
          clear hd
          go_wp2_with fail
          have cf28 : ∀ args w, (callFunc 28 args).run Try.prog w = .ok (.enter 28 args) w := fun args w => by kernel_rfl
          have cf30 : ∀ args w, (callFunc 30 args).run Try.prog w = .ok (.enter 30 args) w := fun args w => by kernel_rfl
          refine hold_coreB (P := Try.prog) (W := W) (Rs := (Blk p17 (.cells #[.int .i64 tk, .int .i64 te] 32 (0, 0)) :: RowR 3 1 (.slice a18 ks.length c18) ks.length (nums .i64 ks) :: Sto b L3 1000 :: Blk w7.heap.size (.cells #[.int .i64 dk, .int .i64 de] 57 (0, 0)) :: Blk w5.heap.size (.cells #[.int .i64 dk, .int .i64 de] 32 (0, 0)) :: Blk p8 (.cells #[.int .i64 u, .int .i64 v] 32 (0, 0)) :: [])) [[], [], [1], [], [], [3, 4], [5], [6], [0, 2, 7], [8], [9], [9], [9], [], [10, 13], [11], [12]] [[], [], [], [], [], [], [], [], [8], [8], [], [8], [], [13], [13], [8], []] ([some 90, some 91, some 92, some 93, some 94, some 95, some 96, some 97, some 98, some 89, some 99, some 100, some 101, some 20, none, some 21, some 22] : List (Option Nat)) ([none, none, none, none, none, none, none, none, none, none, none, none, none, some 14, none, none, none, some 8] : List (Option Nat)) ((fun _ => .pointer (some ⟨b', 0, none⟩)) :: (fun _ => .agg #[.int .i64 u, .int .i64 v]) :: (fun _ => .agg #[.int .i64 u, .int .i64 v]) :: (fun _ => .slice (some ⟨g, o, none⟩) len2 cap2) :: (fun _ => .int .i64 (j : Int)) :: (fun _ => .pointer (some ⟨g, o + j * 3, none⟩)) :: (fun _ => .pointer (some ⟨g, o + j * 3 + 2, none⟩)) :: (fun _ => .int .i64 y) :: (fun gs => .tuple #[.agg #[.int .i64 tk, .int .i64 te], .slice (gs.getD 0 default).1 ks.length (gs.getD 0 default).2, .int .i64 t2]) :: (fun gs => .tuple #[.agg #[.int .i64 tk, .int .i64 te], .slice (gs.getD 0 default).1 ks.length (gs.getD 0 default).2, .int .i64 t2]) :: (fun _ => .agg #[.int .i64 tk, .int .i64 te]) :: (fun gs => .slice (gs.getD 0 default).1 ks.length (gs.getD 0 default).2) :: (fun _ => .int .i64 t2) :: (fun gs => .pointer (some ⟨(gs.getD 0 default).2, 0, none⟩)) :: (fun _ => undef) :: (fun gs => .slice (gs.getD 0 default).1 ks.length (gs.getD 0 default).2) :: (fun _ => .int .i64 t2) :: []) ((fun _ => []) :: (fun _ => []) :: (fun _ => []) :: (fun _ => []) :: (fun _ => []) :: (fun _ => []) :: (fun _ => []) :: (fun _ => []) :: (fun _ => []) :: (fun _ => []) :: (fun _ => []) :: (fun _ => []) :: (fun _ => []) :: (fun gs => [Blk (gs.getD 0 default).2 (.cells #[.int .i64 0, .int .i64 0] 57 (0, 0))]) :: (fun _ => []) :: (fun _ => []) :: (fun _ => []) :: (fun _ => [RSto b' L2 1000]) :: ([] : List (List Gh → List Res))) ((fun _ => []) :: (fun _ => []) :: (fun _ => []) :: (fun _ => []) :: (fun _ => []) :: (fun _ => []) :: (fun _ => []) :: (fun _ => []) :: (fun _ => []) :: (fun _ => []) :: (fun _ => []) :: (fun _ => []) :: (fun _ => []) :: (fun gs => [Blk (gs.getD 0 default).2 (.cells #[.int .i64 tk, .int .i64 te] 57 (0, 0))]) :: (fun _ => []) :: (fun _ => []) :: (fun _ => []) :: (fun gs => [RowR 3 1 (.slice (gs.getD 0 default).1 ks.length (gs.getD 0 default).2) ks.length (nums .i64 ks), RSto b' L3 1000]) :: ([] : List (List Gh → List Res))) (by kernel_rfl) rfl (hold_lt (n := 145) (by decide)) H.out rfl (by decide) (hold_nil (fs := [14, 8]) trivial rfl ?nil13) ?gd13 ?step13 (fun t => (decide (20 ≤ t) && decide (t ≤ 22)) || (decide (89 ≤ t) && decide (t ≤ 101))) (by decide) ?done13 (fun I h0 st dn => run_wpB mixed I h0 st dn)
          case nil13 =>
            intro s gs hs
            simp only [List.mem_cons, List.not_mem_nil, or_false] at hs
            rcases hs with rfl | rfl <;> rfl
          case gd13 =>
            repeat (refine StepAll.cons (by first | exact trivial | exact fun g => rfl) ?_)
            exact trivial
          case step13 =>
            refine StepAll.cons ?_ ?_
            · refine HoldStepB.val (by decide) fun a wx γ hn hr hres hpre Ss hH K hK => ?_
              have e6 : a.eval (.tmp 6) = .pointer (some ⟨b', 0, none⟩) := (hr 6 (by decide)).trans rfl
              exact hold_run (v := .pointer (some ⟨b', 0, none⟩)) (by clear hn hr hK; generalize a.eval = ρ at *; simp [execOp, e6, go_sem]) rfl rfl hH hK
            refine StepAll.cons ?_ ?_
            · refine HoldStepB.val (by decide) fun a wx γ hn hr hres hpre Ss hH K hK => ?_
              have e8 : a.eval (.tmp 8) = .pointer (some ⟨p8, 0, none⟩) := (hr 8 (by decide)).trans rfl
              have hk := Hd.nthk 5 hH.rear rfl
              have c0 := (cell_of_heap hk 0).trans (show _ = some (.int .i64 u) from rfl)
              have c1 := (cell_of_heap hk 1).trans (show _ = some (.int .i64 v) from rfl)
              clear hk
              exact hold_run (v := .agg #[.int .i64 u, .int .i64 v]) (by clear hn hr hK; generalize a.eval = ρ at *; simp [execOp, e8, c0, c1, go_sem]) rfl rfl hH hK
            refine StepAll.cons ?_ ?_
            · refine HoldStepB.val (by decide) fun a wx γ hn hr hres hpre Ss hH K hK => ?_
              have e91 : a.eval (.tmp 91) = .agg #[.int .i64 u, .int .i64 v] := hn 1 (by decide) 91 rfl
              have ef : a.eval (.func 28) = .func (.func 28) #[] #[] := rfl
              refine hold_call (f := 28) (args := #[.agg #[.int .i64 u, .int .i64 v]]) (by clear hn hr hK hH; generalize a.eval = ρ at *; simp [execOp, e91, cf28, ef, go_sem]) ?_ hH hK
              exact (ref15_calls u v _).mono fun e w2 h => ⟨default, h.1, fun Xs hX => hX.still h.2⟩
            refine StepAll.cons ?_ ?_
            · refine HoldStepB.val (by decide) fun a wx γ hn hr hres hpre Ss hH K hK => ?_
              have e1 : a.eval (.tmp 1) = .slice (some ⟨g, o, none⟩) len2 cap2 := (hr 1 (by decide)).trans rfl
              exact hold_run (v := .slice (some ⟨g, o, none⟩) len2 cap2) (by clear hn hr hK; generalize a.eval = ρ at *; simp [execOp, e1, go_sem]) rfl rfl hH hK
            refine StepAll.cons ?_ ?_
            · refine HoldStepB.val (by decide) fun a wx γ hn hr hres hpre Ss hH K hK => ?_
              have e7 : a.eval (.tmp 7) = .int .i64 (j : Int) := (hr 7 (by decide)).trans rfl
              exact hold_run (v := .int .i64 (j : Int)) (by clear hn hr hK; generalize a.eval = ρ at *; simp [execOp, e7, go_sem]) rfl rfl hH hK
            refine StepAll.cons ?_ ?_
            · refine HoldStepB.val (by decide) fun a wx γ hn hr hres hpre Ss hH K hK => ?_
              have e93 : a.eval (.tmp 93) = .slice (some ⟨g, o, none⟩) len2 cap2 := hn 3 (by decide) 93 rfl
              have e94 : a.eval (.tmp 94) = .int .i64 (j : Int) := hn 4 (by decide) 94 rfl
              exact hold_run (v := .pointer (some ⟨g, o + j * 3, none⟩)) (by clear hn hr hK; generalize a.eval = ρ at *; simp [execOp, e93, e94, hj0, hj1, go_sem]) rfl rfl hH hK
            refine StepAll.cons ?_ ?_
            · refine HoldStepB.val (by decide) fun a wx γ hn hr hres hpre Ss hH K hK => ?_
              have ec := evc a
              have e95 : a.eval (.tmp 95) = .pointer (some ⟨g, o + j * 3, none⟩) := hn 5 (by decide) 95 rfl
              exact hold_run (v := .pointer (some ⟨g, o + j * 3 + 2, none⟩)) (by clear hn hr hK; generalize a.eval = ρ at *; simp [execOp, ec, e95, go_sem]) rfl rfl hH hK
            refine StepAll.cons ?_ ?_
            · refine HoldStepB.val (by decide) fun a wx γ hn hr hres hpre Ss hH K hK => ?_
              have e96 : a.eval (.tmp 96) = .pointer (some ⟨g, o + j * 3 + 2, none⟩) := hn 6 (by decide) 96 rfl
              have c0 := (hH.below.cell (p := ⟨g, o + j * 3 + 2, none⟩) (World.block_lt_of_cell? W _ k2)).trans k2
              exact hold_run (v := .int .i64 y) (by clear hn hr hK; generalize a.eval = ρ at *; simp [execOp, e96, c0, go_sem]) rfl rfl hH hK
            refine StepAll.cons ?_ ?_
            · refine HoldStepB.fil 17 (by decide) fun a wx γ hn hr hres hpre Ss hH K hK => ?_
              have e90 : a.eval (.tmp 90) = .pointer (some ⟨b', 0, none⟩) := hn 0 (by decide) 90 rfl
              have e92 : a.eval (.tmp 92) = .agg #[.int .i64 u, .int .i64 v] := hn 2 (by decide) 92 rfl
              have e97 : a.eval (.tmp 97) = .int .i64 y := hn 7 (by decide) 97 rfl
              have ef : a.eval (.func 30) = .func (.func 30) #[] #[] := rfl
              refine hold_callB (b := 17) (f := 30) (args := #[.pointer (some ⟨b', 0, none⟩), .agg #[.int .i64 u, .int .i64 v], .int .i64 y]) (by clear hn hr hK hH; generalize a.eval = ρ at *; simp [execOp, e90, e92, e97, cf30, ef, go_sem]) ?_ hK
              refine (rto_calls u v y (by have := HY.out; omega) (by have := HY.out; omega) (by have := HV.out; omega) (by have := HV.out; omega) hH Q3.out).mono ?_
              rintro e w9 ⟨vv, rfl, h9⟩
              obtain ⟨a9, c9, rfl⟩ := h9.row_form
              exact ⟨(a9, c9), rfl, h9⟩
            refine StepAll.cons ?_ ?_
            · refine HoldStepB.val (by decide) fun a wx γ hn hr hres hpre Ss hH K hK => ?_
              have e98 : a.eval (.tmp 98) = .tuple #[.agg #[.int .i64 tk, .int .i64 te], .slice (γ 8).1 ks.length (γ 8).2, .int .i64 t2] := hn 8 (by decide) 98 rfl
              exact hold_run (v := .tuple #[.agg #[.int .i64 tk, .int .i64 te], .slice (γ 8).1 ks.length (γ 8).2, .int .i64 t2]) (by clear hn hr hK; generalize a.eval = ρ at *; simp [execOp, e98, go_sem]) rfl rfl hH hK
            refine StepAll.cons ?_ ?_
            · refine HoldStepB.val (by decide) fun a wx γ hn hr hres hpre Ss hH K hK => ?_
              have e89 : a.eval (.tmp 89) = .tuple #[.agg #[.int .i64 tk, .int .i64 te], .slice (γ 8).1 ks.length (γ 8).2, .int .i64 t2] := hn 9 (by decide) 89 rfl
              exact hold_run (v := .agg #[.int .i64 tk, .int .i64 te]) (by clear hn hr hK; generalize a.eval = ρ at *; simp [execOp, e89, go_sem]) rfl rfl hH hK
            refine StepAll.cons ?_ ?_
            · refine HoldStepB.val (by decide) fun a wx γ hn hr hres hpre Ss hH K hK => ?_
              have e89 : a.eval (.tmp 89) = .tuple #[.agg #[.int .i64 tk, .int .i64 te], .slice (γ 8).1 ks.length (γ 8).2, .int .i64 t2] := hn 9 (by decide) 89 rfl
              exact hold_run (v := .slice (γ 8).1 ks.length (γ 8).2) (by clear hn hr hK; generalize a.eval = ρ at *; simp [execOp, e89, go_sem]) rfl rfl hH hK
            refine StepAll.cons ?_ ?_
            · refine HoldStepB.val (by decide) fun a wx γ hn hr hres hpre Ss hH K hK => ?_
              have e89 : a.eval (.tmp 89) = .tuple #[.agg #[.int .i64 tk, .int .i64 te], .slice (γ 8).1 ks.length (γ 8).2, .int .i64 t2] := hn 9 (by decide) 89 rfl
              exact hold_run (v := .int .i64 t2) (by clear hn hr hK; generalize a.eval = ρ at *; simp [execOp, e89, go_sem]) rfl rfl hH hK
            refine StepAll.cons ?_ ?_
            · refine HoldStepB.val (by decide) fun a wx γ hn hr hres hpre Ss hH K hK => ?_
              exact hold_new (obj := .cells #[.int .i64 0, .int .i64 0] 57 (0, 0)) (v := .pointer (some ⟨wx.heap.size, 0, none⟩)) (by clear hn hr hK; generalize a.eval = ρ at *; simp [execOp, go_sem]) rfl rfl hH hK
            refine StepAll.cons ?_ ?_
            · refine HoldStepB.fil 13 (by decide) fun a wx γ hn hr hres hpre Ss hH K hK => ?_
              have e20 : a.eval (.tmp 20) = .pointer (some ⟨(γ 13).2, 0, none⟩) := hn 13 (by decide) 20 rfl
              have e99 : a.eval (.tmp 99) = .agg #[.int .i64 tk, .int .i64 te] := hn 10 (by decide) 99 rfl
              have hH2 : Hd W wx (Blk (γ 13).2 (.cells #[.int .i64 0, .int .i64 0] 57 (0, 0)) :: (Ss ++ (Blk p17 (.cells #[.int .i64 tk, .int .i64 te] 32 (0, 0)) :: RowR 3 1 (.slice a18 ks.length c18) ks.length (nums .i64 ks) :: Sto b L3 1000 :: Blk w7.heap.size (.cells #[.int .i64 dk, .int .i64 de] 57 (0, 0)) :: Blk w5.heap.size (.cells #[.int .i64 dk, .int .i64 de] 32 (0, 0)) :: Blk p8 (.cells #[.int .i64 u, .int .i64 v] 32 (0, 0)) :: []))) := hH
              have hk := hH2.blk
              have c0 := (cell_of_heap hk 0).trans (show _ = some (.int .i64 0) from rfl)
              have c1 := (cell_of_heap hk 1).trans (show _ = some (.int .i64 0) from rfl)
              have cf := frozen_of_heap hk
              clear hk hH
              exact hold_filB (w' := ((wx.setCell ⟨(γ 13).2, 0, none⟩ (.int .i64 tk)).setCell ⟨(γ 13).2, 1, none⟩ (.int .i64 te))) (by clear hn hr hK hH2; generalize a.eval = ρ at *; simp [execOp, e20, e99, c0, c1, cf, go_sem]) rfl rfl ((hH2.set 0 (.int .i64 tk)).set 1 (.int .i64 te)) hK
            refine StepAll.cons ?_ ?_
            · refine HoldStepB.val (by decide) fun a wx γ hn hr hres hpre Ss hH K hK => ?_
              have e100 : a.eval (.tmp 100) = .slice (γ 8).1 ks.length (γ 8).2 := hn 11 (by decide) 100 rfl
              exact hold_run (v := .slice (γ 8).1 ks.length (γ 8).2) (by clear hn hr hK; generalize a.eval = ρ at *; simp [execOp, e100, go_sem]) rfl rfl hH hK
            refine StepAll.cons ?_ ?_
            · refine HoldStepB.val (by decide) fun a wx γ hn hr hres hpre Ss hH K hK => ?_
              have e101 : a.eval (.tmp 101) = .int .i64 t2 := hn 12 (by decide) 101 rfl
              exact hold_run (v := .int .i64 t2) (by clear hn hr hK; generalize a.eval = ρ at *; simp [execOp, e101, go_sem]) rfl rfl hH hK
            exact trivial
          case done13 =>
            intro f w9 g9 hv h9
            have er20 : f 20 = .pointer (some ⟨(g9 13).2, 0, none⟩) := hv 13 20 rfl
            have er21 : f 21 = .slice (g9 8).1 ks.length (g9 8).2 := hv 15 21 rfl
            have er22 : f 22 = .int .i64 t2 := hv 16 22 rfl
            have hd : Hd W w9 (Blk (g9 13).2 (.cells #[.int .i64 tk, .int .i64 te] 57 (0, 0)) :: RowR 3 1 (.slice (g9 8).1 ks.length (g9 8).2) ks.length (nums .i64 ks) :: RSto b' L3 1000 :: Blk p17 (.cells #[.int .i64 tk, .int .i64 te] 32 (0, 0)) :: RowR 3 1 (.slice a18 ks.length c18) ks.length (nums .i64 ks) :: Sto b L3 1000 :: Blk w7.heap.size (.cells #[.int .i64 dk, .int .i64 de] 57 (0, 0)) :: Blk w5.heap.size (.cells #[.int .i64 dk, .int .i64 de] 32 (0, 0)) :: Blk p8 (.cells #[.int .i64 u, .int .i64 v] 32 (0, 0)) :: []) := h9
            obtain ⟨⟨a21, c21⟩, hG8⟩ : ∃ x, g9 8 = x := ⟨_, rfl⟩
            obtain ⟨⟨_, p20⟩, hG13⟩ : ∃ x, g9 13 = x := ⟨_, rfl⟩
            simp only [hG8, hG13] at hd er20 er21 er22
            clear hv h9 hG8 hG13 cf28 cf30
            clear g9
            simp only [patchG, Nat.reduceAdd, Nat.reduceLeDiff, decide_true, decide_false, Bool.and_true, Bool.and_false, Bool.or_true, Bool.or_false, cond_true, cond_false, er20, er21, er22]
            clear er20 er21 er22
            clear H
            have H := hid hd
            clear hd k0 k1 k2 Q3
            have eqn1 := neqf_RCh dk de
            have eqn2 := neqf_RCh tk te
            go_wp2_with fail
            have cf28 : ∀ args w, (callFunc 28 args).run Try.prog w = .ok (.enter 28 args) w := fun args w => by kernel_rfl
            have cf31 : ∀ args w, (callFunc 31 args).run Try.prog w = .ok (.enter 31 args) w := fun args w => by kernel_rfl
            refine hold_coreB (P := Try.prog) (W := W) (Rs := (Blk p20 (.cells #[.int .i64 tk, .int .i64 te] 57 (0, 0)) :: RowR 3 1 (.slice a21 ks.length c21) ks.length (nums .i64 ks) :: RSto b' L3 1000 :: Blk p17 (.cells #[.int .i64 tk, .int .i64 te] 32 (0, 0)) :: RowR 3 1 (.slice a18 ks.length c18) ks.length (nums .i64 ks) :: Sto b L3 1000 :: Blk w7.heap.size (.cells #[.int .i64 dk, .int .i64 de] 57 (0, 0)) :: Blk w5.heap.size (.cells #[.int .i64 dk, .int .i64 de] 32 (0, 0)) :: Blk p8 (.cells #[.int .i64 u, .int .i64 v] 32 (0, 0)) :: [])) [[], [], [0, 1], [2], [3], [3], [3, 4, 5], [3, 6], [7], [8], [8, 9], [8], [8, 10, 11], [8, 12], [13], [14], [14], [14, 15, 16], [14, 17], [18], [19], [19, 20], [19], [19, 21, 22], [19, 23], [24], [25], [25], [25, 26, 27], [25, 28], [25, 29], [30], [31], [31], [31, 32, 33], [31, 34]] [[], [], [], [], [], [], [], [], [], [], [], [], [], [], [], [], [], [], [], [], [], [], [], [], [], [], [], [], [], [], [], [], [], [], [], []] ([some 102, some 103, some 104, some 105, some 106, some 107, some 108, some 109, some 110, some 111, some 112, some 113, some 114, some 115, some 116, some 117, some 118, some 119, some 120, some 121, some 122, some 123, some 124, some 125, some 126, some 127, some 128, some 129, some 130, some 131, some 132, some 133, some 134, some 135, some 136, some 137] : List (Option Nat)) ([none, none, none, none, none, none, none, none, none, none, none, none, none, none, none, none, none, none, none, none, none, none, none, none, none, none, none, none, none, none, none, none, none, none, none, none] : List (Option Nat)) ((fun _ => .int .i64 r1) :: (fun _ => .int .i64 r1) :: (fun _ => .bool false) :: (fun _ => .bool false) :: (fun _ => .int .i64 r2) :: (fun _ => .int .i64 r2) :: (fun _ => .bool false) :: (fun _ => .bool false) :: (fun _ => .bool false) :: (fun _ => .agg #[.int .i64 dk, .int .i64 de]) :: (fun _ => .agg #[.int .i64 dk, .int .i64 de]) :: (fun _ => .agg #[.int .i64 dk, .int .i64 de]) :: (fun _ => .bool false) :: (fun _ => .bool false) :: (fun _ => .bool false) :: (fun _ => .int .i64 n2) :: (fun _ => .int .i64 n2) :: (fun _ => .bool false) :: (fun _ => .bool false) :: (fun _ => .bool false) :: (fun _ => .agg #[.int .i64 tk, .int .i64 te]) :: (fun _ => .agg #[.int .i64 tk, .int .i64 te]) :: (fun _ => .agg #[.int .i64 tk, .int .i64 te]) :: (fun _ => .bool false) :: (fun _ => .bool false) :: (fun _ => .bool false) :: (fun _ => .slice a18 ks.length c18) :: (fun _ => .slice a21 ks.length c21) :: (fun _ => .bool true) :: (fun _ => .bool false) :: (fun _ => .bool false) :: (fun _ => .bool false) :: (fun _ => .int .i64 t2) :: (fun _ => .int .i64 t2) :: (fun _ => .bool false) :: (fun _ => .bool false) :: []) ((fun _ => []) :: (fun _ => []) :: (fun _ => []) :: (fun _ => []) :: (fun _ => []) :: (fun _ => []) :: (fun _ => []) :: (fun _ => []) :: (fun _ => []) :: (fun _ => []) :: (fun _ => []) :: (fun _ => []) :: (fun _ => []) :: (fun _ => []) :: (fun _ => []) :: (fun _ => []) :: (fun _ => []) :: (fun _ => []) :: (fun _ => []) :: (fun _ => []) :: (fun _ => []) :: (fun _ => []) :: (fun _ => []) :: (fun _ => []) :: (fun _ => []) :: (fun _ => []) :: (fun _ => []) :: (fun _ => []) :: (fun _ => []) :: (fun _ => []) :: (fun _ => []) :: (fun _ => []) :: (fun _ => []) :: (fun _ => []) :: (fun _ => []) :: (fun _ => []) :: ([] : List (List Gh → List Res))) ((fun _ => []) :: (fun _ => []) :: (fun _ => []) :: (fun _ => []) :: (fun _ => []) :: (fun _ => []) :: (fun _ => []) :: (fun _ => []) :: (fun _ => []) :: (fun _ => []) :: (fun _ => []) :: (fun _ => []) :: (fun _ => []) :: (fun _ => []) :: (fun _ => []) :: (fun _ => []) :: (fun _ => []) :: (fun _ => []) :: (fun _ => []) :: (fun _ => []) :: (fun _ => []) :: (fun _ => []) :: (fun _ => []) :: (fun _ => []) :: (fun _ => []) :: (fun _ => []) :: (fun _ => []) :: (fun _ => []) :: (fun _ => []) :: (fun _ => []) :: (fun _ => []) :: (fun _ => []) :: (fun _ => []) :: (fun _ => []) :: (fun _ => []) :: (fun _ => []) :: ([] : List (List Gh → List Res))) (by kernel_rfl) rfl (hold_lt (n := 145) (by decide)) H.out rfl (by decide) (hold_nil (fs := []) trivial rfl ?nil14) ?gd14 ?step14 (fun t => (decide (102 ≤ t) && decide (t ≤ 137))) (by decide) ?done14 (fun I h0 st dn => run_wpB mixed I h0 st dn)
            case nil14 =>
              intro s gs hs
              cases hs
            case gd14 =>
              repeat (refine StepAll.cons (by first | exact trivial | exact fun g => rfl) ?_)
              exact trivial
            case step14 =>
              refine StepAll.cons ?_ ?_
              · refine HoldStepB.val (by decide) fun a wx γ hn hr hres hpre Ss hH K hK => ?_
                have e9 : a.eval (.tmp 9) = .int .i64 r1 := (hr 9 (by decide)).trans rfl
                exact hold_run (v := .int .i64 r1) (by clear hn hr hK; generalize a.eval = ρ at *; simp [execOp, e9, go_sem]) rfl rfl hH hK
              refine StepAll.cons ?_ ?_
              · refine HoldStepB.val (by decide) fun a wx γ hn hr hres hpre Ss hH K hK => ?_
                have e11 : a.eval (.tmp 11) = .int .i64 r1 := (hr 11 (by decide)).trans rfl
                exact hold_run (v := .int .i64 r1) (by clear hn hr hK; generalize a.eval = ρ at *; simp [execOp, e11, go_sem]) rfl rfl hH hK
              refine StepAll.cons ?_ ?_
              · refine HoldStepB.val (by decide) fun a wx γ hn hr hres hpre Ss hH K hK => ?_
                have e102 : a.eval (.tmp 102) = .int .i64 r1 := hn 0 (by decide) 102 rfl
                have e103 : a.eval (.tmp 103) = .int .i64 r1 := hn 1 (by decide) 103 rfl
                exact hold_run (v := .bool false) (by clear hn hr hK; generalize a.eval = ρ at *; simp [execOp, e102, e103, go_sem]) rfl rfl hH hK
              refine StepAll.cons ?_ ?_
              · refine HoldStepB.val (by decide) fun a wx γ hn hr hres hpre Ss hH K hK => ?_
                have e104 : a.eval (.tmp 104) = .bool false := hn 2 (by decide) 104 rfl
                exact hold_run (v := .bool false) (by clear hn hr hK; generalize a.eval = ρ at *; simp [execOp, e104, go_sem]) rfl rfl hH hK
              refine StepAll.cons ?_ ?_
              · refine HoldStepB.val (by decide) fun a wx γ hn hr hres hpre Ss hH K hK => ?_
                have e10 : a.eval (.tmp 10) = .int .i64 r2 := (hr 10 (by decide)).trans rfl
                exact hold_run (v := .int .i64 r2) (by clear hn hr hK; generalize a.eval = ρ at *; simp [execOp, e10, go_sem]) rfl rfl hH hK
              refine StepAll.cons ?_ ?_
              · refine HoldStepB.val (by decide) fun a wx γ hn hr hres hpre Ss hH K hK => ?_
                have e12 : a.eval (.tmp 12) = .int .i64 r2 := (hr 12 (by decide)).trans rfl
                exact hold_run (v := .int .i64 r2) (by clear hn hr hK; generalize a.eval = ρ at *; simp [execOp, e12, go_sem]) rfl rfl hH hK
              refine StepAll.cons ?_ ?_
              · refine HoldStepB.val (by decide) fun a wx γ hn hr hres hpre Ss hH K hK => ?_
                have e106 : a.eval (.tmp 106) = .int .i64 r2 := hn 4 (by decide) 106 rfl
                have e107 : a.eval (.tmp 107) = .int .i64 r2 := hn 5 (by decide) 107 rfl
                exact hold_run (v := .bool false) (by clear hn hr hK; generalize a.eval = ρ at *; simp [execOp, e106, e107, go_sem]) rfl rfl hH hK
              refine StepAll.cons ?_ ?_
              · refine HoldStepB.val (by decide) fun a wx γ hn hr hres hpre Ss hH K hK => ?_
                have e105 : a.eval (.tmp 105) = .bool false := hn 3 (by decide) 105 rfl
                have e108 : a.eval (.tmp 108) = .bool false := hn 6 (by decide) 108 rfl
                exact hold_run (v := .bool false) (by clear hn hr hK; generalize a.eval = ρ at *; simp [execOp, e105, e108, go_sem]) rfl rfl hH hK
              refine StepAll.cons ?_ ?_
              · refine HoldStepB.val (by decide) fun a wx γ hn hr hres hpre Ss hH K hK => ?_
                have e109 : a.eval (.tmp 109) = .bool false := hn 7 (by decide) 109 rfl
                exact hold_run (v := .bool false) (by clear hn hr hK; generalize a.eval = ρ at *; simp [execOp, e109, go_sem]) rfl rfl hH hK
              refine StepAll.cons ?_ ?_
              · refine HoldStepB.val (by decide) fun a wx γ hn hr hres hpre Ss hH K hK => ?_
                have e13 : a.eval (.tmp 13) = .pointer (some ⟨w5.heap.size, 0, none⟩) := (hr 13 (by decide)).trans rfl
                have hk := Hd.nthk 7 hH.rear rfl
                have c0 := (cell_of_heap hk 0).trans (show _ = some (.int .i64 dk) from rfl)
                have c1 := (cell_of_heap hk 1).trans (show _ = some (.int .i64 de) from rfl)
                clear hk
                exact hold_run (v := .agg #[.int .i64 dk, .int .i64 de]) (by clear hn hr hK; generalize a.eval = ρ at *; simp [execOp, e13, c0, c1, go_sem]) rfl rfl hH hK
              refine StepAll.cons ?_ ?_
              · refine HoldStepB.val (by decide) fun a wx γ hn hr hres hpre Ss hH K hK => ?_
                have e111 : a.eval (.tmp 111) = .agg #[.int .i64 dk, .int .i64 de] := hn 9 (by decide) 111 rfl
                have ef : a.eval (.func 28) = .func (.func 28) #[] #[] := rfl
                refine hold_call (f := 28) (args := #[.agg #[.int .i64 dk, .int .i64 de]]) (by clear hn hr hK hH; generalize a.eval = ρ at *; simp [execOp, e111, cf28, ef, go_sem]) ?_ hH hK
                exact (ref15_calls dk de _).mono fun e w2 h => ⟨default, h.1, fun Xs hX => hX.still h.2⟩
              refine StepAll.cons ?_ ?_
              · refine HoldStepB.val (by decide) fun a wx γ hn hr hres hpre Ss hH K hK => ?_
                have e15 : a.eval (.tmp 15) = .pointer (some ⟨w7.heap.size, 0, none⟩) := (hr 15 (by decide)).trans rfl
                have hk := Hd.nthk 6 hH.rear rfl
                have c0 := (cell_of_heap hk 0).trans (show _ = some (.int .i64 dk) from rfl)
                have c1 := (cell_of_heap hk 1).trans (show _ = some (.int .i64 de) from rfl)
                clear hk
                exact hold_run (v := .agg #[.int .i64 dk, .int .i64 de]) (by clear hn hr hK; generalize a.eval = ρ at *; simp [execOp, e15, c0, c1, go_sem]) rfl rfl hH hK
              refine StepAll.cons ?_ ?_
              · refine HoldStepB.val (by decide) fun a wx γ hn hr hres hpre Ss hH K hK => ?_
                have e112 : a.eval (.tmp 112) = .agg #[.int .i64 dk, .int .i64 de] := hn 10 (by decide) 112 rfl
                have e113 : a.eval (.tmp 113) = .agg #[.int .i64 dk, .int .i64 de] := hn 11 (by decide) 113 rfl
                exact hold_run (v := .bool false) (by clear hn hr hK; generalize a.eval = ρ at *; simp [execOp, e112, e113, eqn1, go_sem]) rfl rfl hH hK
              refine StepAll.cons ?_ ?_
              · refine HoldStepB.val (by decide) fun a wx γ hn hr hres hpre Ss hH K hK => ?_
                have e110 : a.eval (.tmp 110) = .bool false := hn 8 (by decide) 110 rfl
                have e114 : a.eval (.tmp 114) = .bool false := hn 12 (by decide) 114 rfl
                exact hold_run (v := .bool false) (by clear hn hr hK; generalize a.eval = ρ at *; simp [execOp, e110, e114, go_sem]) rfl rfl hH hK
              refine StepAll.cons ?_ ?_
              · refine HoldStepB.val (by decide) fun a wx γ hn hr hres hpre Ss hH K hK => ?_
                have e115 : a.eval (.tmp 115) = .bool false := hn 13 (by decide) 115 rfl
                exact hold_run (v := .bool false) (by clear hn hr hK; generalize a.eval = ρ at *; simp [execOp, e115, go_sem]) rfl rfl hH hK
              refine StepAll.cons ?_ ?_
              · refine HoldStepB.val (by decide) fun a wx γ hn hr hres hpre Ss hH K hK => ?_
                have e14 : a.eval (.tmp 14) = .int .i64 n2 := (hr 14 (by decide)).trans rfl
                exact hold_run (v := .int .i64 n2) (by clear hn hr hK; generalize a.eval = ρ at *; simp [execOp, e14, go_sem]) rfl rfl hH hK
              refine StepAll.cons ?_ ?_
              · refine HoldStepB.val (by decide) fun a wx γ hn hr hres hpre Ss hH K hK => ?_
                have e16 : a.eval (.tmp 16) = .int .i64 n2 := (hr 16 (by decide)).trans rfl
                exact hold_run (v := .int .i64 n2) (by clear hn hr hK; generalize a.eval = ρ at *; simp [execOp, e16, go_sem]) rfl rfl hH hK
              refine StepAll.cons ?_ ?_
              · refine HoldStepB.val (by decide) fun a wx γ hn hr hres hpre Ss hH K hK => ?_
                have e117 : a.eval (.tmp 117) = .int .i64 n2 := hn 15 (by decide) 117 rfl
                have e118 : a.eval (.tmp 118) = .int .i64 n2 := hn 16 (by decide) 118 rfl
                exact hold_run (v := .bool false) (by clear hn hr hK; generalize a.eval = ρ at *; simp [execOp, e117, e118, go_sem]) rfl rfl hH hK
              refine StepAll.cons ?_ ?_
              · refine HoldStepB.val (by decide) fun a wx γ hn hr hres hpre Ss hH K hK => ?_
                have e116 : a.eval (.tmp 116) = .bool false := hn 14 (by decide) 116 rfl
                have e119 : a.eval (.tmp 119) = .bool false := hn 17 (by decide) 119 rfl
                exact hold_run (v := .bool false) (by clear hn hr hK; generalize a.eval = ρ at *; simp [execOp, e116, e119, go_sem]) rfl rfl hH hK
              refine StepAll.cons ?_ ?_
              · refine HoldStepB.val (by decide) fun a wx γ hn hr hres hpre Ss hH K hK => ?_
                have e120 : a.eval (.tmp 120) = .bool false := hn 18 (by decide) 120 rfl
                exact hold_run (v := .bool false) (by clear hn hr hK; generalize a.eval = ρ at *; simp [execOp, e120, go_sem]) rfl rfl hH hK
              refine StepAll.cons ?_ ?_
              · refine HoldStepB.val (by decide) fun a wx γ hn hr hres hpre Ss hH K hK => ?_
                have e17 : a.eval (.tmp 17) = .pointer (some ⟨p17, 0, none⟩) := (hr 17 (by decide)).trans rfl
                have hk := Hd.nthk 3 hH.rear rfl
                have c0 := (cell_of_heap hk 0).trans (show _ = some (.int .i64 tk) from rfl)
                have c1 := (cell_of_heap hk 1).trans (show _ = some (.int .i64 te) from rfl)
                clear hk
                exact hold_run (v := .agg #[.int .i64 tk, .int .i64 te]) (by clear hn hr hK; generalize a.eval = ρ at *; simp [execOp, e17, c0, c1, go_sem]) rfl rfl hH hK
              refine StepAll.cons ?_ ?_
              · refine HoldStepB.val (by decide) fun a wx γ hn hr hres hpre Ss hH K hK => ?_
                have e122 : a.eval (.tmp 122) = .agg #[.int .i64 tk, .int .i64 te] := hn 20 (by decide) 122 rfl
                have ef : a.eval (.func 28) = .func (.func 28) #[] #[] := rfl
                refine hold_call (f := 28) (args := #[.agg #[.int .i64 tk, .int .i64 te]]) (by clear hn hr hK hH; generalize a.eval = ρ at *; simp [execOp, e122, cf28, ef, go_sem]) ?_ hH hK
                exact (ref15_calls tk te _).mono fun e w2 h => ⟨default, h.1, fun Xs hX => hX.still h.2⟩
              refine StepAll.cons ?_ ?_
              · refine HoldStepB.val (by decide) fun a wx γ hn hr hres hpre Ss hH K hK => ?_
                have e20 : a.eval (.tmp 20) = .pointer (some ⟨p20, 0, none⟩) := (hr 20 (by decide)).trans rfl
                have hk := Hd.nthk 0 hH.rear rfl
                have c0 := (cell_of_heap hk 0).trans (show _ = some (.int .i64 tk) from rfl)
                have c1 := (cell_of_heap hk 1).trans (show _ = some (.int .i64 te) from rfl)
                clear hk
                exact hold_run (v := .agg #[.int .i64 tk, .int .i64 te]) (by clear hn hr hK; generalize a.eval = ρ at *; simp [execOp, e20, c0, c1, go_sem]) rfl rfl hH hK
              refine StepAll.cons ?_ ?_
              · refine HoldStepB.val (by decide) fun a wx γ hn hr hres hpre Ss hH K hK => ?_
                have e123 : a.eval (.tmp 123) = .agg #[.int .i64 tk, .int .i64 te] := hn 21 (by decide) 123 rfl
                have e124 : a.eval (.tmp 124) = .agg #[.int .i64 tk, .int .i64 te] := hn 22 (by decide) 124 rfl
                exact hold_run (v := .bool false) (by clear hn hr hK; generalize a.eval = ρ at *; simp [execOp, e123, e124, eqn2, go_sem]) rfl rfl hH hK
              refine StepAll.cons ?_ ?_
              · refine HoldStepB.val (by decide) fun a wx γ hn hr hres hpre Ss hH K hK => ?_
                have e121 : a.eval (.tmp 121) = .bool false := hn 19 (by decide) 121 rfl
                have e125 : a.eval (.tmp 125) = .bool false := hn 23 (by decide) 125 rfl
                exact hold_run (v := .bool false) (by clear hn hr hK; generalize a.eval = ρ at *; simp [execOp, e121, e125, go_sem]) rfl rfl hH hK
              refine StepAll.cons ?_ ?_
              · refine HoldStepB.val (by decide) fun a wx γ hn hr hres hpre Ss hH K hK => ?_
                have e126 : a.eval (.tmp 126) = .bool false := hn 24 (by decide) 126 rfl
                exact hold_run (v := .bool false) (by clear hn hr hK; generalize a.eval = ρ at *; simp [execOp, e126, go_sem]) rfl rfl hH hK
              refine StepAll.cons ?_ ?_
              · refine HoldStepB.val (by decide) fun a wx γ hn hr hres hpre Ss hH K hK => ?_
                have e18 : a.eval (.tmp 18) = .slice a18 ks.length c18 := (hr 18 (by decide)).trans rfl
                exact hold_run (v := .slice a18 ks.length c18) (by clear hn hr hK; generalize a.eval = ρ at *; simp [execOp, e18, go_sem]) rfl rfl hH hK
              refine StepAll.cons ?_ ?_
              · refine HoldStepB.val (by decide) fun a wx γ hn hr hres hpre Ss hH K hK => ?_
                have e21 : a.eval (.tmp 21) = .slice a21 ks.length c21 := (hr 21 (by decide)).trans rfl
                exact hold_run (v := .slice a21 ks.length c21) (by clear hn hr hK; generalize a.eval = ρ at *; simp [execOp, e21, go_sem]) rfl rfl hH hK
              refine StepAll.cons ?_ ?_
              · refine HoldStepB.val (by decide) fun a wx γ hn hr hres hpre Ss hH K hK => ?_
                have e128 : a.eval (.tmp 128) = .slice a18 ks.length c18 := hn 26 (by decide) 128 rfl
                have e129 : a.eval (.tmp 129) = .slice a21 ks.length c21 := hn 27 (by decide) 129 rfl
                have ef : a.eval (.func 31) = .func (.func 31) #[] #[] := rfl
                refine hold_call (f := 31) (args := #[.slice a18 ks.length c18, .slice a21 ks.length c21]) (by clear hn hr hK hH; generalize a.eval = ρ at *; simp [execOp, e128, e129, cf31, ef, go_sem]) ?_ hH hK
                obtain ⟨aa, ca, ea, ia⟩ := row_ints (ks := ks) (hH.rear.front 1 rfl)
                simp only [Value.slice.injEq, true_and] at ea
                obtain ⟨rfl, rfl⟩ := ea
                obtain ⟨ab, cb, eb, ib⟩ := row_ints (ks := ks) (hH.rear.front 4 rfl)
                simp only [Value.slice.injEq, true_and] at eb
                obtain ⟨rfl, rfl⟩ := eb
                exact (same_calls ib ia rfl rfl HKS.out HKS.out).mono fun e w2 h => ⟨default, h.1.trans (by rw [decide_eq_true rfl]; rfl), fun Xs hX => hX.still h.2⟩
              refine StepAll.cons ?_ ?_
              · refine HoldStepB.val (by decide) fun a wx γ hn hr hres hpre Ss hH K hK => ?_
                have e130 : a.eval (.tmp 130) = .bool true := hn 28 (by decide) 130 rfl
                exact hold_run (v := .bool false) (by clear hn hr hK; generalize a.eval = ρ at *; simp [execOp, e130, go_sem]) rfl rfl hH hK
              refine StepAll.cons ?_ ?_
              · refine HoldStepB.val (by decide) fun a wx γ hn hr hres hpre Ss hH K hK => ?_
                have e127 : a.eval (.tmp 127) = .bool false := hn 25 (by decide) 127 rfl
                have e131 : a.eval (.tmp 131) = .bool false := hn 29 (by decide) 131 rfl
                exact hold_run (v := .bool false) (by clear hn hr hK; generalize a.eval = ρ at *; simp [execOp, e127, e131, go_sem]) rfl rfl hH hK
              refine StepAll.cons ?_ ?_
              · refine HoldStepB.val (by decide) fun a wx γ hn hr hres hpre Ss hH K hK => ?_
                have e132 : a.eval (.tmp 132) = .bool false := hn 30 (by decide) 132 rfl
                exact hold_run (v := .bool false) (by clear hn hr hK; generalize a.eval = ρ at *; simp [execOp, e132, go_sem]) rfl rfl hH hK
              refine StepAll.cons ?_ ?_
              · refine HoldStepB.val (by decide) fun a wx γ hn hr hres hpre Ss hH K hK => ?_
                have e19 : a.eval (.tmp 19) = .int .i64 t2 := (hr 19 (by decide)).trans rfl
                exact hold_run (v := .int .i64 t2) (by clear hn hr hK; generalize a.eval = ρ at *; simp [execOp, e19, go_sem]) rfl rfl hH hK
              refine StepAll.cons ?_ ?_
              · refine HoldStepB.val (by decide) fun a wx γ hn hr hres hpre Ss hH K hK => ?_
                have e22 : a.eval (.tmp 22) = .int .i64 t2 := (hr 22 (by decide)).trans rfl
                exact hold_run (v := .int .i64 t2) (by clear hn hr hK; generalize a.eval = ρ at *; simp [execOp, e22, go_sem]) rfl rfl hH hK
              refine StepAll.cons ?_ ?_
              · refine HoldStepB.val (by decide) fun a wx γ hn hr hres hpre Ss hH K hK => ?_
                have e134 : a.eval (.tmp 134) = .int .i64 t2 := hn 32 (by decide) 134 rfl
                have e135 : a.eval (.tmp 135) = .int .i64 t2 := hn 33 (by decide) 135 rfl
                exact hold_run (v := .bool false) (by clear hn hr hK; generalize a.eval = ρ at *; simp [execOp, e134, e135, go_sem]) rfl rfl hH hK
              refine StepAll.cons ?_ ?_
              · refine HoldStepB.val (by decide) fun a wx γ hn hr hres hpre Ss hH K hK => ?_
                have e133 : a.eval (.tmp 133) = .bool false := hn 31 (by decide) 133 rfl
                have e136 : a.eval (.tmp 136) = .bool false := hn 34 (by decide) 136 rfl
                exact hold_run (v := .bool false) (by clear hn hr hK; generalize a.eval = ρ at *; simp [execOp, e133, e136, go_sem]) rfl rfl hH hK
              exact trivial
            case done14 =>
              intro f w9 g9 hv h9
              have er137 : f 137 = .bool false := hv 35 137 rfl
              have hd : Hd W w9 (Blk p20 (.cells #[.int .i64 tk, .int .i64 te] 57 (0, 0)) :: RowR 3 1 (.slice a21 ks.length c21) ks.length (nums .i64 ks) :: RSto b' L3 1000 :: Blk p17 (.cells #[.int .i64 tk, .int .i64 te] 32 (0, 0)) :: RowR 3 1 (.slice a18 ks.length c18) ks.length (nums .i64 ks) :: Sto b L3 1000 :: Blk w7.heap.size (.cells #[.int .i64 dk, .int .i64 de] 57 (0, 0)) :: Blk w5.heap.size (.cells #[.int .i64 dk, .int .i64 de] 32 (0, 0)) :: Blk p8 (.cells #[.int .i64 u, .int .i64 v] 32 (0, 0)) :: []) := h9
              clear hv h9 cf28 cf31
              clear g9
              simp only [patchG, Nat.reduceAdd, Nat.reduceLeDiff, decide_true, decide_false, Bool.and_true, Bool.and_false, cond_true, cond_false, er137]
              clear er137
              clear H
              have H := hid (((((((((hd.front 8 rfl).front 8 rfl).front 8 rfl).front 7 rfl).front 7 rfl).front 6 rfl).front 6 rfl).front 7 rfl).front 8 rfl)
              clear hd eqn1 eqn2
              go_wp2_with fail
              go_roundw
              case rel => exact ⟨j + 1, (by have := HLT.out; omega), by go_num, L3, hid (H.out.dropEnd (Rs := [_, _]))⟩
              case measure => have := HLT.out; simp [intOf]; omega
    · have hex : decide (j < len2) = false ∨ (decide (j < len2) = true ∧ decide ((j : Int) < 20) = false) := by
        by_cases h : j < len2
        · right; exact ⟨by simpa using h, by simp; omega⟩
        · left; simpa using h
      clear hlt
      rcases hex with hd1 | ⟨hd1, hd2⟩
      all_goals
        go_wp2_with fail
        refine (same2_calls H.out).mono ?_
        rintro e w2 ⟨rfl, h1⟩
        replace H := hid (H.out.still h1)
        clear h1
        go_wp2_with fail
        refine (fixed15_calls H.out).mono ?_
        rintro e w9 ⟨rfl, h1⟩
        clear H
        have H := hid h1
        clear h1
        go_wp2_with fail
        go_ret
        exact ⟨rfl, H.out.below⟩
end Go.Proofs.Ytpcfmafokkffgaa
