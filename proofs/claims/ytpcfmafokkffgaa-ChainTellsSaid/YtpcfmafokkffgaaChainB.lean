/-
  What a chain tells of a later epoch, plainly; the closure that hands the steps on. For every store and every chain.
-/
import Derived.Test.YtpcfmafokkffgaaChainA
import Derived.RangeFuncNested
import Derived.RangeFuncBound
import Derived.RangeFuncCalls
import Derived.RangeFuncLeaves
import Derived.Shelf.Abstract
import Derived.Shelf.RegionOpen
import Derived.OwnWalkIn
import Derived.TacticsInMore
import Derived.LoopNIn
import Derived.LoopIn
namespace Go.Proofs.Ytpcfmafokkffgaa
open Go.RowKit Go.Shelf
attribute [local go_sem] Oper.semAt_some

/-- So many steps: the keys, the chain, what is wrong, the store. -/
def steps15 (m : Int) : Nat → List T → Int → Int → List Int × (Int × Int) × Int × List T
  | 0, L, k, e => ([], (k, e), 0, L)
  | n + 1, L, k, e =>
    if (put m L (keyT k 1)).2.1 = 0 then
      if (next15 m (put m L (keyT k 1)).2.2 k e).2.1 = 0 then
        let r := steps15 m n (next15 m (put m L (keyT k 1)).2.2 k e).2.2 (next15 m (put m L (keyT k 1)).2.2 k e).1.1 (next15 m (put m L (keyT k 1)).2.2 k e).1.2
        ((put m L (keyT k 1)).1 :: r.1, r.2)
      else ([], (k, e), (next15 m (put m L (keyT k 1)).2.2 k e).2.1, (next15 m (put m L (keyT k 1)).2.2 k e).2.2)
    else ([], (k, e), (put m L (keyT k 1)).2.1, (put m L (keyT k 1)).2.2)
theorem steps15_succ (m : Int) (n : Nat) (L : List T) (k e : Int) : steps15 m (n + 1) L k e =
    if (put m L (keyT k 1)).2.1 = 0 then
      if (next15 m (put m L (keyT k 1)).2.2 k e).2.1 = 0 then
        ((put m L (keyT k 1)).1 :: (steps15 m n (next15 m (put m L (keyT k 1)).2.2 k e).2.2 (next15 m (put m L (keyT k 1)).2.2 k e).1.1 (next15 m (put m L (keyT k 1)).2.2 k e).1.2).1, (steps15 m n (next15 m (put m L (keyT k 1)).2.2 k e).2.2 (next15 m (put m L (keyT k 1)).2.2 k e).1.1 (next15 m (put m L (keyT k 1)).2.2 k e).1.2).2)
      else ([], (k, e), (next15 m (put m L (keyT k 1)).2.2 k e).2.1, (next15 m (put m L (keyT k 1)).2.2 k e).2.2)
    else ([], (k, e), (put m L (keyT k 1)).2.1, (put m L (keyT k 1)).2.2) := rfl
/-- The chain of another epoch. -/
def to15 (m : Int) (L : List T) (k e x : Int) : (Int × Int) × List Int × Int × List T :=
  if x < e then ((0, 0), [], 12, L)
  else if 4 < x - e then ((0, 0), [], 13, L)
  else if (steps15 m (x - e).toNat L k e).2.2.1 = 0 then ((steps15 m (x - e).toNat L k e).2.1, (steps15 m (x - e).toNat L k e).1, 0, (steps15 m (x - e).toNat L k e).2.2.2)
  else ((0, 0), [], (steps15 m (x - e).toNat L k e).2.2.1, (steps15 m (x - e).toNat L k e).2.2.2)

theorem next15_epoch {m : Int} {L L2 : List T} {k e dk de : Int} (h : next15 m L k e = ((dk, de), 0, L2)) : de = e + 1 ∧ 0 ≤ e ∧ e < 1000 := by
  unfold next15 at h
  split at h
  · simp at h
  · split at h
    · simp only [Prod.mk.injEq] at h
      exact ⟨h.1.2.symm, by omega, by omega⟩
    · rename_i h2
      simp only [Prod.mk.injEq] at h
      exact absurd h.2.1 h2

section
variable {W w : World} {Rs : List Res}
set_option maxRecDepth 100000 in
set_option maxHeartbeats 1000000 in
theorem steps_calls (k e n : Int) (b : Nat) (h : Hd W w Rs) :
    Calls Try.prog 55 #[.agg #[.int .i64 k, .int .i64 e], .pointer (some ⟨b, 0, none⟩), .int .i64 n] w fun e' w' => ∃ c, e' = .returned (.func (.func 79) #[] #[.pointer (some ⟨c + 2, 0, none⟩), .pointer (some ⟨c, 0, none⟩), .pointer (some ⟨c + 1, 0, none⟩)]) ∧
      Hd W w' (Blk (c + 2) (.cells #[.int .i64 n] 3 (0, 0)) :: Blk (c + 1) (.cells #[.pointer (some ⟨b, 0, none⟩)] 25 (0, 0)) :: Blk c (.cells #[.int .i64 k, .int .i64 e] 32 (0, 0)) :: Rs) := by
  have H := hid (((h.boxk (o := .cells #[.int .i64 k, .int .i64 e] 32 (0, 0)) w.heap.size rfl).boxk (o := .cells #[.pointer (some ⟨b, 0, none⟩)] 25 (0, 0)) (w.heap.size + 1) (by simp)).boxk (o := .cells #[.int .i64 n] 3 (0, 0)) (w.heap.size + 2) (by simp))
  clear h
  go_enter Try.func55, Try.ntmps55
  go_wp2_with fail
  go_ret
  exact ⟨w.heap.size, rfl, H.out⟩
end

theorem swap_mid {A B C : List Res} : (A ++ (B ++ C)).Perm (B ++ (A ++ C)) := by
  rw [← List.append_assoc, ← List.append_assoc]
  exact List.perm_append_comm.append_right _
theorem Hd.dropTail4 {W w : World} {S A B C : Res} {Rs : List Res} (h : Hd W w (S :: A :: B :: C :: Rs)) : Hd W w (S :: Rs) := h.un2.un2.un2
theorem Hd.dropTail5 {W w : World} {D S A B C : Res} {Rs : List Res} (h : Hd W w (D :: S :: A :: B :: C :: Rs)) : Hd W w (S :: Rs) := h.drop.un2.un2.un2
theorem eq_Ch (k e k' e' : Int) (h : ¬ e = e') (w : World) : (binOp .eql 32 (.agg #[.int .i64 k, .int .i64 e]) (.agg #[.int .i64 k', .int .i64 e'])).run Try.prog w = .ok (.bool false) w := by
  have q : (Op.equalIn 10000 32 (.agg #[.int .i64 k, .int .i64 e]) (.agg #[.int .i64 k', .int .i64 e'])).run Try.prog w = .ok false w := by
    go_simp
  rw [run_eql_struct, q]
  rfl

section
variable {W w : World} {Xs : List Res} {b : Nat} {L : List T} {m : Int}

set_option maxRecDepth 100000 in
set_option maxHeartbeats 4000000 in
theorem steps1_in (nn : Nat) (l : Nat) (k e : Int) (N : Nat) (hN : N ≤ 4) (c : Nat) (J : List Int → Int → Int → List Res → Prop)
    (hY : ∀ (mm : Nat) (pre : List Int) (lk le x dk de : Int) (Js : List Res) (w : World) (Xs : List Res), pre.length < 4 → J pre lk le Js → Hd W w (Js ++ Xs) → YieldAt Fence.wide mm Try.prog l #[.int .i64 x, .agg #[.int .i64 dk, .int .i64 de]] w fun e w' => e = .returned (.bool true) ∧ ∃ Js', J (pre ++ [x]) dk de Js' ∧ Hd W w' (Js' ++ Xs)) (Js0 : List Res) (hJ0 : J [] k e Js0)
    (h : Hd W w (Sto b L m :: Blk c (.cells #[.int .i64 k, .int .i64 e] 32 (0, 0)) :: Blk (c + 1) (.cells #[.pointer (some ⟨b, 0, none⟩)] 25 (0, 0)) :: Blk (c + 2) (.cells #[.int .i64 N] 3 (0, 0)) :: (Js0 ++ Xs))) :
    CallsIn Fence.wide nn Try.prog 79 #[.func (.yield l) #[] #[], .pointer (some ⟨c + 2, 0, none⟩), .pointer (some ⟨c, 0, none⟩), .pointer (some ⟨c + 1, 0, none⟩)] w fun e' w' =>
      e' = .returned (.int .i64 (steps15 m N L k e).2.2.1) ∧ ∃ pre lk le Js, ((steps15 m N L k e).2.2.1 = 0 → pre = (steps15 m N L k e).1 ∧ (lk, le) = (steps15 m N L k e).2.1) ∧ J pre lk le Js ∧ Hd W w' (Sto b (steps15 m N L k e).2.2.2 m :: (Js ++ Xs)) := by
  have H0 := hid h
  clear h
  have HY := hid hY
  clear hY
  refine callsIn_of_wp Try.func79 rfl trivial ?_ rfl
  simp only [Try.ntmps79, List.size_toArray, List.length_cons, List.length_nil, Nat.reduceAdd, Nat.reduceSub, Array.replicate_succ, Array.replicate_zero, List.push_toArray, List.append_toArray, List.nil_append, List.cons_append]
  have hk := Hd.nthk 3 H0.out rfl
  have n0 := (cell_of_heap hk 0).trans (show _ = some (.int .i64 N) from rfl)
  clear hk
  gi_wp2
  clear n0
  gi_loopw [10] (fun p wr => ∃ (i : Nat) (pre : List Int) (k1 e1 : Int) (L1 : List T) (Js : List Res), i ≤ N ∧ p = .int .i64 i ∧ pre.length = i ∧ Hid (J pre k1 e1 Js) ∧ Hid ((steps15 m N L k e).2 = (steps15 m (N - i) L1 k1 e1).2 ∧ (steps15 m N L k e).1 = pre ++ (steps15 m (N - i) L1 k1 e1).1) ∧
      Hid (Hd W wr (Sto b L1 m :: Blk c (.cells #[.int .i64 k1, .int .i64 e1] 32 (0, 0)) :: Blk (c + 1) (.cells #[.pointer (some ⟨b, 0, none⟩)] 25 (0, 0)) :: Blk (c + 2) (.cells #[.int .i64 N] 3 (0, 0)) :: (Js ++ Xs)))) (fun p _ => N - (intOf p).toNat)
  case atStart => exact ⟨0, [], k, e, L, Js0, Nat.zero_le _, rfl, rfl, hid hJ0, hid ⟨rfl, rfl⟩, H0⟩
  case round =>
    clear H0
    obtain ⟨i, pre, k1, e1, L1, Js, hi, rfl, hpre, HJ, HS, H⟩ := hrel
    obtain ⟨wo, hwo⟩ : ∃ wo : World, wo = wr := ⟨_, rfl⟩
    rw [← hwo] at H ⊢
    clear hwo wr
    have hi0 : 0 ≤ (i : Int) := by omega
    by_cases hlt : i < N
    · have d1 : decide ((i : Int) < (N : Int)) = true := by simp; omega
      have d1' : decide (i < N) = true := by simp; omega
      obtain ⟨q, hq⟩ : ∃ q, N - i = q + 1 := ⟨N - i - 1, by omega⟩
      obtain ⟨s1, s2, L2, hs⟩ : ∃ s1 s2 L2, put m L1 (keyT k1 1) = (s1, s2, L2) := ⟨_, _, _, rfl⟩
      have hst := HS.out
      rw [hq, steps15_succ] at hst
      rw [hs] at hst
      dsimp only at hst
      have HP := hid hs
      clear hs
      have hk := Hd.nthk 1 H.out rfl
      have c0 := (cell_of_heap hk 0).trans (show _ = some (.int .i64 k1) from rfl)
      have c1 := (cell_of_heap hk 1).trans (show _ = some (.int .i64 e1) from rfl)
      clear hk
      have hk := Hd.nthk 2 H.out rfl
      have b0 := (cell_of_heap hk 0).trans (show _ = some (.pointer (some ⟨b, 0, none⟩)) from rfl)
      clear hk
      have HST := hid hst
      have HPRE := hid hpre
      have HQ := hid hq
      clear hst hpre hq
      gi_wp2
      refine ⟨trivial, fun h => (by cases h), ?_⟩
      refine (callsIn_wide.2 (seal15_calls k1 e1 HP.out H.out)).mono ?_
      rintro e' w2 ⟨rfl, hd⟩
      have H2 := hid hd
      clear hd c0 c1 b0 H
      have H := H2
      clear H2
      by_cases hs0 : s2 = 0
      · subst hs0
        have hst := HST.out
        rw [if_pos rfl] at hst
        obtain ⟨dk, de, x2, L3, hx⟩ : ∃ dk de x2 L3, next15 m L2 k1 e1 = ((dk, de), x2, L3) := ⟨_, _, _, _, rfl⟩
        rw [hx] at hst
        dsimp only at hst
        have HX := hid hx
        have HST2 := hid hst
        clear hst HST hx
        have hk := Hd.nthk 1 H.out rfl
        have c0 := (cell_of_heap hk 0).trans (show _ = some (.int .i64 k1) from rfl)
        have c1 := (cell_of_heap hk 1).trans (show _ = some (.int .i64 e1) from rfl)
        clear hk
        have hk := Hd.nthk 2 H.out rfl
        have b0 := (cell_of_heap hk 0).trans (show _ = some (.pointer (some ⟨b, 0, none⟩)) from rfl)
        clear hk
        gi_wp2
        refine ⟨trivial, fun h => (by cases h), ?_⟩
        refine (callsIn_wide.2 (next15_calls k1 e1 HX.out H.out)).mono ?_
        rintro e' w3 ⟨rfl, hd⟩
        have H2 := hid (hd.boxk (o := .cells #[.int .i64 dk, .int .i64 de] 32 (0, 0)) w3.heap.size rfl)
        clear hd c0 c1 b0 H
        have H := H2
        clear H2
        by_cases hx0 : x2 = 0
        · subst hx0
          have hst := HST2.out
          rw [if_pos rfl] at hst
          have HST := hid hst
          clear hst HST2
          obtain ⟨hde, he0, he1⟩ := next15_epoch HX.out
          have heq := eq_Ch k1 e1 dk de (by omega)
          clear hde he0 he1
          obtain ⟨wd, hwd⟩ : ∃ wd, w3.alloc (.cells #[.int .i64 dk, .int .i64 de] 32 (0, 0)) = wd := ⟨_, rfl⟩
          rw [hwd] at H
          have HWD := hid hwd
          have hk := Hd.nthk 2 H.out rfl
          have c0 := (cell_of_heap hk 0).trans (show _ = some (.int .i64 k1) from rfl)
          have c1 := (cell_of_heap hk 1).trans (show _ = some (.int .i64 e1) from rfl)
          clear hk
          have hk := Hd.nthk 0 H.out rfl
          have dd0 := (cell_of_heap hk 0).trans (show _ = some (.int .i64 dk) from rfl)
          have dd1 := (cell_of_heap hk 1).trans (show _ = some (.int .i64 de) from rfl)
          clear hk
          have hH := Hd.perm (swap_mid (A := [Blk w3.heap.size (.cells #[.int .i64 dk, .int .i64 de] 32 (0, 0)), Sto b L3 m, Blk c (.cells #[.int .i64 k1, .int .i64 e1] 32 (0, 0)), Blk (c + 1) (.cells #[.pointer (some ⟨b, 0, none⟩)] 25 (0, 0)), Blk (c + 2) (.cells #[.int .i64 N] 3 (0, 0))])) H.out
          obtain ⟨fn, tmps, assign, body, hy, hR⟩ := HY.out (nn - 1) pre k1 e1 s1 dk de Js wd _ (by have := HPRE.out; omega) HJ.out hH
          have HRR := hid hR
          clear hR hH
          subst hwd
          gi_wp2
          refine ⟨fun h => (by cases h), ?_⟩
          refine HRR.out.mono ?_
          rintro e' w4 ⟨rfl, Js2, hJ2, hd⟩
          have H2 := hid (Hd.perm swap_mid hd)
          have HJ2 := hid hJ2
          clear hJ2 HJ hd c0 c1 dd0 dd1 H HRR hy heq HWD
          have H := H2
          clear H2
          have hk := Hd.nthk 0 H.out rfl
          have dd0 := (cell_of_heap hk 0).trans (show _ = some (.int .i64 dk) from rfl)
          have dd1 := (cell_of_heap hk 1).trans (show _ = some (.int .i64 de) from rfl)
          clear hk
          have hk := Hd.nthk 2 H.out rfl
          have c0 := (cell_of_heap hk 0).trans (show _ = some (.int .i64 k1) from rfl)
          have c1 := (cell_of_heap hk 1).trans (show _ = some (.int .i64 e1) from rfl)
          have cs := (Array.getElem?_eq_some_iff.1 hk).1
          have cf := frozen_of_heap hk
          clear hk
          have zDC := blks_ne ((H.out.front 2 rfl).front 1 rfl)
          gi_wp2
          go_roundw
          case rel => exact ⟨i + 1, pre ++ [s1], dk, de, L3, Js2, by omega, by go_num, by simp [HPRE.out], HJ2, hid (by
            have h1 := HST.out
            have h2 := HQ.out
            rw [show N - (i + 1) = q by omega]
            refine ⟨h1.1, ?_⟩
            rw [h1.2]
            simp), hid (((((H.out.front 2 rfl).set 0 (.int .i64 dk)).set 1 (.int .i64 de)).front 1 rfl).drop.swap)⟩
          case measure => simp [intOf]; omega
        · have dx : (x2 != 0) = true := by rw [bne_iff_ne]; exact hx0
          have dx' : decide (x2 = 0) = false := by simpa using hx0
          have hst := HST2.out
          rw [if_neg hx0] at hst
          clear hx0
          gi_wp2
          refine bodyPost_ret (v := .int .i64 x2) (by simp [results, Try.results79, go_sem]) rfl ?_
          refine ⟨by rw [hst.1], pre, k1, e1, Js, fun h0 => ?_, HJ.out, ?_⟩
          · rw [hst.1] at h0; dsimp only at h0; rw [h0] at dx; cases dx
          · rw [hst.1]
            exact Hd.dropTail5 H.out
      · have dx : (s2 != 0) = true := by rw [bne_iff_ne]; exact hs0
        have dx' : decide (s2 = 0) = false := by simpa using hs0
        have hst := HST.out
        rw [if_neg hs0] at hst
        clear hs0
        gi_wp2
        refine bodyPost_ret (v := .int .i64 s2) (by simp [results, Try.results79, go_sem]) rfl ?_
        refine ⟨by rw [hst.1], pre, k1, e1, Js, fun h0 => ?_, HJ.out, ?_⟩
        · rw [hst.1] at h0; dsimp only at h0; rw [h0] at dx; cases dx
        · rw [hst.1]
          exact Hd.dropTail4 H.out
    · obtain rfl : i = N := by omega
      have d1 : decide ((i : Int) < (i : Int)) = false := by simp
      have hst := HS.out
      rw [Nat.sub_self] at hst
      clear hlt hpre
      gi_wp2
      refine bodyPost_ret (v := .int .i64 0) (by simp [results, Try.results79, go_sem]) rfl ?_
      refine ⟨by rw [hst.1]; rfl, pre, k1, e1, Js, fun _ => ?_, HJ.out, ?_⟩
      · rw [hst.1, hst.2]; simp [steps15]
      · rw [hst.1]
        exact Hd.dropTail4 H.out
end
end Go.Proofs.Ytpcfmafokkffgaa
