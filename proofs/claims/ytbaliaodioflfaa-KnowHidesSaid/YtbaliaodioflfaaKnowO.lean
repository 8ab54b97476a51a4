/-
  The statement 'o = append(o, k[i], k[0])', whose operations come in whatever order. For every list.
-/
import Derived.Test.YtbaliaodioflfaaKnowG
namespace Go.Proofs.Ytbaliaodioflfaa
open Go.RowKit

def coreO (s0 tk tn ti : Nat) : List (Option Nat × Op) := [
  (some s0, .move (.tmp tk)), (some (s0 + 1), .move (.tmp tn)), (some (s0 + 2), .move (.tmp ti)), (some (s0 + 3), .indexAddr 60 (.tmp (s0 + 1)) (.tmp (s0 + 2))), (some (s0 + 4), .load 3 (.tmp (s0 + 3))),
  (some (s0 + 5), .move (.tmp tn)), (some (s0 + 6), .indexAddr 60 (.tmp (s0 + 5)) (.const (.int .i64 0))), (some (s0 + 7), .load 3 (.tmp (s0 + 6))),
  (some (s0 + 8), .buildSlice 60 2 #[(0, .tmp (s0 + 4)), (1, .tmp (s0 + 7))]),
  (some (s0 + 9), .call { callee := .builtin .append, args := #[.tmp s0, .tmp (s0 + 8)], argTypes := #[60, 60] }), (some tk, .assign (.tmp (s0 + 9)))]
def needO : Nat → List Nat
  | 3 => [1, 2] | 4 => [3] | 6 => [5] | 7 => [6] | 8 => [4, 7] | 9 => [0, 8] | 10 => [9] | _ => []
def usesO : Nat → List Nat
  | 8 => [8] | _ => []
def valO (v : Value) (gg n c j : Nat) (z z0 : Int) (g : Nat → Nat) : Nat → Value
  | 0 => v
  | 1 => .slice (some ⟨gg, 0, none⟩) n c
  | 2 => .int .i64 j
  | 3 => .pointer (some ⟨gg, 0 + j, none⟩)
  | 4 => .int .i64 z
  | 5 => .slice (some ⟨gg, 0, none⟩) n c
  | 6 => .pointer (some ⟨gg, 0 + 0, none⟩)
  | 7 => .int .i64 z0
  | 8 => .slice (some ⟨g 8, 0, none⟩) 2 2
  | _ => v
def resO (z z0 : Int) (g : Nat → Nat) : Nat → List Res
  | 8 => [Blk (g 8) (.cells (nums .i64 [z, z0]).toArray 3 (0, 0))]
  | _ => []
theorem valO_of {v : Value} {gg n c j : Nat} {z z0 : Int} (i : Nat) (g g' : Nat → Nat) (h : ∀ k ∈ usesO i, g k = g' k) : valO v gg n c j z z0 g i = valO v gg n c j z z0 g' i ∧ resO z z0 g i = resO z z0 g' i := by
  match i with
  | 0 | 1 | 2 | 3 | 4 | 5 | 6 | 7 => exact ⟨rfl, rfl⟩
  | 8 => simp [usesO] at h; simp [valO, resO, h]
  | n + 9 => exact ⟨rfl, rfl⟩

section
variable {ρ : Operand → Value} {o : Oper} {w : World}
theorem exec_indexI {x y : Operand} {gg oo n c j : Nat} (ho : o.op = .indexAddr 60 x y) (hx : ρ x = .slice (some ⟨gg, oo, none⟩) n c) (hy : ρ y = .int .i64 j) (hj : j < n) (hb : j ≤ 9223372036854775807) : (execOp ρ o).run Try.prog w = .ok (.value (.pointer (some ⟨gg, oo + j, none⟩))) w := by
  have h1 : (0 : Int) ≤ (j : Int) := by omega
  have h2 : (j : Int) < (n : Int) := by omega
  have h3 : decide ((j : Int) < 0) = false := by simp
  simp [execOp, ho, hx, hy, go_sem, hj]
theorem exec_loadI {x : Operand} {p : Addr} {z : Int} (ho : o.op = .load 3 x) (hx : ρ x = .pointer (some p)) (hc : w.cell? p = some (.int .i64 z)) : (execOp ρ o).run Try.prog w = .ok (.value (.int .i64 z)) w := by
  simp [execOp, ho, hx, hc, go_sem]
theorem exec_build2 {x y : Operand} {z z0 : Int} (ho : o.op = .buildSlice 60 2 #[(0, x), (1, y)]) (hx : ρ x = .int .i64 z) (hy : ρ y = .int .i64 z0) : (execOp ρ o).run Try.prog w = .ok (.value (.slice (some ⟨w.heap.size, 0, none⟩) 2 2)) (w.alloc (.cells (nums .i64 [z, z0]).toArray 3 (0, 0))) := by
  simp [execOp, ho, hx, hy, go_sem, nums]
end

set_option maxHeartbeats 4000000 in
theorem pairs_region {ops : Array Oper} {Q : Exit → Act → World → Prop} {id : Nat} {a0 : Act} {w0 W : World} {Rs : List Res} {s0 tk tn ti gg c nk j n : Nat} {z z0 : Int} {v : Value} {os : List Int}
    (hcore : ops.toList.map (fun o => (o.dst, o.op)) = coreO s0 tk tn ti) (hc : checkOps ops needO usesO = true) (hsk : Region.sinkB .any ops 9 = true) (hch : Region.chainB .any ops 9 = true) (hsq : Region.seqB .any ops (ops.size - 9) 9 (List.replicate 9 true ++ List.replicate (ops.size - 9) false).toArray = true)
    (hsz : s0 + 10 ≤ a0.tmps.size) (hlow : tk < s0 ∧ tn < s0 ∧ ti < s0) (ek : a0.eval (.tmp tk) = v) (en : a0.eval (.tmp tn) = .slice (some ⟨gg, 0, none⟩) nk c) (ei : a0.eval (.tmp ti) = .int .i64 j)
    (hj : j < nk) (hj2 : j ≤ 10) (hcell : w0.cell? ⟨gg, 0 + j, none⟩ = some (.int .i64 z)) (hcell0 : w0.cell? ⟨gg, 0 + 0, none⟩ = some (.int .i64 z0)) (hn : n ≤ 1048570) (h0 : Hd W w0 (RowR 3 1 v n (nums .i64 os) :: Rs))
    (done : ∀ (f : Nat → Value) (g c : Nat) (w : World), f tk = .slice (some ⟨g, 0, none⟩) (n + 2) c → Hd W w (RowR 3 1 (.slice (some ⟨g, 0, none⟩) (n + 2) c) (n + 2) (nums .i64 (os ++ [z, z0])) :: Rs) →
      Q .normal { tmps := (patchG (fun i => i == tk || (decide (s0 ≤ i) && decide (i ≤ s0 + 9))) f 0 a0.tmps.toList).toArray, defers := a0.defers } w) : (Code.region id ops true).wp Try.prog Q a0 w0 := by
  have hsize : ops.size = 11 := by
    have := congrArg List.length hcore
    simpa [coreO] using this
  have hdst := dst_core hcore
  have hdr : ∀ i d, i < 9 → dstOf ops i = some d → d = s0 + i := by
    intro i d hi h
    rw [hdst] at h
    match i with
    | 0 | 1 | 2 | 3 | 4 | 5 | 6 | 7 | 8 => simp [coreO] at h; omega
    | n + 9 => omega
  have hdf : ∀ i, i < 9 → dstOf ops i = some (s0 + i) := by
    intro i hi
    rw [hdst]
    match i with
    | 0 | 1 | 2 | 3 | 4 | 5 | 6 | 7 | 8 => rfl
    | n + 9 => omega
  obtain ⟨l1, l2, l3⟩ := hlow
  have out : ∀ t, t < s0 → ∀ i, i < 9 → dstOf ops i ≠ some t := fun t ht i hi h => by have := hdr i t hi h; omega
  refine wp_region_made_tail (W := W) (Rs := RowR 3 1 v n (nums .i64 os) :: Rs) 9 needO usesO (valO v gg nk c j z z0) (resO z z0) (by kernel_rfl) hc hsk hch (by omega) hsq (fun i d hi h => by have := hdr i d hi h; omega) valO_of h0 ?_ ?_
  · intro i o ho hlt a w g hin hrest hb K hK
    have hco := core_at hcore ho
    have Ek := (hrest tk (out tk l1)).trans ek
    have En := (hrest tn (out tn l2)).trans en
    have Ei := (hrest ti (out ti l3)).trans ei
    have pure_ : ∀ v2, v2 = valO v gg nk c j z z0 (upd g i (g i)) i → resO z z0 (upd g i (g i)) i = [] → K (a.put o.dst v2) w := fun v2 hv hr => hK (g i) v2 w (.inl hv) (Below.refl _ _) fun Ss h => by rw [hr]; exact h
    match i, hlt with
    | 0, _ =>
      simp only [coreO, List.getElem?_cons_zero, Option.some.injEq, Prod.mk.injEq] at hco
      exact wp_of_run (exec_move hco.2.symm _ _) (pure_ _ Ek rfl)
    | 1, _ =>
      simp only [coreO, List.getElem?_cons_succ, List.getElem?_cons_zero, Option.some.injEq, Prod.mk.injEq] at hco
      exact wp_of_run (exec_move hco.2.symm _ _) (pure_ _ En rfl)
    | 2, _ =>
      simp only [coreO, List.getElem?_cons_succ, List.getElem?_cons_zero, Option.some.injEq, Prod.mk.injEq] at hco
      exact wp_of_run (exec_move hco.2.symm _ _) (pure_ _ Ei rfl)
    | 3, _ =>
      simp only [coreO, List.getElem?_cons_succ, List.getElem?_cons_zero, Option.some.injEq, Prod.mk.injEq] at hco
      exact wp_of_run (exec_indexI hco.2.symm (hin 1 (by decide) _ (hdf 1 (by decide))) (hin 2 (by decide) _ (hdf 2 (by decide))) hj (by omega)) (pure_ _ rfl rfl)
    | 4, _ =>
      simp only [coreO, List.getElem?_cons_succ, List.getElem?_cons_zero, Option.some.injEq, Prod.mk.injEq] at hco
      exact wp_of_run (exec_loadI hco.2.symm (hin 3 (by decide) _ (hdf 3 (by decide))) ((hb.cell (p := ⟨gg, 0 + j, none⟩) (World.block_lt_of_cell? _ _ hcell)).trans hcell)) (pure_ _ rfl rfl)
    | 5, _ =>
      simp only [coreO, List.getElem?_cons_succ, List.getElem?_cons_zero, Option.some.injEq, Prod.mk.injEq] at hco
      exact wp_of_run (exec_move hco.2.symm _ _) (pure_ _ En rfl)
    | 6, _ =>
      simp only [coreO, List.getElem?_cons_succ, List.getElem?_cons_zero, Option.some.injEq, Prod.mk.injEq] at hco
      exact wp_of_run (exec_indexI (j := 0) hco.2.symm (hin 5 (by decide) _ (hdf 5 (by decide))) rfl (by omega) (by omega)) (pure_ _ rfl rfl)
    | 7, _ =>
      simp only [coreO, List.getElem?_cons_succ, List.getElem?_cons_zero, Option.some.injEq, Prod.mk.injEq] at hco
      exact wp_of_run (exec_loadI hco.2.symm (hin 6 (by decide) _ (hdf 6 (by decide))) ((hb.cell (p := ⟨gg, 0 + 0, none⟩) (World.block_lt_of_cell? _ _ hcell0)).trans hcell0)) (pure_ _ rfl rfl)
    | 8, _ =>
      simp only [coreO, List.getElem?_cons_succ, List.getElem?_cons_zero, Option.some.injEq, Prod.mk.injEq] at hco
      exact wp_of_run (exec_build2 hco.2.symm (hin 4 (by decide) _ (hdf 4 (by decide))) (hin 7 (by decide) _ (hdf 7 (by decide)))) (hK w.heap.size _ _ (.inl rfl) ((Below.refl _ _).alloc (Nat.le_refl _) _) (hd_alloc rfl))
  · intro a w g hs hd hr hv hb hh
    have hl : ops.toList.drop 9 = [ops[9]'(by omega), ops[10]'(by omega)] := by
      apply List.ext_getElem?
      intro i
      rw [List.getElem?_drop]
      match i with
      | 0 => simp [hsize]
      | 1 => simp [hsize]
      | i + 2 => simp; omega
    have h11 := core_at hcore (i := 9) (o := ops[9]'(by omega)) (Array.getElem?_eq_getElem (by omega))
    have h12 := core_at hcore (i := 10) (o := ops[10]'(by omega)) (Array.getElem?_eq_getElem (by omega))
    have g11 := (check_at hc (i := 9) (o := ops[9]'(by omega)) (Array.getElem?_eq_getElem (by omega))).1
    have g12 := (check_at hc (i := 10) (o := ops[10]'(by omega)) (Array.getElem?_eq_getElem (by omega))).1
    simp only [coreO, List.getElem?_cons_succ, List.getElem?_cons_zero, Option.some.injEq, Prod.mk.injEq] at h11 h12
    rw [hl]
    obtain ⟨i0, hi0, hz0', hs0, hy0⟩ := info_i64
    have hh2 : Hd W w (RowR 3 1 v n (nums .i64 os) :: Blk (g 8) (.cells (nums .i64 [z, z0]).toArray 3 (0, 0)) :: Rs) := hh.swap
    refine append_blk (ys := [z, z0]) Try.underlying60 hi0 hz0' hs0 hy0 (by decide) g11 (.tmp s0) (.tmp (s0 + 8)) h11.2.symm (by simp) hh2 ((hv 0 s0 (by decide) (hdf 0 (by decide)))) ((hv 8 _ (by decide) (hdf 8 (by decide)))) (by simp; omega) ?_
    intro g' cap w' h'
    refine wpList_plain g12 fun K hK => ?_
    refine wp_of_run (exec_assign h12.2.symm _) (hK _ _ ?_)
    refine ?_
    have ev : ((a.put (ops[9]'(by omega)).dst (.slice (some ⟨g', 0, none⟩) (n + 2) cap)).eval (.tmp (s0 + 9))) = .slice (some ⟨g', 0, none⟩) (n + 2) cap := by
      rw [← h11.1]; exact put_same (by rw [hs]; omega)
    have hlast : Hd W w' (RowR 3 1 (.slice (some ⟨g', 0, none⟩) (n + 2) cap) (n + 2) (nums .i64 (os ++ [z, z0])) :: Rs) := h'.un2
    show Q .normal ((a.put (ops[9]'(by omega)).dst (.slice (some ⟨g', 0, none⟩) (n + 2) cap)).put (ops[10]'(by omega)).dst ((a.put (ops[9]'(by omega)).dst (.slice (some ⟨g', 0, none⟩) (n + 2) cap)).eval (.tmp (s0 + 9)))) w'
    rw [ev, ← h11.1, ← h12.1]
    have hfin := done (fun i => (((a.put (some (s0 + 9)) (.slice (some ⟨g', 0, none⟩) (n + 2) cap)).put (some tk) (.slice (some ⟨g', 0, none⟩) (n + 2) cap))).eval (.tmp i)) g' cap w' (put_same (by rw [put_size, hs]; omega)) hlast
    rw [act_litG (a := ((a.put (some (s0 + 9)) (.slice (some ⟨g', 0, none⟩) (n + 2) cap)).put (some tk) (.slice (some ⟨g', 0, none⟩) (n + 2) cap))) (a0 := a0) (fun i => i == tk || (decide (s0 ≤ i) && decide (i ≤ s0 + 9))) (by rw [put_size, put_size, hs]) (by rw [put_defers, put_defers, hd]) fun t ht => ?_]
    · exact hfin
    · simp only [Bool.or_eq_false_iff, beq_eq_false_iff_ne, Bool.and_eq_false_iff, decide_eq_false_iff_not] at ht
      obtain ⟨ht1, ht2⟩ := ht
      rw [put_ne (show (some tk : Option Nat) ≠ some t from fun e => ht1 (Option.some.inj e).symm), put_ne (show (some (s0 + 9) : Option Nat) ≠ some t from fun e => by have := Option.some.inj e; omega)]
      exact hr t fun i hi h => by have := hdr i t hi h; omega

theorem Hd.row_some {W w : World} {ad : Option Addr} {n cap : Nat} {ks : List Int} {Rs : List Res} (hn : 0 < n) (h : Hd W w (RowR 3 1 (.slice ad n cap) n (nums .i64 ks) :: Rs)) : ∃ g, ad = some ⟨g, 0, none⟩ ∧ n = ks.length ∧ ∀ (i : Nat) (z : Int), ks[i]? = some z → w.cell? ⟨g, 0 + i, none⟩ = some (.int .i64 z) := by
  obtain ⟨hl, ⟨hv, h0⟩ | ⟨g, c2, cur, hv, _, hc, h3, h4, h5, h6⟩⟩ := h.owns
  · omega
  · simp only [Value.slice.injEq, true_and] at hv
    obtain ⟨rfl, rfl⟩ := hv
    refine ⟨g, rfl, by simp [nums] at hl; omega, fun i z hi => ?_⟩
    rw [cell_of_heap hc, Nat.zero_add, ← Array.getElem?_toList]
    refine get_of_take h6 ?_
    simp [nums, hi]
end Go.Proofs.Ytbaliaodioflfaa
