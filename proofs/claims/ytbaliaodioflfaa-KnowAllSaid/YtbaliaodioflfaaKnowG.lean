/-
  What the laws of layer 8 share: a list of known names that grows; what All and Can answer over such a list; within. For every store and every list.
-/
import Derived.Test.YtbaliaodioflfaaKnowD
import Derived.Test.YtbaliaodioflfaaMadeB
import Derived.Test.YtbaliaodioflfaaLawA
namespace Go.Proofs.Ytbaliaodioflfaa
open Go.RowKit

section
variable {W w X w' : World} {E size n n' : Nat} {v : Value} {Rs : List Res}

/-- APPEND SOME NUMBERS that lie in a block of the call's own. -/
theorem append_blk {ops : Array Oper} {rest : List Oper} {o : Oper} {a : Act} {Q : Exit → Act → World → Prop} {k : IntKind} {T E bytes : Nat} {i : TypeInfo} {zs ys : List Int} {g : Nat} (ht : Try.prog.underlying T = some (.slice E)) (hi : Try.prog.info? E = some i) (hz : i.zero = some (.int k 0)) (hsize : i.size = 1) (hby : i.bytes = bytes) (hb8 : bytes ≤ 8)
    (hgd : o.guard = none) (s x : Operand) (ho : o.op = .call { callee := .builtin .append, args := #[s, x], argTypes := #[T, T] }) (hm : 0 < ys.length) (h : Hd W w (RowR E 1 v n (nums k zs) :: Blk g (.cells (nums k ys).toArray E (0, 0)) :: Rs)) (hs : a.eval s = v) (hx : a.eval x = .slice (some ⟨g, 0, none⟩) ys.length ys.length) (hn : n + ys.length ≤ 1048580)
    (hK : ∀ g' cap w', Hd W w' (RowR E 1 (.slice (some ⟨g', 0, none⟩) (n + ys.length) cap) (n + ys.length) (nums k (zs ++ ys)) :: Blk g (.cells (nums k ys).toArray E (0, 0)) :: Rs) → wpList Try.prog ops Q rest (a.put o.dst (.slice (some ⟨g', 0, none⟩) (n + ys.length) cap)) w') :
    wpList Try.prog ops Q (o :: rest) a w := by
  refine wpList_append_lies _ hgd s x T ho 0 E i (.int k 0) 1 bytes ht hi hz hsize hby rfl (by decide) v n _ hs h.owns ⟨g, 0, none⟩ ys.length ys.length (nums k ys) hx (by simp [nums]) (fun j u hj => ?_) (by intro u hu; simp only [nums, List.mem_map] at hu; obtain ⟨z, _, rfl⟩ := hu; rfl) hm (by simp only [maxLen]; omega) ?_ (Nat.zero_le _) _ rfl ?_
  · have hb := h.swap.blk
    rw [show ((⟨g, 0, none⟩ : Addr).add j) = ⟨g, j, none⟩ by simp [Addr.add_lit], cell_of_heap hb, List.getElem?_toArray]
    exact hj
  · have : (n + ys.length) * bytes ≤ (n + ys.length) * 8 := Nat.mul_le_mul_left _ hb8
    omega
  · intro g' cap w' ho' hg hgg _
    refine hK g' cap w' ?_
    have := h.grown ho' hg hgg
    rw [show nums k (zs ++ ys) = nums k zs ++ nums k ys by simp [nums]]
    exact this
end

section
variable {P : Program} {o : Oper} {a : Act} {w : World} {K : Act → World → Prop} {Q : Exit → Act → World → Prop}
theorem wp_of_call {f : FuncId} {args : Array Value} {v : Value} (h : (execOp a.eval o).run P w = .ok (.enter f args) w) (hc : Calls P f args w fun e w2 => e = .returned v ∧ w = w2) (hk : K (a.put o.dst v) w) : o.wp P a w K Q := by
  unfold Oper.wp; rw [h]
  refine Calls.mono hc fun e w2 he => ?_
  obtain ⟨rfl, rfl⟩ := he
  exact hk
end

/-- The statement 'k = append(k, 1+int(known[i])%s.Len())'. -/
def coreG (s0 tk tn ti ts : Nat) : List (Option Nat × Op) := [
  (some s0, .move (.tmp tk)), (some (s0 + 1), .move (.tmp tn)), (some (s0 + 2), .move (.tmp ti)), (some (s0 + 3), .indexAddr 71 (.tmp (s0 + 1)) (.tmp (s0 + 2))), (some (s0 + 4), .load 5 (.tmp (s0 + 3))),
  (some (s0 + 5), .convert 5 3 (.tmp (s0 + 4))), (some (s0 + 6), .move (.tmp ts)), (some (s0 + 7), .call { callee := .value (.func 39), args := #[.tmp (s0 + 6)], argTypes := #[27] }),
  (some (s0 + 8), .binOp .rem 3 (.tmp (s0 + 5)) (.tmp (s0 + 7)) 3), (some (s0 + 9), .binOp .add 3 (.const (.int .i64 1)) (.tmp (s0 + 8)) 3), (some (s0 + 10), .buildSlice 60 1 #[(0, .tmp (s0 + 9))]),
  (some (s0 + 11), .call { callee := .builtin .append, args := #[.tmp s0, .tmp (s0 + 10)], argTypes := #[60, 60] }), (some tk, .assign (.tmp (s0 + 11)))]
def needG : Nat → List Nat
  | 3 => [1, 2] | 4 => [3] | 5 => [4] | 7 => [6] | 8 => [5, 7] | 9 => [8] | 10 => [9] | 11 => [0, 10] | 12 => [11] | _ => []
def usesG : Nat → List Nat
  | 10 => [10] | _ => []
def valG (v : Value) (gg oo len2 cap2 j : Nat) (z : Int) (b N : Nat) (g : Nat → Nat) : Nat → Value
  | 0 => v
  | 1 => .slice (some ⟨gg, oo, none⟩) len2 cap2
  | 2 => .int .i64 j
  | 3 => .pointer (some ⟨gg, oo + j, none⟩)
  | 4 => .int .u8 z
  | 5 => .int .i64 z
  | 6 => .pointer (some ⟨b, 0, none⟩)
  | 7 => .int .i64 N
  | 8 => .int .i64 (z % N)
  | 9 => .int .i64 (1 + z % N)
  | 10 => .slice (some ⟨g 10, 0, none⟩) 1 1
  | _ => v
def resG (z : Int) (N : Nat) (g : Nat → Nat) : Nat → List Res
  | 10 => [Blk (g 10) (.cells (nums .i64 [1 + z % (N : Int)]).toArray 3 (0, 0))]
  | _ => []
theorem valG_of {v : Value} {gg oo len2 cap2 j : Nat} {z : Int} {b N : Nat} (i : Nat) (g g' : Nat → Nat) (h : ∀ k ∈ usesG i, g k = g' k) : valG v gg oo len2 cap2 j z b N g i = valG v gg oo len2 cap2 j z b N g' i ∧ resG z N g i = resG z N g' i := by
  match i with
  | 0 | 1 | 2 | 3 | 4 | 5 | 6 | 7 | 8 | 9 => exact ⟨rfl, rfl⟩
  | 10 => simp [usesG] at h; simp [valG, resG, h]
  | n + 11 => exact ⟨rfl, rfl⟩

section
variable {ρ : Operand → Value} {o : Oper} {w : World}
theorem exec_index8 {x y : Operand} {gg oo n c j : Nat} (ho : o.op = .indexAddr 71 x y) (hx : ρ x = .slice (some ⟨gg, oo, none⟩) n c) (hy : ρ y = .int .i64 j) (hj : j < n) (hb : j ≤ 9223372036854775807) : (execOp ρ o).run Try.prog w = .ok (.value (.pointer (some ⟨gg, oo + j, none⟩))) w := by
  have h1 : (0 : Int) ≤ (j : Int) := by omega
  have h2 : (j : Int) < (n : Int) := by omega
  have h3 : decide ((j : Int) < 0) = false := by simp
  simp [execOp, ho, hx, hy, go_sem, hj]
theorem exec_load8 {x : Operand} {p : Addr} {z : Int} (ho : o.op = .load 5 x) (hx : ρ x = .pointer (some p)) (hc : w.cell? p = some (.int .u8 z)) : (execOp ρ o).run Try.prog w = .ok (.value (.int .u8 z)) w := by
  simp [execOp, ho, hx, hc, go_sem]
theorem exec_conv8 {x : Operand} {z : Int} (ho : o.op = .convert 5 3 x) (hx : ρ x = .int .u8 z) (h0 : 0 ≤ z) (h1 : z ≤ 255) : (execOp ρ o).run Try.prog w = .ok (.value (.int .i64 z)) w := by
  have hw : IntKind.i64.wrap z = z := IntWalk.i64_in _ (by omega)
  simp [execOp, ho, hx, go_sem]
  try first | exact hw | omega
theorem exec_len {x : Operand} {b : Nat} (ho : o.op = .call { callee := .value (.func 39), args := #[x], argTypes := #[27] }) (hx : ρ x = .pointer (some ⟨b, 0, none⟩)) (h2 : ρ (.func 39) = .func (.func 39) #[] #[]) :
    (execOp ρ o).run Try.prog w = .ok (.enter 39 #[.pointer (some ⟨b, 0, none⟩)]) w := by
  have hc : ∀ args w, (callFunc 39 args).run Try.prog w = .ok (.enter 39 args) w := fun args w => by kernel_rfl
  simp [execOp, ho, hx, h2, go_sem, hc]
theorem exec_rem {x y : Operand} {z : Int} {n : Nat} (ho : o.op = .binOp .rem 3 x y 3) (hx : ρ x = .int .i64 z) (hy : ρ y = .int .i64 n) (h0 : 0 ≤ z) (_h1 : z ≤ 255) (hn : 1 ≤ n) (hn2 : n ≤ 1048576) : (execOp ρ o).run Try.prog w = .ok (.value (.int .i64 (z % n))) w := by
  have e1 : ¬ (n = 0) := by omega
  have hm : z.tmod n = z % n := Int.tmod_eq_emod_of_nonneg h0
  have hr : 0 ≤ z % (n : Int) ∧ z % (n : Int) < n := ⟨Int.emod_nonneg _ (by omega), Int.emod_lt_of_pos _ (by omega)⟩
  have hw : IntKind.i64.wrap (z % (n : Int)) = z % (n : Int) := IntWalk.i64_in _ (by omega)
  simp [execOp, ho, hx, hy, go_sem, hm, e1]
  try first | exact hw | omega
theorem exec_one_add {x : Operand} {d : Int} (ho : o.op = .binOp .add 3 (.const (.int .i64 1)) x 3) (hx : ρ x = .int .i64 d) (hc : ρ (.const (.int .i64 1)) = .int .i64 1) (h0 : 0 ≤ d) (h1 : d ≤ 1048577) : (execOp ρ o).run Try.prog w = .ok (.value (.int .i64 (1 + d))) w := by
  have hw : IntKind.i64.wrap (1 + d) = 1 + d := IntWalk.i64_in _ (by omega)
  simp [execOp, ho, hx, hc, go_sem]
  first | exact hw | omega | (rw [wrap64]; omega)
end

set_option maxHeartbeats 2000000 in
theorem grow_region {ops : Array Oper} {Q : Exit → Act → World → Prop} {id : Nat} {a0 : Act} {w0 W : World} {Rs : List Res} {s0 tk tn ti ts gg oo len2 cap2 j b n : Nat} {L : List T} {m z : Int} {v : Value} {ks : List Int}
    (hcore : ops.toList.map (fun o => (o.dst, o.op)) = coreG s0 tk tn ti ts) (hc : checkOps ops needG usesG = true) (hsk : Region.sinkB .any ops 11 = true) (hch : Region.chainB .any ops 11 = true) (hsq : Region.seqB .any ops (ops.size - 11) 11 (List.replicate 11 true ++ List.replicate (ops.size - 11) false).toArray = true)
    (hsz : s0 + 12 ≤ a0.tmps.size) (hlow : tk < s0 ∧ tn < s0 ∧ ti < s0 ∧ ts < s0) (ek : a0.eval (.tmp tk) = v) (en : a0.eval (.tmp tn) = .slice (some ⟨gg, oo, none⟩) len2 cap2) (ei : a0.eval (.tmp ti) = .int .i64 j) (es : a0.eval (.tmp ts) = .pointer (some ⟨b, 0, none⟩))
    (hj : j < len2) (hj2 : j ≤ 10) (hcell : w0.cell? ⟨gg, oo + j, none⟩ = some (.int .u8 z)) (hz0 : 0 ≤ z) (hz1 : z ≤ 255) (hL : 1 ≤ L.length) (hn : n ≤ 1048570) (h0 : Hd W w0 (Sto b L m :: RowR 3 1 v n (nums .i64 ks) :: Rs))
    (done : ∀ (f : Nat → Value) (g c : Nat) (w : World), f tk = .slice (some ⟨g, 0, none⟩) (n + 1) c → Hd W w (Sto b L m :: RowR 3 1 (.slice (some ⟨g, 0, none⟩) (n + 1) c) (n + 1) (nums .i64 (ks ++ [1 + z % (L.length : Int)])) :: Rs) →
      Q .normal { tmps := (patchG (fun i => i == tk || (decide (s0 ≤ i) && decide (i ≤ s0 + 11))) f 0 a0.tmps.toList).toArray, defers := a0.defers } w) : (Code.region id ops true).wp Try.prog Q a0 w0 := by
  have hsize : ops.size = 13 := by
    have := congrArg List.length hcore
    simpa [coreG] using this
  have hdst := dst_core hcore
  have hdr : ∀ i d, i < 11 → dstOf ops i = some d → d = s0 + i := by
    intro i d hi h
    rw [hdst] at h
    match i with
    | 0 | 1 | 2 | 3 | 4 | 5 | 6 | 7 | 8 | 9 | 10 => simp [coreG] at h; omega
    | n + 11 => omega
  have hdf : ∀ i, i < 11 → dstOf ops i = some (s0 + i) := by
    intro i hi
    rw [hdst]
    match i with
    | 0 | 1 | 2 | 3 | 4 | 5 | 6 | 7 | 8 | 9 | 10 => rfl
    | n + 11 => omega
  obtain ⟨l1, l2, l3, l4⟩ := hlow
  have out : ∀ t, t < s0 → ∀ i, i < 11 → dstOf ops i ≠ some t := fun t ht i hi h => by have := hdr i t hi h; omega
  have hsto := h0.sto
  obtain ⟨lb, db, mb, lc, dc, hst⟩ := hsto
  have hL2 : L.length ≤ 1048576 := by have := hst.m1; have := hst.len; omega
  have hrem : 0 ≤ z % (L.length : Int) ∧ z % (L.length : Int) < L.length := ⟨Int.emod_nonneg _ (by omega), Int.emod_lt_of_pos _ (by omega)⟩
  refine wp_region_made_tail (W := W) (Rs := Sto b L m :: RowR 3 1 v n (nums .i64 ks) :: Rs) 11 needG usesG (valG v gg oo len2 cap2 j z b L.length) (resG z L.length) (by kernel_rfl) hc hsk hch (by omega) hsq (fun i d hi h => by have := hdr i d hi h; omega) valG_of h0 ?_ ?_
  · intro i o ho hlt a w g hin hrest hb K hK
    have hco := core_at hcore ho
    have Ek := (hrest tk (out tk l1)).trans ek
    have En := (hrest tn (out tn l2)).trans en
    have Ei := (hrest ti (out ti l3)).trans ei
    have Es := (hrest ts (out ts l4)).trans es
    have pure_ : ∀ v2, v2 = valG v gg oo len2 cap2 j z b L.length (upd g i (g i)) i → resG z L.length (upd g i (g i)) i = [] → K (a.put o.dst v2) w := fun v2 hv hr => hK (g i) v2 w (.inl hv) (Below.refl _ _) fun Ss h => by rw [hr]; exact h
    match i, hlt with
    | 0, _ =>
      simp only [coreG, List.getElem?_cons_zero, Option.some.injEq, Prod.mk.injEq] at hco
      exact wp_of_run (exec_move hco.2.symm _ _) (pure_ _ Ek rfl)
    | 1, _ =>
      simp only [coreG, List.getElem?_cons_succ, List.getElem?_cons_zero, Option.some.injEq, Prod.mk.injEq] at hco
      exact wp_of_run (exec_move hco.2.symm _ _) (pure_ _ En rfl)
    | 2, _ =>
      simp only [coreG, List.getElem?_cons_succ, List.getElem?_cons_zero, Option.some.injEq, Prod.mk.injEq] at hco
      exact wp_of_run (exec_move hco.2.symm _ _) (pure_ _ Ei rfl)
    | 3, _ =>
      simp only [coreG, List.getElem?_cons_succ, List.getElem?_cons_zero, Option.some.injEq, Prod.mk.injEq] at hco
      exact wp_of_run (exec_index8 hco.2.symm (hin 1 (by decide) _ (hdf 1 (by decide))) (hin 2 (by decide) _ (hdf 2 (by decide))) hj (by omega)) (pure_ _ rfl rfl)
    | 4, _ =>
      simp only [coreG, List.getElem?_cons_succ, List.getElem?_cons_zero, Option.some.injEq, Prod.mk.injEq] at hco
      exact wp_of_run (exec_load8 hco.2.symm (hin 3 (by decide) _ (hdf 3 (by decide))) ((hb.cell (p := ⟨gg, oo + j, none⟩) (World.block_lt_of_cell? _ _ hcell)).trans hcell)) (pure_ _ rfl rfl)
    | 5, _ =>
      simp only [coreG, List.getElem?_cons_succ, List.getElem?_cons_zero, Option.some.injEq, Prod.mk.injEq] at hco
      exact wp_of_run (exec_conv8 hco.2.symm (hin 4 (by decide) _ (hdf 4 (by decide))) hz0 hz1) (pure_ _ rfl rfl)
    | 6, _ =>
      simp only [coreG, List.getElem?_cons_succ, List.getElem?_cons_zero, Option.some.injEq, Prod.mk.injEq] at hco
      exact wp_of_run (exec_move hco.2.symm _ _) (pure_ _ Es rfl)
    | 7, _ =>
      simp only [coreG, List.getElem?_cons_succ, List.getElem?_cons_zero, Option.some.injEq, Prod.mk.injEq] at hco
      exact wp_of_call (exec_len hco.2.symm (hin 6 (by decide) _ (hdf 6 (by decide))) rfl) (len_calls' (hst.later hb)) (pure_ _ rfl rfl)
    | 8, _ =>
      simp only [coreG, List.getElem?_cons_succ, List.getElem?_cons_zero, Option.some.injEq, Prod.mk.injEq] at hco
      exact wp_of_run (exec_rem hco.2.symm (hin 5 (by decide) _ (hdf 5 (by decide))) (hin 7 (by decide) _ (hdf 7 (by decide))) hz0 hz1 hL hL2) (pure_ _ rfl rfl)
    | 9, _ =>
      simp only [coreG, List.getElem?_cons_succ, List.getElem?_cons_zero, Option.some.injEq, Prod.mk.injEq] at hco
      exact wp_of_run (exec_one_add hco.2.symm (hin 8 (by decide) _ (hdf 8 (by decide))) rfl hrem.1 (by omega)) (pure_ _ rfl rfl)
    | 10, _ =>
      simp only [coreG, List.getElem?_cons_succ, List.getElem?_cons_zero, Option.some.injEq, Prod.mk.injEq] at hco
      exact wp_of_run (exec_build_d hco.2.symm (hin 9 (by decide) _ (hdf 9 (by decide)))) (hK w.heap.size _ _ (.inl rfl) ((Below.refl _ _).alloc (Nat.le_refl _) _) (hd_alloc rfl))
  · intro a w g hs hd hr hv hb hh
    have hl : ops.toList.drop 11 = [ops[11]'(by omega), ops[12]'(by omega)] := by
      apply List.ext_getElem?
      intro i
      rw [List.getElem?_drop]
      match i with
      | 0 => simp [hsize]
      | 1 => simp [hsize]
      | i + 2 => simp; omega
    have h11 := core_at hcore (i := 11) (o := ops[11]'(by omega)) (Array.getElem?_eq_getElem (by omega))
    have h12 := core_at hcore (i := 12) (o := ops[12]'(by omega)) (Array.getElem?_eq_getElem (by omega))
    have g11 := (check_at hc (i := 11) (o := ops[11]'(by omega)) (Array.getElem?_eq_getElem (by omega))).1
    have g12 := (check_at hc (i := 12) (o := ops[12]'(by omega)) (Array.getElem?_eq_getElem (by omega))).1
    simp only [coreG, List.getElem?_cons_succ, List.getElem?_cons_zero, Option.some.injEq, Prod.mk.injEq] at h11 h12
    rw [hl]
    obtain ⟨i0, hi0, hz0', hs0, hy0⟩ := info_i64
    have hh2 : Hd W w (RowR 3 1 v n (nums .i64 ks) :: Blk (g 10) (.cells (nums .i64 [1 + z % (L.length : Int)]).toArray 3 (0, 0)) :: Sto b L m :: Rs) := hh.third.under fun _ k => k
    refine append_blk (ys := [1 + z % (L.length : Int)]) Try.underlying60 hi0 hz0' hs0 hy0 (by decide) g11 (.tmp s0) (.tmp (s0 + 10)) h11.2.symm (by simp) hh2 ((hv 0 s0 (by decide) (hdf 0 (by decide)))) ((hv 10 _ (by decide) (hdf 10 (by decide)))) (by simp; omega) ?_
    intro g' cap w' h'
    refine wpList_plain g12 fun K hK => ?_
    refine wp_of_run (exec_assign h12.2.symm _) (hK _ _ ?_)
    refine ?_
    have ev : ((a.put (ops[11]'(by omega)).dst (.slice (some ⟨g', 0, none⟩) (n + 1) cap)).eval (.tmp (s0 + 11))) = .slice (some ⟨g', 0, none⟩) (n + 1) cap := by
      rw [← h11.1]; exact put_same (by rw [hs]; omega)
    have hlast : Hd W w' (Sto b L m :: RowR 3 1 (.slice (some ⟨g', 0, none⟩) (n + 1) cap) (n + 1) (nums .i64 (ks ++ [1 + z % (L.length : Int)])) :: Rs) := (h'.un2).swap
    show Q .normal ((a.put (ops[11]'(by omega)).dst (.slice (some ⟨g', 0, none⟩) (n + 1) cap)).put (ops[12]'(by omega)).dst ((a.put (ops[11]'(by omega)).dst (.slice (some ⟨g', 0, none⟩) (n + 1) cap)).eval (.tmp (s0 + 11)))) w'
    rw [ev, ← h11.1, ← h12.1]
    have hfin := done (fun i => (((a.put (some (s0 + 11)) (.slice (some ⟨g', 0, none⟩) (n + 1) cap)).put (some tk) (.slice (some ⟨g', 0, none⟩) (n + 1) cap))).eval (.tmp i)) g' cap w' (put_same (by rw [put_size, hs]; omega)) hlast
    rw [act_litG (a := ((a.put (some (s0 + 11)) (.slice (some ⟨g', 0, none⟩) (n + 1) cap)).put (some tk) (.slice (some ⟨g', 0, none⟩) (n + 1) cap))) (a0 := a0) (fun i => i == tk || (decide (s0 ≤ i) && decide (i ≤ s0 + 11))) (by rw [put_size, put_size, hs]) (by rw [put_defers, put_defers, hd]) fun t ht => ?_]
    · exact hfin
    · simp only [Bool.or_eq_false_iff, beq_eq_false_iff_ne, Bool.and_eq_false_iff, decide_eq_false_iff_not] at ht
      obtain ⟨ht1, ht2⟩ := ht
      rw [put_ne (show (some tk : Option Nat) ≠ some t from fun e => ht1 (Option.some.inj e).symm), put_ne (show (some (s0 + 11) : Option Nat) ≠ some t from fun e => by have := Option.some.inj e; omega)]
      exact hr t fun i hi h => by have := hdr i t hi h; omega

section
variable {W w : World} {b : Nat} {L : List T} {m : Int} {v : Value} {n : Nat} {ks : List Int} {Rs : List Res}

theorem Hd.row_ks (h : Hd W w (RowR 3 1 v n (nums .i64 ks) :: Rs)) : ∃ ad cap, v = .slice ad n cap ∧ n = ks.length ∧ n ≤ maxLen ∧ KsIn w ad ks := by
  have hlen : n = ks.length := by
    have := h.owns.1
    simp [nums] at this
    omega
  obtain ⟨hl, ⟨rfl, rfl⟩ | ⟨g, cap, cur, rfl, _, hc, h3, h4, h5, h6⟩⟩ := h.owns
  · refine ⟨_, _, rfl, hlen, Nat.zero_le _, fun i z hi => ?_⟩
    have : ks = [] := List.eq_nil_of_length_eq_zero (by omega)
    rw [this] at hi
    simp at hi
  · refine ⟨_, _, rfl, hlen, by omega, fun i z hi => ⟨g, 0, rfl, ?_⟩⟩
    rw [cell_of_heap hc, Nat.zero_add, ← Array.getElem?_toList]
    refine get_of_take h6 ?_
    simp [nums, hi]

/-- ALL, of a list of the call's own. -/
theorem all_c (dh kem : Bool) (ad : Option Addr) (cap : Nat) (hin : ∀ x ∈ ks, 1 ≤ x ∧ x ≤ L.length) (h : Hd W w (Sto b L m :: RowR 3 1 (.slice ad n cap) n (nums .i64 ks) :: Rs)) :
    Calls Try.prog 40 #[.pointer (some ⟨b, 0, none⟩), .slice ad n cap, .agg #[.bool dh, .bool kem]] w fun e w' => ∃ u, e = .returned (.tuple #[u, .int .i64 0]) ∧
      Hd W w' (RowR 3 1 u (allOf L dh kem (fun x => x ∈ ks)).length (nums .i64 (allOf L dh kem (fun x => x ∈ ks))) :: Sto b L m :: RowR 3 1 (.slice ad n cap) n (nums .i64 ks) :: Rs) := by
  obtain ⟨lb, db, mb, lc, dc, hs⟩ := h.sto
  obtain ⟨ad', cap', e, hn, hmax, hk⟩ := h.drop.row_ks
  simp only [Value.slice.injEq, true_and] at e
  obtain ⟨rfl, rfl⟩ := e
  refine (know_all dh kem ad n cap ks hn hmax hk hs).mono ?_
  rintro e w' (⟨_, u, rfl, hd⟩ | ⟨hno, _⟩)
  · exact ⟨u, rfl, h.join hd⟩
  · exact absurd hin hno

/-- CAN, of a list of the call's own. -/
theorem can_c (dh kem : Bool) (x : Int) (ad : Option Addr) (cap : Nat) (hin : ∀ x ∈ ks, 1 ≤ x ∧ x ≤ L.length) (hx : 1 ≤ x ∧ x ≤ L.length) (h : Hd W w (Sto b L m :: RowR 3 1 (.slice ad n cap) n (nums .i64 ks) :: Rs)) :
    Calls Try.prog 42 #[.pointer (some ⟨b, 0, none⟩), .slice ad n cap, .agg #[.bool dh, .bool kem], .int .i64 x] w fun e w' => ∃ p : Bool, e = .returned (.tuple #[.bool p, .int .i64 0]) ∧ (p = true ↔ Der L dh kem (fun x => x ∈ ks) x) ∧
      Hd W w' (Sto b L m :: RowR 3 1 (.slice ad n cap) n (nums .i64 ks) :: Rs) := by
  obtain ⟨lb, db, mb, lc, dc, hs⟩ := h.sto
  obtain ⟨ad', cap', e, hn, hmax, hk⟩ := h.drop.row_ks
  simp only [Value.slice.injEq, true_and] at e
  obtain ⟨rfl, rfl⟩ := e
  refine (know_can dh kem ad n cap ks x hn hmax hk hs).mono ?_
  rintro e w' ⟨hb, (⟨_, _, rfl⟩ | ⟨_, hno, _⟩ | ⟨hno, _⟩)⟩
  · exact ⟨_, rfl, by simp, h.still hb⟩
  · exact absurd hx hno
  · exact absurd hin hno
theorem can_no (dh kem : Bool) (x : Int) (ad : Option Addr) (cap : Nat) (hin : ∀ x ∈ ks, 1 ≤ x ∧ x ≤ L.length) (hx : ¬ (1 ≤ x ∧ x ≤ L.length)) (h : Hd W w (Sto b L m :: RowR 3 1 (.slice ad n cap) n (nums .i64 ks) :: Rs)) :
    Calls Try.prog 42 #[.pointer (some ⟨b, 0, none⟩), .slice ad n cap, .agg #[.bool dh, .bool kem], .int .i64 x] w fun e w' => e = .returned (.tuple #[.bool false, .int .i64 5]) ∧ Hd W w' (Sto b L m :: RowR 3 1 (.slice ad n cap) n (nums .i64 ks) :: Rs) := by
  obtain ⟨lb, db, mb, lc, dc, hs⟩ := h.sto
  obtain ⟨ad', cap', e, hn, hmax, hk⟩ := h.drop.row_ks
  simp only [Value.slice.injEq, true_and] at e
  obtain ⟨rfl, rfl⟩ := e
  refine (know_can dh kem ad n cap ks x hn hmax hk hs).mono ?_
  rintro e w' ⟨hb, (⟨_, hx2, _⟩ | ⟨_, _, rfl⟩ | ⟨hno, _⟩)⟩
  · exact absurd hx2 hx
  · exact ⟨rfl, h.still hb⟩
  · exact absurd hin hno
end
end Go.Proofs.Ytbaliaodioflfaa
