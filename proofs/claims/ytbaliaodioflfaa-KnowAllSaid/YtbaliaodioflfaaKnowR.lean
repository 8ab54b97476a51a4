/-
  What one can make at once: the statement that makes a mind's rows, whatever order its operations come in. For every number of names.
-/
import Derived.Test.YtbaliaodioflfaaKnowA
import Derived.Laws.MakeOwn
namespace Go.Proofs.Ytbaliaodioflfaa
open Go.RowKit

def coreM : List (Option Nat × Op) := [
  (some 18, .move (.tmp 8)), (some 19, .makeSlice 22 (.tmp 18) (.tmp 18)), (some 20, .move (.tmp 8)), (some 21, .makeSlice 141 (.tmp 20) (.tmp 20)),
  (some 22, .move (.tmp 8)), (some 23, .makeSlice 60 (.tmp 22) (.tmp 22)), (some 24, .move (.tmp 8)), (some 25, .makeSlice 60 (.tmp 24) (.tmp 24)),
  (some 26, .makeMap 142 none), (some 27, .load 62 (.tmp 5)), (some 28, .build 144 #[(0, .tmp 19), (1, .tmp 21), (2, .tmp 23), (3, .tmp 25), (4, .tmp 26), (5, .tmp 27)]),
  (some 29, .box 144 (.tmp 28)), (some 9, .assign (.tmp 29))]
def needM : Nat → List Nat
  | 1 => [0] | 3 => [2] | 5 => [4] | 7 => [6] | 10 => [1, 3, 5, 7, 8, 9] | 11 => [10] | 12 => [11] | _ => []
def usesM : Nat → List Nat
  | 1 => [1] | 3 => [3] | 5 => [5] | 7 => [7] | 8 => [8] | 10 => [1, 3, 5, 7, 8] | 11 => [11, 1, 3, 5, 7, 8] | 12 => [11, 1, 3, 5, 7, 8] | _ => []
def valM (N : Nat) (dh kem : Bool) (g : Nat → Nat) : Nat → Value
  | 1 => .slice (some ⟨g 1, 0, none⟩) N N
  | 3 => .slice (some ⟨g 3, 0, none⟩) N N
  | 5 => .slice (some ⟨g 5, 0, none⟩) N N
  | 7 => .slice (some ⟨g 7, 0, none⟩) N N
  | 8 => .map (some (g 8))
  | 9 => .agg #[.bool dh, .bool kem]
  | 10 => .agg #[.slice (some ⟨g 1, 0, none⟩) N N, .slice (some ⟨g 3, 0, none⟩) N N, .slice (some ⟨g 5, 0, none⟩) N N, .slice (some ⟨g 7, 0, none⟩) N N, .map (some (g 8)), .bool dh, .bool kem]
  | 11 => .pointer (some ⟨g 11, 0, none⟩)
  | 12 => .pointer (some ⟨g 11, 0, none⟩)
  | _ => .int .i64 N
def resM (N : Nat) (dh kem : Bool) (g : Nat → Nat) : Nat → List Res
  | 1 => [Blk (g 1) (.cells (cellsOf (List.replicate N zeroT)).toArray 76 (0, 0))]
  | 3 => [Blk (g 3) (.cells (bools (List.replicate N false)).toArray 4 (0, 0))]
  | 5 => [Blk (g 5) (.cells (ints (List.replicate N 0)).toArray 3 (0, 0))]
  | 7 => [Blk (g 7) (.cells (ints (List.replicate N 0)).toArray 3 (0, 0))]
  | 8 => [Blk (g 8) (.map #[] 0)]
  | 11 => [Blk (g 11) (mindHead (g 1) (g 3) (g 5) (g 7) (g 8) N dh kem)]
  | _ => []

theorem valM_of {N : Nat} {dh kem : Bool} (i : Nat) (g g' : Nat → Nat) (h : ∀ k ∈ usesM i, g k = g' k) : valM N dh kem g i = valM N dh kem g' i ∧ resM N dh kem g i = resM N dh kem g' i := by
  match i with
  | 0 | 2 | 4 | 6 | 9 => exact ⟨rfl, rfl⟩
  | 1 => simp [usesM] at h; simp [valM, resM, h]
  | 3 => simp [usesM] at h; simp [valM, resM, h]
  | 5 => simp [usesM] at h; simp [valM, resM, h]
  | 7 => simp [usesM] at h; simp [valM, resM, h]
  | 8 => simp [usesM] at h; simp [valM, resM, h]
  | 10 => simp [usesM] at h; simp [valM, resM, h]
  | 11 => simp [usesM] at h; simp [valM, resM, h]
  | 12 => simp [usesM] at h; simp [valM, resM, h]
  | n + 13 => exact ⟨rfl, rfl⟩

theorem made_one (v : Value) (N : Nat) : madeCells #[v] (N * 1) = (List.replicate N v).toArray := by
  apply Array.ext
  · simp [madeCells]
  · intro i h1 h2
    simp [madeCells, Nat.mod_one]
theorem made_six (N : Nat) : madeCells (T.cells zeroT).toArray (N * 6) = (cellsOf (List.replicate N zeroT)).toArray := by
  have hz : ∀ (N i : Nat), i < N * 6 → (cellsOf (List.replicate N zeroT))[i]? = (T.cells zeroT)[i % 6]? := by
    intro N
    induction N with
    | zero => intro i h; omega
    | succ N ih =>
      intro i h
      simp only [List.replicate_succ, cellsOf, List.flatMap_cons]
      by_cases hi : i < 6
      · rw [List.getElem?_append_left (by simpa [T.cells] using hi), Nat.mod_eq_of_lt hi]
      · rw [List.getElem?_append_right (by simp [T.cells]; omega)]
        have := ih (i - 6) (by omega)
        rw [cellsOf] at this
        have e : (i - 6) % 6 = i % 6 := by omega
        rw [e] at this
        simpa [T.cells] using this
  apply Array.ext
  · simp [madeCells, cellsOf_length]
  · intro i h1 h2
    have hi : i < N * 6 := by simpa [madeCells] using h1
    have h3 := hz N i hi
    have h6 : i % 6 < 6 := Nat.mod_lt _ (by decide)
    have h7 : (T.cells zeroT)[i % 6]? = some ((T.cells zeroT)[i % 6]'(by simpa [T.cells] using h6)) := List.getElem?_eq_getElem _
    rw [h7, List.getElem?_eq_getElem (by rw [cellsOf_length]; simp; omega), Option.some.injEq] at h3
    simp only [madeCells, Array.getElem_map, Array.getElem_range, List.getElem_toArray]
    rw [h3]
    exact getElem!_pos (T.cells zeroT).toArray (i % 6) (by simpa [T.cells] using h6)

section
variable {ρ : Operand → Value} {o : Oper} {w : World}
theorem exec_makeSlice {t : TypeId} {x : Operand} {n : Int} {v : Value} {w' : World} (ho : o.op = .makeSlice t x x) (hx : ρ x = .int .i64 n) (hr : (Instr.makeSlice t (.int .i64 n) (.int .i64 n)).run Try.prog w = .ok v w') : (execOp ρ o).run Try.prog w = .ok (.value v) w' := by
  simp [execOp, ho, hx, hr, go_sem]
theorem exec_makeMap {t : TypeId} (ho : o.op = .makeMap t none) : (execOp ρ o).run Try.prog w = .ok (.value (.map (some w.heap.size))) (w.alloc (.map #[] 0)) := by
  simp [execOp, ho, go_sem, run_makeMap]
theorem exec_load_f {x : Operand} {B : Nat} {dh kem : Bool} (ho : o.op = .load 62 x) (hx : ρ x = .pointer (some ⟨B, 0, none⟩)) (h0 : w.cell? ⟨B, 0, none⟩ = some (.bool dh)) (h1 : w.cell? ⟨B, 1, none⟩ = some (.bool kem)) :
    (execOp ρ o).run Try.prog w = .ok (.value (.agg #[.bool dh, .bool kem])) w := by
  simp [execOp, ho, hx, h0, h1, go_sem]
theorem exec_build_m {x0 x1 x2 x3 x4 x5 : Operand} {l c p k : Nat} {mb N : Nat} {dh kem : Bool} (ho : o.op = .build 144 #[(0, x0), (1, x1), (2, x2), (3, x3), (4, x4), (5, x5)]) (h0 : ρ x0 = .slice (some ⟨l, 0, none⟩) N N) (h1 : ρ x1 = .slice (some ⟨c, 0, none⟩) N N)
    (h2 : ρ x2 = .slice (some ⟨p, 0, none⟩) N N) (h3 : ρ x3 = .slice (some ⟨k, 0, none⟩) N N) (h4 : ρ x4 = .map (some mb)) (h5 : ρ x5 = .agg #[.bool dh, .bool kem]) :
    (execOp ρ o).run Try.prog w = .ok (.value (.agg #[.slice (some ⟨l, 0, none⟩) N N, .slice (some ⟨c, 0, none⟩) N N, .slice (some ⟨p, 0, none⟩) N N, .slice (some ⟨k, 0, none⟩) N N, .map (some mb), .bool dh, .bool kem])) w := by
  simp [execOp, ho, h0, h1, h2, h3, h4, h5, go_sem]
theorem exec_box_m {x : Operand} {l c p k : Nat} {mb N : Nat} {dh kem : Bool} (ho : o.op = .box 144 x) (hx : ρ x = .agg #[.slice (some ⟨l, 0, none⟩) N N, .slice (some ⟨c, 0, none⟩) N N, .slice (some ⟨p, 0, none⟩) N N, .slice (some ⟨k, 0, none⟩) N N, .map (some mb), .bool dh, .bool kem]) :
    (execOp ρ o).run Try.prog w = .ok (.value (.pointer (some ⟨w.heap.size, 0, none⟩))) (w.alloc (mindHead l c p k mb N dh kem)) := by
  simp [execOp, ho, hx, go_sem, mindHead]
theorem exec_assign {x : Operand} (ho : o.op = .assign x) (P : Program) : (execOp ρ o).run P w = .ok (.value (ρ x)) w := by
  simp [execOp, ho, go_sem]
end

theorem make_T (N : Nat) (hN : N ≤ 1048577) (w : World) : (Instr.makeSlice 22 (.int .i64 (N : Int)) (.int .i64 (N : Int))).run Try.prog w = .ok (.slice (some ⟨w.heap.size, 0, none⟩) N N) (w.alloc (.cells (cellsOf (List.replicate N zeroT)).toArray 76 (0, 0))) := by
  obtain ⟨i, hi, hz, hs, hb⟩ := info_parts (show (Try.prog.info? 76).map (fun i => (i.zero, i.size, i.bytes)) = some (some (T.val zeroT), 6, 56) by kernel_rfl)
  have := run_make (P := Try.prog) w 22 76 i _ (by kernel_rfl) hi hz .i64 .i64 N N (by omega) (by omega) (by rw [hb]; omega) (by omega)
  rw [hs] at this
  simpa [made_six, T.val, Value.cells, T.cells, ← made_six] using this
theorem make_B (N : Nat) (hN : N ≤ 1048577) (w : World) : (Instr.makeSlice 141 (.int .i64 (N : Int)) (.int .i64 (N : Int))).run Try.prog w = .ok (.slice (some ⟨w.heap.size, 0, none⟩) N N) (w.alloc (.cells (bools (List.replicate N false)).toArray 4 (0, 0))) := by
  obtain ⟨i, hi, hz, hs, hb⟩ := info_parts (show (Try.prog.info? 4).map (fun i => (i.zero, i.size, i.bytes)) = some (some (.bool false), 1, 1) by kernel_rfl)
  have := run_make (P := Try.prog) w 141 4 i _ (by kernel_rfl) hi hz .i64 .i64 N N (by omega) (by omega) (by rw [hb]; omega) (by omega)
  rw [hs, show (Value.bool false).cells = #[.bool false] from rfl, Int.toNat_natCast, made_one] at this
  simpa [bools] using this
theorem make_I (N : Nat) (hN : N ≤ 1048577) (w : World) : (Instr.makeSlice 60 (.int .i64 (N : Int)) (.int .i64 (N : Int))).run Try.prog w = .ok (.slice (some ⟨w.heap.size, 0, none⟩) N N) (w.alloc (.cells (ints (List.replicate N 0)).toArray 3 (0, 0))) := by
  obtain ⟨i, hi, hz, hs, hb⟩ := info_parts (show (Try.prog.info? 3).map (fun i => (i.zero, i.size, i.bytes)) = some (some (.int .i64 0), 1, 8) by kernel_rfl)
  have := run_make (P := Try.prog) w 60 3 i _ (by kernel_rfl) hi hz .i64 .i64 N N (by omega) (by omega) (by rw [hb]; omega) (by omega)
  rw [hs, show (Value.int .i64 0).cells = #[.int .i64 0] from rfl, Int.toNat_natCast, made_one] at this
  simpa [ints] using this

theorem hd_alloc {W w : World} {o : Obj} {k : Nat} (hk : k = w.heap.size) : ∀ Ss, Hd W w Ss → Hd W (w.alloc o) ([Blk k o] ++ Ss) := fun Ss h => by subst hk; exact h.box o

set_option maxHeartbeats 2000000 in
/-- The mind's rows are made. -/
theorem begin_made {ops : Array Oper} {Q : Exit → Act → World → Prop} {id : Nat} {a0 : Act} {w0 W : World} {Rs : List Res} {N B : Nat} {dh kem : Bool} (hcore : ops.toList.map (fun o => (o.dst, o.op)) = coreM) (hc : checkOps ops needM usesM = true) (hsz : 30 ≤ a0.tmps.size) (hN : N ≤ 1048577)
    (e8 : a0.eval (.tmp 8) = .int .i64 N) (e5 : a0.eval (.tmp 5) = .pointer (some ⟨B, 0, none⟩)) (c0 : w0.cell? ⟨B, 0, none⟩ = some (.bool dh)) (c1 : w0.cell? ⟨B, 1, none⟩ = some (.bool kem)) (h0 : Hd W w0 Rs)
    (done : ∀ (f : Nat → Value) (w : World) (g : Nat → Nat), Below w0.heap.size w0 w → f 9 = .pointer (some ⟨g 11, 0, none⟩) →
      Hd W w (Blk (g 1) (.cells (cellsOf (List.replicate N zeroT)).toArray 76 (0, 0)) :: Blk (g 3) (.cells (bools (List.replicate N false)).toArray 4 (0, 0)) :: Blk (g 5) (.cells (ints (List.replicate N 0)).toArray 3 (0, 0)) :: Blk (g 7) (.cells (ints (List.replicate N 0)).toArray 3 (0, 0)) ::
        Blk (g 8) (.map #[] 0) :: Blk (g 11) (mindHead (g 1) (g 3) (g 5) (g 7) (g 8) N dh kem) :: Rs) →
      Q .normal { tmps := (patchG (fun i => i == 9 || (decide (18 ≤ i) && decide (i ≤ 29))) f 0 a0.tmps.toList).toArray, defers := a0.defers } w) : (Code.region id ops true).wp Try.prog Q a0 w0 := by
  have hsize : ops.size = 13 := by
    have := congrArg List.length hcore
    simpa [coreM] using this
  have hdst := dst_core hcore
  have hdr : ∀ i d, dstOf ops i = some d → d = 9 ∨ (18 ≤ d ∧ d ≤ 29) := by
    intro i d h
    rw [hdst] at h
    match i with
    | 0 | 1 | 2 | 3 | 4 | 5 | 6 | 7 | 8 | 9 | 10 | 11 | 12 => simp [coreM] at h; omega
    | n + 13 => simp [coreM] at h
  have out8 : ∀ i, dstOf ops i ≠ some 8 := fun i h => by have := hdr i 8 h; omega
  have out5 : ∀ i, dstOf ops i ≠ some 5 := fun i h => by have := hdr i 5 h; omega
  refine wp_region_made (W := W) (Rs := Rs) needM usesM (valM N dh kem) (resM N dh kem) (by kernel_rfl) hc (fun i d h => by have := hdr i d h; omega) valM_of h0 ?_ ?_
  · intro i o ho a w g hin hrest hb K hK
    have hco := core_at hcore ho
    have E8 : a.eval (.tmp 8) = .int .i64 N := (hrest 8 out8).trans e8
    have E5 : a.eval (.tmp 5) = .pointer (some ⟨B, 0, none⟩) := (hrest 5 out5).trans e5
    have pure_ : ∀ v, v = valM N dh kem (upd g i (g i)) i → resM N dh kem (upd g i (g i)) i = [] → K (a.put o.dst v) w := fun v hv hr => hK (g i) v w (.inl hv) (Below.refl _ _) fun Ss h => by rw [hr]; exact h
    have same : ∀ j, upd g i (g i) j = g j := fun j => by unfold upd; split; (rename_i e; rw [e]); rfl
    have al : ∀ {ob : Obj}, Below w.heap.size w (w.alloc ob) := (Below.refl _ _).alloc (Nat.le_refl _) _
    have hlt : i < 13 := by rw [← hsize]; exact (Array.getElem?_eq_some_iff.1 ho).1
    match i, hlt with
    | 0, _ =>
      simp only [coreM, List.getElem?_cons_zero, Option.some.injEq, Prod.mk.injEq] at hco
      refine wp_of_run (exec_move hco.2.symm _ _) (pure_ _ E8 rfl)
    | 2, _ =>
      simp only [coreM, List.getElem?_cons_succ, List.getElem?_cons_zero, Option.some.injEq, Prod.mk.injEq] at hco
      refine wp_of_run (exec_move hco.2.symm _ _) (pure_ _ E8 rfl)
    | 4, _ =>
      simp only [coreM, List.getElem?_cons_succ, List.getElem?_cons_zero, Option.some.injEq, Prod.mk.injEq] at hco
      refine wp_of_run (exec_move hco.2.symm _ _) (pure_ _ E8 rfl)
    | 6, _ =>
      simp only [coreM, List.getElem?_cons_succ, List.getElem?_cons_zero, Option.some.injEq, Prod.mk.injEq] at hco
      refine wp_of_run (exec_move hco.2.symm _ _) (pure_ _ E8 rfl)
    | 1, _ =>
      simp only [coreM, List.getElem?_cons_succ, List.getElem?_cons_zero, Option.some.injEq, Prod.mk.injEq] at hco
      refine wp_of_run (exec_makeSlice hco.2.symm (hin 0 (by decide) 18 (by rw [hdst]; rfl)) (make_T N hN w)) ?_
      exact hK w.heap.size _ _ (.inl rfl) al (hd_alloc rfl)
    | 3, _ =>
      simp only [coreM, List.getElem?_cons_succ, List.getElem?_cons_zero, Option.some.injEq, Prod.mk.injEq] at hco
      refine wp_of_run (exec_makeSlice hco.2.symm (hin 2 (by decide) 20 (by rw [hdst]; rfl)) (make_B N hN w)) ?_
      exact hK w.heap.size _ _ (.inl rfl) al (hd_alloc rfl)
    | 5, _ =>
      simp only [coreM, List.getElem?_cons_succ, List.getElem?_cons_zero, Option.some.injEq, Prod.mk.injEq] at hco
      refine wp_of_run (exec_makeSlice hco.2.symm (hin 4 (by decide) 22 (by rw [hdst]; rfl)) (make_I N hN w)) ?_
      exact hK w.heap.size _ _ (.inl rfl) al (hd_alloc rfl)
    | 7, _ =>
      simp only [coreM, List.getElem?_cons_succ, List.getElem?_cons_zero, Option.some.injEq, Prod.mk.injEq] at hco
      refine wp_of_run (exec_makeSlice hco.2.symm (hin 6 (by decide) 24 (by rw [hdst]; rfl)) (make_I N hN w)) ?_
      exact hK w.heap.size _ _ (.inl rfl) al (hd_alloc rfl)
    | 8, _ =>
      simp only [coreM, List.getElem?_cons_succ, List.getElem?_cons_zero, Option.some.injEq, Prod.mk.injEq] at hco
      refine wp_of_run (exec_makeMap hco.2.symm) ?_
      exact hK w.heap.size _ _ (.inl rfl) al (hd_alloc rfl)
    | 9, _ =>
      simp only [coreM, List.getElem?_cons_succ, List.getElem?_cons_zero, Option.some.injEq, Prod.mk.injEq] at hco
      refine wp_of_run (exec_load_f hco.2.symm E5 ((hb.cell (p := ⟨B, 0, none⟩) (World.block_lt_of_cell? _ _ c0)).trans c0) ((hb.cell (p := ⟨B, 1, none⟩) (World.block_lt_of_cell? _ _ c1)).trans c1)) (pure_ _ rfl rfl)
    | 10, _ =>
      simp only [coreM, List.getElem?_cons_succ, List.getElem?_cons_zero, Option.some.injEq, Prod.mk.injEq] at hco
      refine wp_of_run (exec_build_m hco.2.symm (hin 1 (by decide) 19 (by rw [hdst]; rfl)) (hin 3 (by decide) 21 (by rw [hdst]; rfl)) (hin 5 (by decide) 23 (by rw [hdst]; rfl)) (hin 7 (by decide) 25 (by rw [hdst]; rfl)) (hin 8 (by decide) 26 (by rw [hdst]; rfl)) (hin 9 (by decide) 27 (by rw [hdst]; rfl))) (pure_ _ ?_ rfl)
      simp [valM, same]
    | 11, _ =>
      simp only [coreM, List.getElem?_cons_succ, List.getElem?_cons_zero, Option.some.injEq, Prod.mk.injEq] at hco
      refine wp_of_run (exec_box_m hco.2.symm (hin 10 (by decide) 28 (by rw [hdst]; rfl))) ?_
      exact hK w.heap.size _ _ (.inl rfl) al (hd_alloc rfl)
    | 12, _ =>
      simp only [coreM, List.getElem?_cons_succ, List.getElem?_cons_zero, Option.some.injEq, Prod.mk.injEq] at hco
      refine wp_of_run (exec_assign hco.2.symm _) (pure_ _ ?_ rfl)
      rw [hin 11 (by decide) 29 (by rw [hdst]; rfl)]
      simp [valM, same]
  · intro a w g hs hd hr hv hb hh
    rw [act_litG (fun i => i == 9 || (decide (18 ≤ i) && decide (i ≤ 29))) hs hd fun t ht => hr t fun i h => ?_]
    · refine done (fun i => a.eval (.tmp i)) w g hb (hv 12 9 (by rw [hdst]; rfl)) ?_
      rw [hsize] at hh
      exact hh
    · have := hdr i t h
      simp at ht
      omega
end Go.Proofs.Ytbaliaodioflfaa
