/-
  (*term.Store).Put: the statement in which both rows grow, whatever order its operations come in. For every store.
-/
import Derived.Test.YtpcfmafokkffgaaRow
import Derived.Test.YtpcfmafokkffgaaInv
namespace Go.Proofs.Ytpcfmafokkffgaa
open Go.RowKit

/-- The region's operations: what each writes, does, and waits for. -/
def core15 : List (Option Tmp × Op × Option (Nat × Bool)) := [
  (some 56, .move (.tmp 0), none),
  (some 57, .move (.tmp 0), none),
  (some 58, .move (.tmp 0), none),
  (some 59, .nilCheck (.tmp 58), none),
  (some 60, .fieldAddr 118 (.tmp 59) 0, none),
  (some 61, .load 22 (.tmp 60), none),
  (some 62, .load 47 (.tmp 3), none),
  (some 63, .buildSlice 22 1 #[(0, .tmp 62)], none),
  (some 64, .call { callee := .builtin .append, args := #[.tmp 61, .tmp 63], argTypes := #[22, 22] }, none),
  (some 65, .move (.tmp 0), none),
  (some 66, .nilCheck (.tmp 65), none),
  (some 67, .fieldAddr 118 (.tmp 66) 1, none),
  (some 68, .load 33 (.tmp 67), none),
  (some 69, .move (.tmp 8), none),
  (some 70, .binOp .add 3 (.tmp 69) (.const (.int .i64 1)) 3, none),
  (some 71, .buildSlice 33 1 #[(0, .tmp 70)], none),
  (some 72, .call { callee := .builtin .append, args := #[.tmp 68, .tmp 71], argTypes := #[33, 33] }, none),
  (some 73, .nilCheck (.tmp 56), none),
  (some 74, .fieldAddr 118 (.tmp 73) 0, none),
  (none, .store 22 (.tmp 74) (.tmp 64), none),
  (some 75, .nilCheck (.tmp 57), none),
  (some 76, .fieldAddr 118 (.tmp 75) 1, none),
  (none, .store 33 (.tmp 76) (.tmp 72), none)]
def deps15 : List (List Nat) := [[], [], [], [2], [3], [4], [], [6], [5, 7], [], [9], [10], [11], [], [13], [14], [12, 15, 8], [0, 0, 2, 3, 4, 5, 6, 7, 8, 12, 16], [17, 0, 2, 3, 4, 5, 6, 7, 8, 12, 16], [18, 8, 16, 0, 2, 3, 4, 5, 6, 7, 8, 12, 16], [1, 0, 1, 2, 3, 4, 5, 6, 7, 8, 9, 10, 11, 12, 13, 14, 15, 16, 17, 18, 19], [20, 0, 1, 2, 3, 4, 5, 6, 7, 8, 9, 10, 11, 12, 13, 14, 15, 16, 17, 18, 19], [21, 16, 19, 0, 1, 2, 3, 4, 5, 6, 7, 8, 9, 10, 11, 12, 13, 14, 15, 16, 17, 18, 19]]

theorem ready_dep {ops : Array Oper} (hd : ops.toList.map (fun o => (o.after.toList.filter (Region.binds .any)).map (·.on)) = deps15) {listed : Array Bool} {i : Nat} (d : Nat) (hi : i ∈ Region.ready .any ops listed) (h : d ∈ deps15.getD i []) : listed.getD d false = true := by
  obtain ⟨_, o, ho, hall⟩ := mem_ready.1 hi
  have h1 : deps15[i]? = some ((o.after.toList.filter (Region.binds .any)).map (·.on)) := by
    rw [← hd, List.getElem?_map, Array.getElem?_toList, ho]; rfl
  simp only [List.getD, h1, Option.getD_some, List.mem_map, List.mem_filter] at h
  obtain ⟨e, ⟨he, hb⟩, rfl⟩ := h
  exact hall e (by simpa using he) hb

theorem op_core {ops : Array Oper} (hc : ops.toList.map (fun o => (o.dst, o.op, o.guard)) = core15) {i : Nat} {o : Oper} (ho : ops[i]? = some o) : core15[i]? = some (o.dst, o.op, o.guard) := by
  rw [← hc, List.getElem?_map, Array.getElem?_toList, ho]; rfl

theorem eval_put_same {a : Act} {d : Nat} {v : Value} (h : d < a.tmps.size) : (a.put (some d) v).eval (.tmp d) = v := by
  simp [Act.put, Act.eval, h]
theorem eval_put_ne {a : Act} {d : Option Nat} {t : Nat} {v : Value} (h : d ≠ some t) : (a.put d v).eval (.tmp t) = a.eval (.tmp t) := by
  cases d with
  | none => rfl
  | some d =>
    have hne : d ≠ t := fun e => h (by rw [e])
    simp [Act.put, Act.eval, Array.getElem?_setIfInBounds_ne hne]
theorem size_put (a : Act) (d : Option Nat) (v : Value) : (a.put d v).tmps.size = a.tmps.size := by
  cases d <;> simp [Act.put]
theorem defers_put (a : Act) (d : Option Nat) (v : Value) : (a.put d v).defers = a.defers := by
  cases d <;> rfl

theorem own_keep {w w' : World} {base : Nat} {e : TypeId} {size : Nat} {v : Value} {n : Nat} {xs : List Value} (h : w.ownsRow base e size v n xs) (hk : ∀ g, v.ownBlock = some g → w'.heap[g]? = w.heap[g]?) : w'.ownsRow base e size v n xs := by
  refine ⟨h.1, ?_⟩
  rcases h.2 with h2 | ⟨g, cap, cur, hv, hb, hg, r⟩
  · exact .inl h2
  · exact .inr ⟨g, cap, cur, hv, hb, by rw [hk g (by rw [hv]; rfl)]; exact hg, r⟩

def dst15 (i : Nat) : Option Nat := if i ≤ 18 then some (56 + i) else if i = 20 then some 75 else if i = 21 then some 76 else none
theorem dst15_inj {i j d : Nat} (h1 : dst15 i = some d) (h2 : dst15 j = some d) : i = j := by
  unfold dst15 at h1 h2
  repeat' split at h1
  all_goals repeat' split at h2
  all_goals simp at h1 h2
  all_goals omega
theorem dst15_range {i d : Nat} (h : dst15 i = some d) : 56 ≤ d ∧ d ≤ 76 := by
  unfold dst15 at h
  repeat' split at h
  all_goals simp at h
  all_goals omega

/-- What each operation yields. -/
def val15 (b : Nat) (sl sd tv : Value) (d : Int) (x1 x2 : Nat) (v1 v2 : Value) (i : Nat) : Value :=
  if i = 11 ∨ i = 21 then .pointer (some ⟨b, 1, none⟩) else if i = 5 then sl else if i = 6 then tv else if i = 7 then .slice (some ⟨x1, 0, none⟩) 1 1 else if i = 8 then v1 else if i = 12 then sd
  else if i = 13 then .int .i64 d else if i = 14 then .int .i64 (d + 1) else if i = 15 then .slice (some ⟨x2, 0, none⟩) 1 1 else if i = 16 then v2 else .pointer (some ⟨b, 0, none⟩)

/-- What has been yielded stands in its slot; the other slots are as they were. -/
structure Slots (a0 : Act) (val : Nat → Value) (listed : Array Bool) (a : Act) : Prop where
  size : a.tmps.size = a0.tmps.size
  defers : a.defers = a0.defers
  rest : ∀ t : Nat, (t < 56 ∨ 76 < t) → a.eval (.tmp t) = a0.eval (.tmp t)
  has : ∀ i d, listed.getD i false = true → dst15 i = some d → a.eval (.tmp d) = val i

theorem getD_set {listed : Array Bool} {i j : Nat} (h : (listed.setIfInBounds i true).getD j false = true) : j = i ∨ listed.getD j false = true := by
  by_cases e : i = j
  · exact .inl e.symm
  · right
    simpa [Array.getElem?_setIfInBounds_ne e] using h

theorem Slots.step {a0 a : Act} {val val' : Nat → Value} {listed : Array Bool} {o : Oper} {i : Nat} {v : Value} (h : Slots a0 val listed a) (hs : 76 < a0.tmps.size) (hd : o.dst = dst15 i) (hv : dst15 i = none ∨ v = val' i)
    (hval : ∀ j, j ≠ i → listed.getD j false = true → val' j = val j) : Slots a0 val' (listed.setIfInBounds i true) (a.put o.dst v) := by
  refine ⟨(size_put _ _ _).trans h.size, (defers_put _ _ _).trans h.defers, fun t ht => ?_, fun j d hj hjd => ?_⟩
  · rw [eval_put_ne]
    · exact h.rest t ht
    · rw [hd]; intro e; have := dst15_range e; omega
  · by_cases e : j = i
    · subst e
      rw [hd, hjd, eval_put_same (by rw [h.size]; have := dst15_range hjd; omega)]
      rcases hv with hv | hv
      · rw [hv] at hjd; cases hjd
      · exact hv
    · have hl : listed.getD j false = true := (getD_set hj).resolve_left e
      rw [eval_put_ne (by rw [hd]; intro e'; exact e (dst15_inj hjd e'))]
      rw [hval j e hl]
      exact h.has j d hl hjd

section
variable {P : Program} {o : Oper} {a : Act} {w : World} {K : Act → World → Prop} {Q : Exit → Act → World → Prop}
theorem wp_of_run {v : Value} {w' : World} (h : (execOp a.eval o).run P w = .ok (.value v) w') (hk : K (a.put o.dst v) w') : o.wp P a w K Q := by
  unfold Oper.wp; rw [h]; exact hk
theorem wp_of_skip {w' : World} (h : (execOp a.eval o).run P w = .ok .skip w') (hk : K (a.put o.dst undef) w') : o.wp P a w K Q := by
  unfold Oper.wp; rw [h]; exact hk
end

theorem exec_move {ρ : Operand → Value} {o : Oper} {x : Operand} (ho : o.op = .move x) (P : Program) (w : World) : (execOp ρ o).run P w = .ok (.value (ρ x)) w := by
  simp [execOp, ho, go_sem]
theorem exec_nil {ρ : Operand → Value} {o : Oper} {x : Operand} {p : Addr} (ho : o.op = .nilCheck x) (hx : ρ x = .pointer (some p)) (P : Program) (w : World) : (execOp ρ o).run P w = .ok (.value (.pointer (some p))) w := by
  simp [execOp, ho, hx, go_sem]
theorem exec_fa0 {ρ : Operand → Value} {o : Oper} {x : Operand} {b : Nat} (ho : o.op = .fieldAddr 118 x 0) (hx : ρ x = .pointer (some ⟨b, 0, none⟩)) (w : World) : (execOp ρ o).run Try.prog w = .ok (.value (.pointer (some ⟨b, 0, none⟩))) w := by
  simp [execOp, ho, hx, go_sem]
theorem exec_fa1 {ρ : Operand → Value} {o : Oper} {x : Operand} {b : Nat} (ho : o.op = .fieldAddr 118 x 1) (hx : ρ x = .pointer (some ⟨b, 0, none⟩)) (w : World) : (execOp ρ o).run Try.prog w = .ok (.value (.pointer (some ⟨b, 1, none⟩))) w := by
  simp [execOp, ho, hx, go_sem]
theorem exec_load_l {ρ : Operand → Value} {o : Oper} {x : Operand} {p : Addr} {v : Value} {w : World} (ho : o.op = .load 22 x) (hx : ρ x = .pointer (some p)) (hc : w.cell? p = some v) : (execOp ρ o).run Try.prog w = .ok (.value v) w := by
  simp [execOp, ho, hx, hc, go_sem]
theorem exec_load_d {ρ : Operand → Value} {o : Oper} {x : Operand} {p : Addr} {v : Value} {w : World} (ho : o.op = .load 33 x) (hx : ρ x = .pointer (some p)) (hc : w.cell? p = some v) : (execOp ρ o).run Try.prog w = .ok (.value v) w := by
  simp [execOp, ho, hx, hc, go_sem]
theorem exec_load_t {ρ : Operand → Value} {o : Oper} {x : Operand} {B : Nat} {t : T} {w : World} (ho : o.op = .load 47 x) (hx : ρ x = .pointer (some ⟨B, 0, none⟩)) (hc : w.heap[B]? = some (.cells (T.cells t).toArray 47 (0, 0))) :
    (execOp ρ o).run Try.prog w = .ok (.value (T.val t)) w := by
  have c0 : w.cell? ⟨B, 0, none⟩ = some (.int .i64 t.k) := by rw [cell_of_heap hc]; rfl
  have c1 : w.cell? ⟨B, 1, none⟩ = some (.string t.s) := by rw [cell_of_heap hc]; rfl
  have c2 : w.cell? ⟨B, 2, none⟩ = some (.int .u64 t.n) := by rw [cell_of_heap hc]; rfl
  have c3 : w.cell? ⟨B, 3, none⟩ = some (.int .i64 t.a) := by rw [cell_of_heap hc]; rfl
  have c4 : w.cell? ⟨B, 4, none⟩ = some (.int .i64 t.b) := by rw [cell_of_heap hc]; rfl
  have c5 : w.cell? ⟨B, 5, none⟩ = some (.int .i64 t.c) := by rw [cell_of_heap hc]; rfl
  simp [execOp, ho, hx, c0, c1, c2, c3, c4, c5, go_sem, T.val]
theorem exec_build_t {ρ : Operand → Value} {o : Oper} {x : Operand} {t : T} {w : World} (ho : o.op = .buildSlice 22 1 #[(0, x)]) (hx : ρ x = T.val t) :
    (execOp ρ o).run Try.prog w = .ok (.value (.slice (some ⟨w.heap.size, 0, none⟩) 1 1)) (w.alloc (.cells (T.cells t).toArray 47)) := by
  simp [execOp, ho, hx, go_sem, T.val, T.cells]
theorem exec_build_d {ρ : Operand → Value} {o : Oper} {x : Operand} {d : Int} {w : World} (ho : o.op = .buildSlice 33 1 #[(0, x)]) (hx : ρ x = .int .i64 d) :
    (execOp ρ o).run Try.prog w = .ok (.value (.slice (some ⟨w.heap.size, 0, none⟩) 1 1)) (w.alloc (.cells #[.int .i64 d] 3)) := by
  simp [execOp, ho, hx, go_sem]
theorem exec_add1 {ρ : Operand → Value} {o : Oper} {x : Operand} {d : Int} {w : World} (ho : o.op = .binOp .add 3 x (.const (.int .i64 1)) 3) (hx : ρ x = .int .i64 d) (hc : ρ (.const (.int .i64 1)) = .int .i64 1) (h0 : 0 ≤ d) (h1 : d ≤ 1048577) :
    (execOp ρ o).run Try.prog w = .ok (.value (.int .i64 (d + 1))) w := by
  have hw : IntKind.i64.wrap (d + 1) = d + 1 := IntWalk.i64_in _ (by omega)
  simp [execOp, ho, hx, hc, go_sem]
  first | exact hw | omega | (rw [wrap64]; omega)
theorem exec_store_l {ρ : Operand → Value} {o : Oper} {x y : Operand} {p : Addr} {u : Value} {g n c : Nat} {w : World} (ho : o.op = .store 22 x y) (hx : ρ x = .pointer (some p)) (hy : ρ y = .slice (some ⟨g, 0, none⟩) n c) (hc : w.cell? p = some u) (hf : w.frozen? p = false) :
    (execOp ρ o).run Try.prog w = .ok .skip (w.setCell p (.slice (some ⟨g, 0, none⟩) n c)) := by
  simp [execOp, ho, hx, hy, hc, hf, go_sem]
theorem exec_store_d {ρ : Operand → Value} {o : Oper} {x y : Operand} {p : Addr} {u : Value} {g n c : Nat} {w : World} (ho : o.op = .store 33 x y) (hx : ρ x = .pointer (some p)) (hy : ρ y = .slice (some ⟨g, 0, none⟩) n c) (hc : w.cell? p = some u) (hf : w.frozen? p = false) :
    (execOp ρ o).run Try.prog w = .ok .skip (w.setCell p (.slice (some ⟨g, 0, none⟩) n c)) := by
  simp [execOp, ho, hx, hy, hc, hf, go_sem]
end Go.Proofs.Ytpcfmafokkffgaa
