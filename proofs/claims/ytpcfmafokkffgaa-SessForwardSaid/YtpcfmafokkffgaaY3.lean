/-
  Walks and laws that the proof stands on, one behind another: ChainC Rel Hold HoldB ChainD ChainE ChainP ChainQ FixCh KnowN ChainR ChainU. For every input.
-/
import Derived.Test.YtpcfmafokkffgaaY2
import Derived.OrdersIn
import Derived.TacticsIn
import Derived.RangeFuncCalls
import Derived.RangeFuncRecord
import Derived.Laws.AppendOwnNone
namespace Go.Proofs.Ytpcfmafokkffgaa
open Go.RowKit Go.Shelf
attribute [local go_sem] Oper.semAt_some


section
variable {W w : World} {Xs : List Res} {b : Nat} {L : List T} {m : Int}

set_option maxRecDepth 100000 in
set_option maxHeartbeats 4000000 in
theorem all_in (nn : Nat) (l : Nat) (k e x : Int) (N : Nat) (hN : N ≤ 4) (hx : x - e = N) (cb sb xb eb : Nat) (J : List Int → Int → Int → List Res → Prop)
    (hY : ∀ (mm : Nat) (pre : List Int) (lk le x dk de : Int) (Js : List Res) (w : World) (Xs : List Res), pre.length < 4 → J pre lk le Js → Hd W w (Js ++ Xs) → YieldAt Fence.wide mm Try.prog l #[.int .i64 x, .agg #[.int .i64 dk, .int .i64 de]] w fun e w' => e = .returned (.bool true) ∧ ∃ Js', J (pre ++ [x]) dk de Js' ∧ Hd W w' (Js' ++ Xs)) (Js0 : List Res) (hJ0 : J [] k e Js0)
    (h : Hd W w (Sto b L m :: Blk eb (.cells #[.int .i64 0] 34 (0, 0)) :: Blk cb (.cells #[.int .i64 k, .int .i64 e] 32 (0, 0)) :: Blk sb (.cells #[.pointer (some ⟨b, 0, none⟩)] 25 (0, 0)) :: Blk xb (.cells #[.int .i64 x] 3 (0, 0)) :: (Js0 ++ Xs))) :
    CallsIn Fence.wide nn Try.prog 54 #[.func (.yield l) #[] #[], .pointer (some ⟨cb, 0, none⟩), .pointer (some ⟨sb, 0, none⟩), .pointer (some ⟨xb, 0, none⟩), .pointer (some ⟨eb, 0, none⟩)] w fun e' w' =>
      (∃ v, e' = .returned v) ∧ ∃ pre lk le Js, ((steps15 m N L k e).2.2.1 = 0 → pre = (steps15 m N L k e).1 ∧ (lk, le) = (steps15 m N L k e).2.1) ∧ J pre lk le Js ∧ Hd W w' (Sto b (steps15 m N L k e).2.2.2 m :: Blk eb (.cells #[.int .i64 (steps15 m N L k e).2.2.1] 34 (0, 0)) :: Blk cb (.cells #[.int .i64 k, .int .i64 e] 32 (0, 0)) :: Blk sb (.cells #[.pointer (some ⟨b, 0, none⟩)] 25 (0, 0)) :: Blk xb (.cells #[.int .i64 x] 3 (0, 0)) :: (Js ++ Xs)) := by
  have H := hid h
  clear h
  have HY := hid hY
  clear hY
  have HX := hid hx
  have hxw : IntKind.i64.wrap (x - e) = (N : Int) := by rw [IntWalk.i64_in _ (by omega)]; exact hx
  clear hx
  have hk := Hd.nthk 2 H.out rfl
  have c0 := (cell_of_heap hk 0).trans (show _ = some (.int .i64 k) from rfl)
  have c1 := (cell_of_heap hk 1).trans (show _ = some (.int .i64 e) from rfl)
  have cs := (Array.getElem?_eq_some_iff.1 hk).1
  clear hk
  have hk := Hd.nthk 3 H.out rfl
  have s0 := (cell_of_heap hk 0).trans (show _ = some (.pointer (some ⟨b, 0, none⟩)) from rfl)
  have ss := (Array.getElem?_eq_some_iff.1 hk).1
  clear hk
  have hk := Hd.nthk 4 H.out rfl
  have x0 := (cell_of_heap hk 0).trans (show _ = some (.int .i64 x) from rfl)
  have xs := (Array.getElem?_eq_some_iff.1 hk).1
  clear hk
  refine callsIn_of_wp Try.func54 rfl trivial ?_ rfl
  simp only [Try.ntmps54, List.size_toArray, List.length_cons, List.length_nil, Nat.reduceAdd, Nat.reduceSub, Array.replicate_succ, Array.replicate_zero, List.push_toArray, List.append_toArray, List.nil_append, List.cons_append]
  gi_wp2
  refine ⟨trivial, fun h => (by cases h), ?_⟩
  refine (callsIn_wide.2 (steps_calls k e N b H.out)).mono ?_
  rintro e' w2 ⟨c, rfl, hd⟩
  have H9 := hid hd
  clear c0 c1 cs s0 ss x0 xs hd H hxw
  have H := H9
  clear H9
  gi_wp2
  refine ⟨trivial, fun h => (by cases h), ?_⟩
  have H9 : Hid (Hd W w2 (Sto b L m :: Blk c (.cells #[.int .i64 k, .int .i64 e] 32 (0, 0)) :: Blk (c + 1) (.cells #[.pointer (some ⟨b, 0, none⟩)] 25 (0, 0)) :: Blk (c + 2) (.cells #[.int .i64 N] 3 (0, 0)) :: (Js0 ++ ([Blk eb (.cells #[.int .i64 0] 34 (0, 0)), Blk cb (.cells #[.int .i64 k, .int .i64 e] 32 (0, 0)), Blk sb (.cells #[.pointer (some ⟨b, 0, none⟩)] 25 (0, 0)), Blk xb (.cells #[.int .i64 x] 3 (0, 0))] ++ Xs)))) := hid (Hd.perm (List.Perm.append_left [Sto b L m, Blk c (.cells #[.int .i64 k, .int .i64 e] 32 (0, 0)), Blk (c + 1) (.cells #[.pointer (some ⟨b, 0, none⟩)] 25 (0, 0)), Blk (c + 2) (.cells #[.int .i64 N] 3 (0, 0))] (swap_mid (A := [Blk eb (.cells #[.int .i64 0] 34 (0, 0)), Blk cb (.cells #[.int .i64 k, .int .i64 e] 32 (0, 0)), Blk sb (.cells #[.pointer (some ⟨b, 0, none⟩)] 25 (0, 0)), Blk xb (.cells #[.int .i64 x] 3 (0, 0))]))) (((((H.out.front 0 rfl).front 1 rfl).front 2 rfl).front 3 rfl)))
  clear H
  refine (steps1_in _ l k e N hN c J HY.out Js0 hJ0 H9.out).mono ?_
  rintro e3 w3 ⟨rfl, pre, lk, le, Js, hp, hJ, hd⟩
  obtain ⟨r, hr⟩ : ∃ r, steps15 m N L k e = r := ⟨_, rfl⟩
  have HRR := hid hr
  rw [hr] at hp hd
  obtain ⟨rk, rl, re, rL⟩ := r
  dsimp only at hp hd
  have H := hid (Hd.perm (List.Perm.append_left [Sto b rL m] (swap_mid (B := [Blk eb (.cells #[.int .i64 0] 34 (0, 0)), Blk cb (.cells #[.int .i64 k, .int .i64 e] 32 (0, 0)), Blk sb (.cells #[.pointer (some ⟨b, 0, none⟩)] 25 (0, 0)), Blk xb (.cells #[.int .i64 x] 3 (0, 0))]))) hd)
  clear hd H9 hr
  have HJ := hid hJ
  have HP := hid hp
  clear hp hJ
  have hk := Hd.nthk 1 H.out rfl
  have q0 := (cell_of_heap hk 0).trans (show _ = some (.int .i64 0) from rfl)
  have qs := (Array.getElem?_eq_some_iff.1 hk).1
  have qf := frozen_of_heap hk
  clear hk
  gi_wp2
  go_end0
  rw [HRR.out]
  exact ⟨⟨_, rfl⟩, pre, lk, le, Js, HP.out, HJ.out, ((((H.out.front 1 rfl).set 0 (.int .i64 re)).front 1 rfl))⟩
end
end Go.Proofs.Ytpcfmafokkffgaa
namespace Go.Proofs.Ytpcfmafokkffgaa
open Go.RowKit

section
variable {P : Program} {Q : Exit → Act → World → Prop}

/-- What the rule asks of the region's text. -/
def relOps (ops : Array Oper) (need : List (List Nat)) (dsts : List Nat) : Bool :=
  decide (dsts.length = ops.size) && decide dsts.Nodup &&
  (List.range ops.size).all fun i =>
    (match ops[i]? with
      | some o => (o.dst == dsts[i]?) && (match o.guard with | none => true | some (k, _) => (need.getD i []).contains k) && (need.getD i []).all (fun d => o.after.any fun e => e.on == d && Region.binds .any e) && o.after.all (fun e => !Region.binds .any e || decide (e.on < i))
      | none => false)

structure RelAt (ops : Array Oper) (need : List (List Nat)) (dsts : List Nat) (i : Nat) (o : Oper) : Prop where
  dst : o.dst = dsts[i]?
  guard : ∀ k b, o.guard = some (k, b) → k ∈ need.getD i []
  need : ∀ d ∈ need.getD i [], ∃ e ∈ o.after, e.on = d ∧ Region.binds .any e = true
  after : ∀ e ∈ o.after, Region.binds .any e = true → e.on < i

variable {ops : Array Oper} {need : List (List Nat)} {dsts : List Nat}

/-- Each operation of a list, with its number. -/
def StepAll (S : Nat → Oper → Prop) : Nat → List Oper → Prop
  | _, [] => True
  | k, o :: l => S k o ∧ StepAll S (k + 1) l
theorem StepAll.at {S : Nat → Oper → Prop} : ∀ {l : List Oper} {k : Nat}, StepAll S k l → ∀ {i : Nat} {o : Oper}, l[i]? = some o → S (k + i) o
  | [], _, _, i, o, h => by simp at h
  | x :: l, k, h, 0, o, ho => by
    simp only [List.getElem?_cons_zero, Option.some.injEq] at ho
    subst ho
    exact h.1
  | x :: l, k, h, i + 1, o, ho => by
    have := StepAll.at h.2 (i := i) (o := o) (by simpa using ho)
    rwa [show k + (i + 1) = k + 1 + i by omega]

theorem wpOp_wanted {i : Nat} {o : Oper} {K : Act → World → Prop} {a : Act} {w : World} (ho : ops[i]? = some o) (hg : Region.wanted o (yielded ops a.tmps) = true) (h : o.wp P a w K Q) : wpOp P ops Q i K a w := by
  unfold wpOp
  rw [ho]
  simp only [hg, if_true]
  exact .inl h

structure RelWay (ops : Array Oper) (dsts : List Nat) (V : Nat → Value → World → Prop) (w0 : World) (a0 : Act) (listed : Array Bool) (a : Act) (w : World) : Prop where
  lsize : listed.size = ops.size
  size : a.tmps.size = a0.tmps.size
  defers : a.defers = a0.defers
  rest : ∀ t : Nat, t ∉ dsts → a.eval (.tmp t) = a0.eval (.tmp t)
  has : ∀ i d, listed.getD i false = true → dsts[i]? = some d → V i (a.eval (.tmp d)) w
  below : Below w0.heap.size w0 w

/-- One operation, by what is known of those that it waits for. -/
def RelStep (P : Program) (Q : Exit → Act → World → Prop) (need : List (List Nat)) (dsts : List Nat) (V : Nat → Value → World → Prop) (w0 : World) (a0 : Act) (i : Nat) (o : Oper) : Prop :=
  ∀ (a : Act) (w : World), (∀ d ∈ need.getD i [], V d (a.eval (.tmp (dsts.getD d 0))) w) → (∀ t : Nat, t ∉ dsts → a.eval (.tmp t) = a0.eval (.tmp t)) → Below w0.heap.size w0 w →
    ∀ K : Act → World → Prop, (∀ v w', V i v w' → Below w.heap.size w w' → K (a.put o.dst v) w') → o.wp P a w K Q

theorem StepAll.cons {S : Nat → Oper → Prop} {k : Nat} {o : Oper} {l : List Oper} (h : S k o) (h2 : StepAll S (k + 1) l) : StepAll S k (o :: l) := ⟨h, h2⟩
section
variable {o : Oper} {a : Act} {w : World} {K : Act → World → Prop} {V : Value → World → Prop}
end
end
end Go.Proofs.Ytpcfmafokkffgaa
namespace Go.Proofs.Ytpcfmafokkffgaa
open Go.RowKit

/-- What an operation has made: an address and a number. -/
abbrev Gh := Option Addr × Nat
def updG (g : Nat → Gh) (i : Nat) (x : Gh) : Nat → Gh := fun j => if j = i then x else g j

section
variable {P : Program} {Q : Exit → Act → World → Prop} {ops : Array Oper} {need uses : List (List Nat)} {dsts fill : List (Option Nat)}

/-- What the rule asks of the region's text. -/
def holdOps (ops : Array Oper) (need uses : List (List Nat)) (dsts fill : List (Option Nat)) : Bool :=
  (List.range ops.size).all fun i =>
    (match ops[i]? with
      | some o => (o.dst == dsts.getD i none) && (match o.guard with | none => true | some (k, _) => (need.getD i []).contains k && (dsts.getD k none).isSome) && (need.getD i []).all (fun d => decide (d < i) && o.after.any fun e => e.on == d && Region.binds .any e) && o.after.all (fun e => !Region.binds .any e || decide (e.on < i))
      | none => false) &&
    (uses.getD i []).all (fun k => k == i || (need.getD i []).any fun d => (uses.getD d []).contains k) &&
    (match fill.getD i none with
      | none => true
      | some s => (need.getD s []).contains i && (fill.getD s none == none) && (dsts.getD s none == none) && decide (s < ops.size) && (List.range ops.size).all fun j => j == i || fill.getD j none != some s) &&
    (List.range ops.size).all fun j => i == j || dsts.getD i none != dsts.getD j none || dsts.getD i none == none

structure HoldAt (ops : Array Oper) (need uses : List (List Nat)) (dsts fill : List (Option Nat)) (i : Nat) (o : Oper) : Prop where
  hdst : o.dst = dsts.getD i none
  hguard : ∀ k b, o.guard = some (k, b) → k ∈ need.getD i [] ∧ dsts.getD k none ≠ none
  hneed : ∀ d ∈ need.getD i [], d < i ∧ ∃ e ∈ o.after, e.on = d ∧ Region.binds .any e = true
  hafter : ∀ e ∈ o.after, Region.binds .any e = true → e.on < i
  huses : ∀ k ∈ uses.getD i [], k = i ∨ ∃ d ∈ need.getD i [], k ∈ uses.getD d []
  hfill : ∀ s, fill.getD i none = some s → i ∈ need.getD s [] ∧ fill.getD s none = none ∧ dsts.getD s none = none ∧ s < ops.size ∧ ∀ j, j < ops.size → fill.getD j none = some s → j = i
  hapart : ∀ j < ops.size, ∀ t, dsts.getD i none = some t → dsts.getD j none = some t → i = j

/-- What an operation's value is, of what those that it uses have made. -/
def valOf (uses : List (List Nat)) (vals : List (List Gh → Value)) (g : Nat → Gh) (i : Nat) : Value := (vals.getD i fun _ => undef) ((uses.getD i []).map g)
/-- What an operation has laid, and what has been filled in. -/
def resOf (uses : List (List Nat)) (fill : List (Option Nat)) (R R2 : List (List Gh → List Res)) (listed : Nat → Bool) (g : Nat → Gh) (i : Nat) : List Res :=
  bif listed i then
    (match fill.getD i none with
      | some s => bif listed s then (R2.getD i fun _ => []) ((uses.getD s []).map g) else (R.getD i fun _ => []) ((uses.getD i []).map g)
      | none => (R.getD i fun _ => []) ((uses.getD i []).map g))
  else []

theorem flat_change {F F' : Nat → List Res} {i : Nat} (h : ∀ j, j ≠ i → F j = F' j) : ∀ {l : List Nat}, l.Nodup → i ∈ l → ∃ Ys, (l.flatMap F).Perm (F i ++ Ys) ∧ (l.flatMap F').Perm (F' i ++ Ys)
  | [], _, hm => by cases hm
  | x :: l, hn, hm => by
    have hx := (List.nodup_cons.1 hn).1
    by_cases e : x = i
    · subst e
      refine ⟨l.flatMap F, by rw [List.flatMap_cons], ?_⟩
      rw [List.flatMap_cons]
      have : l.flatMap F' = l.flatMap F := by
        have key : ∀ l : List Nat, x ∉ l → l.flatMap F' = l.flatMap F := by
          intro l
          induction l with
          | nil => intro _; rfl
          | cons y l ih =>
            intro hy
            rw [List.flatMap_cons, List.flatMap_cons, ih (fun h => hy (by simp [h])), h y (fun e => hy (by simp [e]))]
        exact key l hx
      rw [this]
    · obtain ⟨Ys, h1, h2⟩ := flat_change h (List.nodup_cons.1 hn).2 ((List.mem_cons.1 hm).resolve_left fun e2 => e e2.symm)
      have sw : ∀ (A B C : List Res), (A ++ (B ++ C)).Perm (B ++ (A ++ C)) := fun A B C => by
        rw [← List.append_assoc, ← List.append_assoc]
        exact List.perm_append_comm.append_right _
      refine ⟨F x ++ Ys, ?_, ?_⟩
      · rw [List.flatMap_cons]
        exact (List.Perm.append_left _ h1).trans (sw _ _ _)
      · rw [List.flatMap_cons, ← h x e]
        exact (List.Perm.append_left _ h2).trans (sw _ _ _)

structure HoldWay (ops : Array Oper) (need uses : List (List Nat)) (dsts fill : List (Option Nat)) (vals : List (List Gh → Value)) (R R2 : List (List Gh → List Res)) (W : World) (Rs : List Res) (a0 : Act) (listed : Array Bool) (a : Act) (w : World) (g : Nat → Gh) : Prop where
  lsize : listed.size = ops.size
  size : a.tmps.size = a0.tmps.size
  defers : a.defers = a0.defers
  rest : ∀ t : Nat, some t ∉ dsts → a.eval (.tmp t) = a0.eval (.tmp t)
  has : ∀ i d, listed.getD i false = true → dsts.getD i none = some d → a.eval (.tmp d) = valOf uses vals g i
  closed : ∀ i, listed.getD i false = true → ∀ k ∈ uses.getD i [], listed.getD k false = true
  nclosed : ∀ i, listed.getD i false = true → ∀ k ∈ need.getD i [], listed.getD k false = true
  hd : Hd W w ((List.range ops.size).flatMap (resOf uses fill R R2 (fun i => listed.getD i false) g) ++ Rs)

/-- One operation. -/
def HoldStep (P : Program) (Q : Exit → Act → World → Prop) (need uses : List (List Nat)) (dsts fill : List (Option Nat)) (vals : List (List Gh → Value)) (R R2 : List (List Gh → List Res)) (W : World) (Rs : List Res) (a0 : Act) (i : Nat) (o : Oper) : Prop :=
  ∀ (a : Act) (w : World) (g : Nat → Gh), (∀ d ∈ need.getD i [], ∀ s, dsts.getD d none = some s → a.eval (.tmp s) = valOf uses vals g d) → (∀ t : Nat, some t ∉ dsts → a.eval (.tmp t) = a0.eval (.tmp t)) →
    match fill.findIdx? (· == some i) with
    | none => ∀ (Ss : List Res), Hd W w (Ss ++ Rs) → ∀ K : Act → World → Prop, (∀ x v w', (o.dst ≠ none → v = valOf uses vals (updG g i x) i) → Hd W w' ((R.getD i fun _ => []) ((uses.getD i []).map (updG g i x)) ++ (Ss ++ Rs)) → K (a.put o.dst v) w') → o.wp P a w K Q
    | some b => ∀ (Ss : List Res), Hd W w ((R.getD b fun _ => []) ((uses.getD b []).map g) ++ Ss) → ∀ K : Act → World → Prop, (∀ v w', Hd W w' ((R2.getD b fun _ => []) ((uses.getD i []).map g) ++ Ss) → K (a.put o.dst v) w') → o.wp P a w K Q

section
variable {vals : List (List Gh → Value)} {R : List (List Gh → List Res)} {W : World} {Rs Ss : List Res} {a : Act} {w : World} {g : Nat → Gh} {i : Nat} {o : Oper} {K : Act → World → Prop}
theorem hold_run {v : Value} (h : (execOp a.eval o).run P w = .ok (.value v) w) (hv : v = valOf uses vals (updG g i default) i) (hR : (R.getD i fun _ => []) ((uses.getD i []).map (updG g i default)) = []) (hH : Hd W w (Ss ++ Rs))
    (hK : ∀ x v w', (o.dst ≠ none → v = valOf uses vals (updG g i x) i) → Hd W w' ((R.getD i fun _ => []) ((uses.getD i []).map (updG g i x)) ++ (Ss ++ Rs)) → K (a.put o.dst v) w') : o.wp P a w K Q := by
  unfold Oper.wp; rw [h]
  exact hK default v w (fun _ => hv) (by rw [hR]; exact hH)
theorem hold_new {obj : Obj} {v : Value} (h : (execOp a.eval o).run P w = .ok (.value v) (w.alloc obj)) (hv : v = valOf uses vals (updG g i (none, w.heap.size)) i) (hR : (R.getD i fun _ => []) ((uses.getD i []).map (updG g i (none, w.heap.size))) = [Blk w.heap.size obj]) (hH : Hd W w (Ss ++ Rs))
    (hK : ∀ x v w', (o.dst ≠ none → v = valOf uses vals (updG g i x) i) → Hd W w' ((R.getD i fun _ => []) ((uses.getD i []).map (updG g i x)) ++ (Ss ++ Rs)) → K (a.put o.dst v) w') : o.wp P a w K Q := by
  unfold Oper.wp; rw [h]
  exact hK (none, w.heap.size) v _ (fun _ => hv) (by rw [hR]; exact hH.box obj)
theorem hold_call {f : FuncId} {args : Array Value} (h : (execOp a.eval o).run P w = .ok (.enter f args) w)
    (hc : Calls P f args w fun e w2 => ∃ x : Gh, e = .returned (valOf uses vals (updG g i x) i) ∧ ∀ Xs, Hd W w Xs → Hd W w2 ((R.getD i fun _ => []) ((uses.getD i []).map (updG g i x)) ++ Xs)) (hH : Hd W w (Ss ++ Rs))
    (hK : ∀ x v w', (o.dst ≠ none → v = valOf uses vals (updG g i x) i) → Hd W w' ((R.getD i fun _ => []) ((uses.getD i []).map (updG g i x)) ++ (Ss ++ Rs)) → K (a.put o.dst v) w') : o.wp P a w K Q := by
  unfold Oper.wp; rw [h]
  refine Calls.mono hc fun e w2 he => ?_
  obtain ⟨x, rfl, h2⟩ := he
  exact hK x _ _ (fun _ => rfl) (h2 _ hH)
end

theorem Hd.rear {W w : World} : ∀ {Ss Rs : List Res}, Hd W w (Ss ++ Rs) → Hd W w Rs
  | [], _, h => h
  | _ :: _, _, h => Hd.rear h.drop

theorem hold_lt {n : Nat} (h : dsts.all (fun d => match d with | none => true | some t => decide (t < n)) = true) {m : Nat} (hm : m = n := by rfl) : ∀ d, some d ∈ dsts → d < m := fun d hd => by
  have := List.all_eq_true.1 h _ hd
  subst hm
  simpa using this
theorem hold_nil {R : List (List Gh → List Res)} {fs : List Nat} (_h : True) (hf : fill.filterMap id = fs) (h : ∀ s gs, s ∈ fs → (R.getD s fun _ => []) gs = []) : ∀ s b, fill.getD b none = some s → ∀ gs, (R.getD s fun _ => []) gs = [] := fun s b hb gs => by
  refine h s gs ?_
  rw [← hf, List.mem_filterMap]
  rw [List.getD_eq_getElem?_getD] at hb
  cases he : fill[b]? with
  | none => rw [he] at hb; cases hb
  | some y => rw [he] at hb; exact ⟨y, List.mem_of_getElem? he, hb⟩
theorem map_upd {g : Nat → Gh} {i : Nat} {x : Gh} {l : List Nat} (h : i ∉ l) : l.map g = l.map (updG g i x) := by
  refine List.map_congr_left fun k hk => ?_
  have : k ≠ i := fun e => h (e ▸ hk)
  simp [updG, this]

end
end Go.Proofs.Ytpcfmafokkffgaa
namespace Go.Proofs.Ytpcfmafokkffgaa
open Go.RowKit

section
variable {P : Program} {Q : Exit → Act → World → Prop} {ops : Array Oper} {need uses : List (List Nat)} {dsts fill : List (Option Nat)}

/-- What the rule asks of the region's text. -/
def holdOpsB (ops : Array Oper) (need uses : List (List Nat)) (dsts fill : List (Option Nat)) : Bool :=
  (List.range ops.size).all (fun i =>
    (match ops[i]? with
      | some o => (o.dst == dsts.getD i none) && (match o.guard with | none => true | some (k, _) => (need.getD i []).contains k && (dsts.getD k none).isSome) && (need.getD i []).all (fun d => decide (d < i) && o.after.any fun e => e.on == d && Region.binds .any e) && o.after.all (fun e => !Region.binds .any e || decide (e.on < i))
      | none => false) &&
    (uses.getD i []).all (fun k => k == i || (need.getD i []).any fun d => (uses.getD d []).contains k) &&
    (List.range ops.size).all fun j => i == j || dsts.getD i none != dsts.getD j none || dsts.getD i none == none) &&
  (List.range fill.length).all (fun b =>
    match fill.getD b none with
      | none => true
      | some s => (decide (ops.size ≤ b) || (need.getD s []).contains b) && (fill.getD s none == none) && decide (s < ops.size) && (List.range fill.length).all fun j => j == b || fill.getD j none != some s)

structure HoldAtB (ops : Array Oper) (need uses : List (List Nat)) (dsts : List (Option Nat)) (i : Nat) (o : Oper) : Prop where
  hdst : o.dst = dsts.getD i none
  hguard : ∀ k b, o.guard = some (k, b) → k ∈ need.getD i [] ∧ dsts.getD k none ≠ none
  hneed : ∀ d ∈ need.getD i [], d < i ∧ ∃ e ∈ o.after, e.on = d ∧ Region.binds .any e = true
  hafter : ∀ e ∈ o.after, Region.binds .any e = true → e.on < i
  huses : ∀ k ∈ uses.getD i [], k = i ∨ ∃ d ∈ need.getD i [], k ∈ uses.getD d []
  hapart : ∀ j < ops.size, ∀ t, dsts.getD i none = some t → dsts.getD j none = some t → i = j

theorem hold_fillB (h : holdOpsB ops need uses dsts fill = true) {b s : Nat} (hs : fill.getD b none = some s) : b < fill.length ∧ (ops.size ≤ b ∨ b ∈ need.getD s []) ∧ fill.getD s none = none ∧ s < ops.size ∧ ∀ j, fill.getD j none = some s → j = b := by
  have lt : ∀ {b s : Nat}, fill.getD b none = some s → b < fill.length := fun {b s} hb => by
    rcases Nat.lt_or_ge b fill.length with h2 | h2
    · exact h2
    · rw [List.getD_eq_getElem?_getD, List.getElem?_eq_none h2] at hb; cases hb
  unfold holdOpsB at h
  rw [Bool.and_eq_true] at h
  have h3 := List.all_eq_true.1 h.2 b (List.mem_range.2 (lt hs))
  rw [hs] at h3
  simp only [Bool.and_eq_true, decide_eq_true_eq, List.contains_iff_mem, beq_iff_eq, List.all_eq_true, List.mem_range, Bool.or_eq_true, bne_iff_ne] at h3
  obtain ⟨⟨⟨k1, k2⟩, k4⟩, k5⟩ := h3
  exact ⟨lt hs, k1, k2, k4, fun j hj => (k5 j (lt hj)).resolve_right fun hne => hne hj⟩
theorem hold_atB (h : holdOpsB ops need uses dsts fill = true) {i : Nat} {o : Oper} (ho : ops[i]? = some o) : HoldAtB ops need uses dsts i o := by
  have hlt : i < ops.size := (Array.getElem?_eq_some_iff.1 ho).1
  unfold holdOpsB at h
  rw [Bool.and_eq_true] at h
  have hi := List.all_eq_true.1 h.1 i (List.mem_range.2 hlt)
  rw [ho] at hi
  rw [Bool.and_eq_true, Bool.and_eq_true] at hi
  obtain ⟨⟨h1, h2⟩, h4⟩ := hi
  simp only [Bool.and_eq_true, decide_eq_true_eq, List.all_eq_true, Array.all_eq_true', Array.any_eq_true', beq_iff_eq, Bool.or_eq_true, Bool.not_eq_true'] at h1
  obtain ⟨⟨⟨g1, g2⟩, g3⟩, g4⟩ := h1
  refine ⟨g1, fun k b hg => ?_, fun d hd => ?_, fun e he hb => ?_, fun k hk => ?_, fun j hj t e1 e2 => ?_⟩
  · rw [hg] at g2
    simp only [Bool.and_eq_true, List.contains_iff_mem] at g2
    exact ⟨g2.1, fun e => by rw [e] at g2; cases g2.2⟩
  · obtain ⟨g5, e, he, h7, h8⟩ := g3 d hd
    exact ⟨g5, e, he, h7, h8⟩
  · rcases g4 e he with h7 | h7
    · rw [hb] at h7; cases h7
    · exact h7
  · have := List.all_eq_true.1 h2 k hk
    simp only [Bool.or_eq_true, beq_iff_eq, List.any_eq_true, List.contains_iff_mem] at this
    rcases this with h | ⟨d, hd, h⟩
    · exact .inl h
    · exact .inr ⟨d, hd, h⟩
  · simp only [List.all_eq_true, List.mem_range, Bool.or_eq_true, beq_iff_eq, bne_iff_ne] at h4
    rcases h4 j hj with (h9 | h9) | h9
    · exact h9
    · exact absurd (e1.trans e2.symm) h9
    · rw [h9] at e1; cases e1

/-- What has come up, and what was held ahead. -/
def lstB (n : Nat) (listed : Array Bool) (i : Nat) : Bool := listed.getD i false || decide (n ≤ i)

theorem hold_readyB (h : holdOpsB ops need uses dsts fill = true) {listed : Array Bool} {i : Nat} (hi : i ∈ Region.ready .any ops listed) {d : Nat} (hd : d ∈ need.getD i []) : listed.getD d false = true := by
  obtain ⟨_, o, ho, hall⟩ := mem_ready.1 hi
  obtain ⟨_, e, he, rfl, hb⟩ := (hold_atB h ho).hneed d hd
  exact hall e he hb

theorem hold_allB (h : holdOpsB ops need uses dsts fill = true) {listed : Array Bool} (hs : listed.size = ops.size) (hr : Region.ready .any ops listed = []) : ∀ i, i < ops.size → listed.getD i false = true := by
  intro i
  induction i using Nat.strongRecOn with
  | _ i ih =>
    intro hi
    refine Classical.byContradiction fun hne => ?_
    have h1 : listed.getD i true = false := by
      have hlt : i < listed.size := by omega
      simp only [Array.getD_eq_getD_getElem?, Array.getElem?_eq_getElem hlt, Option.getD_some] at hne ⊢
      simpa using hne
    have hmem : i ∈ Region.ready .any ops listed := mem_ready.2 ⟨h1, ops[i], Array.getElem?_eq_getElem hi, fun e he hb => by
      have := (hold_atB h (Array.getElem?_eq_getElem hi)).hafter e he hb
      exact ih e.on this (by omega)⟩
    rw [hr] at hmem
    cases hmem

structure HoldWayB (ops : Array Oper) (need uses : List (List Nat)) (dsts fill : List (Option Nat)) (vals : List (List Gh → Value)) (R R2 : List (List Gh → List Res)) (W : World) (Rs : List Res) (a0 : Act) (listed : Array Bool) (a : Act) (w : World) (g : Nat → Gh) : Prop where
  lsize : listed.size = ops.size
  size : a.tmps.size = a0.tmps.size
  defers : a.defers = a0.defers
  rest : ∀ t : Nat, some t ∉ dsts → a.eval (.tmp t) = a0.eval (.tmp t)
  has : ∀ i d, listed.getD i false = true → dsts.getD i none = some d → a.eval (.tmp d) = valOf uses vals g i
  closed : ∀ i, listed.getD i false = true → ∀ k ∈ uses.getD i [], listed.getD k false = true
  nclosed : ∀ i, listed.getD i false = true → ∀ k ∈ need.getD i [], listed.getD k false = true
  hd : Hd W w ((List.range fill.length).flatMap (resOf uses fill R R2 (lstB ops.size listed) g) ++ Rs)

/-- One operation. -/
def HoldStepB (P : Program) (Q : Exit → Act → World → Prop) (need uses : List (List Nat)) (dsts fill : List (Option Nat)) (vals : List (List Gh → Value)) (R R2 : List (List Gh → List Res)) (W : World) (Rs : List Res) (a0 : Act) (i : Nat) (o : Oper) : Prop :=
  ∀ (a : Act) (w : World) (g : Nat → Gh), (∀ d ∈ need.getD i [], ∀ s, dsts.getD d none = some s → a.eval (.tmp s) = valOf uses vals g d) → (∀ t : Nat, some t ∉ dsts → a.eval (.tmp t) = a0.eval (.tmp t)) → (∀ d ∈ need.getD i [], fill.getD d none = none → ∃ Ys, Hd W w ((R.getD d fun _ => []) ((uses.getD d []).map g) ++ Ys)) → (∀ b s, fill.getD b none = some s → uses.length ≤ b → i ∈ need.getD s [] → ∃ Ys, Hd W w ((R.getD b fun _ => []) ((uses.getD b []).map g) ++ Ys)) →
    match fill.findIdx? (· == some i) with
    | none => ∀ (Ss : List Res), Hd W w (Ss ++ Rs) → ∀ K : Act → World → Prop, (∀ x v w', (o.dst ≠ none → v = valOf uses vals (updG g i x) i) → Hd W w' ((R.getD i fun _ => []) ((uses.getD i []).map (updG g i x)) ++ (Ss ++ Rs)) → K (a.put o.dst v) w') → o.wp P a w K Q
    | some b => ∀ (Ss : List Res), Hd W w ((R.getD b fun _ => []) ((uses.getD b []).map g) ++ (Ss ++ Rs)) → ∀ K : Act → World → Prop, (∀ x v w', (o.dst ≠ none → v = valOf uses vals (updG g i x) i) → Hd W w' ((R2.getD b fun _ => []) ((uses.getD i []).map (updG g i x)) ++ (Ss ++ Rs)) → K (a.put o.dst v) w') → o.wp P a w K Q

theorem HoldStepB.val {vals : List (List Gh → Value)} {R R2 : List (List Gh → List Res)} {W : World} {Rs : List Res} {a0 : Act} {i : Nat} {o : Oper} (hf : fill.findIdx? (· == some i) = none)
    (h : ∀ (a : Act) (w : World) (g : Nat → Gh), (∀ d ∈ need.getD i [], ∀ s, dsts.getD d none = some s → a.eval (.tmp s) = valOf uses vals g d) → (∀ t : Nat, some t ∉ dsts → a.eval (.tmp t) = a0.eval (.tmp t)) → (∀ d ∈ need.getD i [], fill.getD d none = none → ∃ Ys, Hd W w ((R.getD d fun _ => []) ((uses.getD d []).map g) ++ Ys)) → (∀ b s, fill.getD b none = some s → uses.length ≤ b → i ∈ need.getD s [] → ∃ Ys, Hd W w ((R.getD b fun _ => []) ((uses.getD b []).map g) ++ Ys)) →
      ∀ (Ss : List Res), Hd W w (Ss ++ Rs) → ∀ K : Act → World → Prop, (∀ x v w', (o.dst ≠ none → v = valOf uses vals (updG g i x) i) → Hd W w' ((R.getD i fun _ => []) ((uses.getD i []).map (updG g i x)) ++ (Ss ++ Rs)) → K (a.put o.dst v) w') → o.wp P a w K Q) :
    HoldStepB P Q need uses dsts fill vals R R2 W Rs a0 i o := by
  intro a w g h1 h2 h3 h4
  rw [hf]
  exact h a w g h1 h2 h3 h4
theorem HoldStepB.fil {vals : List (List Gh → Value)} {R R2 : List (List Gh → List Res)} {W : World} {Rs : List Res} {a0 : Act} {i : Nat} {o : Oper} (b : Nat) (hf : fill.findIdx? (· == some i) = some b)
    (h : ∀ (a : Act) (w : World) (g : Nat → Gh), (∀ d ∈ need.getD i [], ∀ s, dsts.getD d none = some s → a.eval (.tmp s) = valOf uses vals g d) → (∀ t : Nat, some t ∉ dsts → a.eval (.tmp t) = a0.eval (.tmp t)) → (∀ d ∈ need.getD i [], fill.getD d none = none → ∃ Ys, Hd W w ((R.getD d fun _ => []) ((uses.getD d []).map g) ++ Ys)) → (∀ b s, fill.getD b none = some s → uses.length ≤ b → i ∈ need.getD s [] → ∃ Ys, Hd W w ((R.getD b fun _ => []) ((uses.getD b []).map g) ++ Ys)) →
      ∀ (Ss : List Res), Hd W w ((R.getD b fun _ => []) ((uses.getD b []).map g) ++ (Ss ++ Rs)) → ∀ K : Act → World → Prop, (∀ x v w', (o.dst ≠ none → v = valOf uses vals (updG g i x) i) → Hd W w' ((R2.getD b fun _ => []) ((uses.getD i []).map (updG g i x)) ++ (Ss ++ Rs)) → K (a.put o.dst v) w') → o.wp P a w K Q) :
    HoldStepB P Q need uses dsts fill vals R R2 W Rs a0 i o := by
  intro a w g h1 h2 h3 h4
  rw [hf]
  exact h a w g h1 h2 h3 h4

theorem hold_filB {b : Nat} {vals : List (List Gh → Value)} {R2 : List (List Gh → List Res)} {W : World} {Ss Rs : List Res} {a : Act} {w w' : World} {g : Nat → Gh} {i : Nat} {o : Oper} {K : Act → World → Prop} (h : (execOp a.eval o).run P w = .ok .skip w') (hd : o.dst = none) (hR : (uses.getD i []).map (updG g i default) = (uses.getD i []).map g) (hH : Hd W w' ((R2.getD b fun _ => []) ((uses.getD i []).map g) ++ (Ss ++ Rs)))
    (hK : ∀ x v w', (o.dst ≠ none → v = valOf uses vals (updG g i x) i) → Hd W w' ((R2.getD b fun _ => []) ((uses.getD i []).map (updG g i x)) ++ (Ss ++ Rs)) → K (a.put o.dst v) w') : o.wp P a w K Q := by
  unfold Oper.wp; rw [h]
  exact hK default undef w' (fun hn => absurd hd hn) (by rw [hR]; exact hH)

/-- THE RULE. -/
theorem hold_coreB {C : Prop} {l : List Oper} {a0 : Act} {w0 W : World} {Rs : List Res} (need uses : List (List Nat)) (dsts fill : List (Option Nat)) (vals : List (List Gh → Value)) (R R2 : List (List Gh → List Res))
    (hc : holdOpsB l.toArray need uses dsts fill = true) (hld : dsts.length = l.length) (hsz : ∀ d, some d ∈ dsts → d < a0.tmps.size) (h0 : Hd W w0 ((List.range fill.length).flatMap (resOf uses fill R R2 (fun i => decide (l.length ≤ i)) fun _ => default) ++ Rs))
    (hul : uses.length = l.length) (hlf : l.length ≤ fill.length) (hnil : ∀ s b, fill.getD b none = some s → ∀ gs, (R.getD s fun _ => []) gs = [])
    (hgd : StepAll (fun _ o => match o.guard with | none => True | some (k, b) => ∀ g, valOf uses vals g k = .bool b) 0 l)
    (step : StepAll (HoldStepB P Q need uses dsts fill vals R R2 W Rs a0) 0 l)
    (S : Nat → Bool) (hS : dsts.all (fun d => match d with | none => true | some t => S t) = true)
    (done : ∀ (f : Nat → Value) (w : World) (g : Nat → Gh), (∀ i d, dsts.getD i none = some d → f d = valOf uses vals g i) →
      Hd W w ((List.range fill.length).flatMap (resOf uses fill R R2 (fun _ => true) g) ++ Rs) → Q .normal { tmps := (patchG S f 0 a0.tmps.toList).toArray, defers := a0.defers } w)
    (run : ∀ I : Array Bool → Act → World → Prop, I (Array.replicate l.toArray.size false) a0 w0.drew →
      (∀ listed a w, I listed a w → ∀ i, i ∈ Region.ready .any l.toArray listed → ∃ o, l.toArray[i]? = some o ∧ Region.wanted o (yielded l.toArray a.tmps) = true ∧ o.wp P a w (fun a' w' => I (listed.setIfInBounds i true) a' w') Q) →
      (∀ listed a w, I listed a w → Region.ready .any l.toArray listed = [] → Q .normal a w) → C) : C := by
  have hsize : l.toArray.size = l.length := by simp
  have dmem : ∀ i d, dsts.getD i none = some d → some d ∈ dsts := fun i d h => by
    rw [List.getD_eq_getElem?_getD] at h
    cases he : dsts[i]? with
    | none => rw [he] at h; cases h
    | some y => rw [he] at h; simp only [Option.getD_some] at h; subst h; exact List.mem_of_getElem? he
  refine run (fun listed a w => a0 = a0 ∧ ∃ g, HoldWayB l.toArray need uses dsts fill vals R R2 W Rs a0 listed a w g) ?_ ?_ ?_
  · refine ⟨rfl, fun _ => default, by simp, rfl, rfl, fun _ _ => rfl, fun i d h => ?_, fun i h => ?_, fun i h => ?_, ?_⟩
    · rw [none_here] at h; cases h
    · rw [none_here] at h; cases h
    · rw [none_here] at h; cases h
    · have : lstB l.toArray.size (Array.replicate l.toArray.size false) = fun i => decide (l.length ≤ i) := by
        funext i
        unfold lstB
        rw [none_here, hsize]; simp
      rw [this]
      exact h0.still (Below.refl _ _).drew
  · rintro listed a w ⟨_, g, hw⟩ i hi
    obtain ⟨hl, o, ho, hall⟩ := mem_ready.1 hi
    have hck := hold_atB hc ho
    have hlt : i < l.toArray.size := (Array.getElem?_eq_some_iff.1 ho).1
    have hgo : l[i]? = some o := by simpa using ho
    have hli : listed.getD i false = false := by
      have : i < listed.size := by rw [hw.lsize]; exact hlt
      simp only [Array.getD_eq_getD_getElem?, Array.getElem?_eq_getElem this, Option.getD_some] at hl ⊢
      exact hl
    have hneed : ∀ d ∈ need.getD i [], ∀ s, dsts.getD d none = some s → a.eval (.tmp s) = valOf uses vals g d := fun d hd s hs => hw.has d s (hold_readyB hc hi hd) hs
    have hin : ∀ j, listed.getD j false = true → j < l.toArray.size := fun j hj => by
      rcases Nat.lt_or_ge j l.toArray.size with h | h
      · exact h
      · rw [← hw.lsize] at h; simp [Array.getElem?_eq_none h] at hj
    have hwant : Region.wanted o (yielded l.toArray a.tmps) = true := by
      cases hg : o.guard with
      | none => simp [Region.wanted, hg]
      | some kb =>
        obtain ⟨k, b⟩ := kb
        obtain ⟨hk, hkd⟩ := hck.hguard k b hg
        have hgv := hgd.at hgo
        simp only [hg] at hgv
        have hkl := hin k (hold_readyB hc hi hk)
        have hok : l.toArray[k]? = some (l.toArray[k]) := Array.getElem?_eq_getElem hkl
        have hdk := (hold_atB hc hok).hdst
        cases hd : dsts.getD k none with
        | none => exact absurd hd hkd
        | some t =>
          have hv := hneed k hk t hd
          rw [hgv g] at hv
          have hlt2 : t < a.tmps.size := by rw [hw.size]; exact hsz _ (dmem k t hd)
          have hb2 : a.tmps[t]? = some (.bool b) := by
            rw [Array.getElem?_eq_getElem hlt2]
            simpa [Act.eval, hlt2] using hv
          rw [hd] at hdk
          simp only [Region.wanted, hg, yielded, hok, Option.bind_some, hdk, hb2, beq_self_eq_true]
    refine ⟨o, ho, hwant, ?_⟩
    have hs := step.at hgo
    rw [Nat.zero_add] at hs
    have hres : ∀ d ∈ need.getD i [], fill.getD d none = none → ∃ Ys, Hd W w ((R.getD d fun _ => []) ((uses.getD d []).map g) ++ Ys) := fun d hd hf => by
      have hdl := (hck.hneed d hd).1
      obtain ⟨Ys, p1, _⟩ := flat_change (F := resOf uses fill R R2 (lstB l.toArray.size listed) g) (F' := resOf uses fill R R2 (lstB l.toArray.size listed) g) (i := d) (fun _ _ => rfl) List.nodup_range (List.mem_range.2 (show d < fill.length by omega))
      have e1 : resOf uses fill R R2 (lstB l.toArray.size listed) g d = (R.getD d fun _ => []) ((uses.getD d []).map g) := by
        unfold resOf
        rw [show lstB l.toArray.size listed d = true by unfold lstB; rw [hold_readyB hc hi hd]; rfl, hf]; rfl
      rw [e1] at p1
      have := Hd.perm (List.Perm.append_right Rs p1) hw.hd
      rw [List.append_assoc] at this
      exact ⟨_, this⟩
    have hpre : ∀ b s, fill.getD b none = some s → uses.length ≤ b → i ∈ need.getD s [] → ∃ Ys, Hd W w ((R.getD b fun _ => []) ((uses.getD b []).map g) ++ Ys) := fun b s hb hlb hins => by
      have hk := hold_fillB hc hb
      obtain ⟨Ys, p1, _⟩ := flat_change (F := resOf uses fill R R2 (lstB l.toArray.size listed) g) (F' := resOf uses fill R R2 (lstB l.toArray.size listed) g) (i := b) (fun _ _ => rfl) List.nodup_range (List.mem_range.2 hk.1)
      have hls : lstB l.toArray.size listed s = false := by
        unfold lstB
        have h1 : listed.getD s false = false := by
          cases h : listed.getD s false with
          | false => rfl
          | true =>
            have := hw.nclosed s h i hins
            rw [hli] at this; cases this
        rw [h1]
        have := hk.2.2.2.1
        simp only [Bool.false_or, decide_eq_false_iff_not]; omega
      have e1 : resOf uses fill R R2 (lstB l.toArray.size listed) g b = (R.getD b fun _ => []) ((uses.getD b []).map g) := by
        unfold resOf
        rw [show lstB l.toArray.size listed b = true by unfold lstB; rw [decide_eq_true (by omega), Bool.or_true], hb]
        simp only [cond_true]
        rw [hls]; rfl
      rw [e1] at p1
      have := Hd.perm (List.Perm.append_right Rs p1) hw.hd
      rw [List.append_assoc] at this
      exact ⟨_, this⟩
    have hs := hs a w g hneed hw.rest hres hpre
    have hset : ∀ j, j ≠ i → (listed.setIfInBounds i true).getD j false = listed.getD j false := fun j hj => by
      simp [Array.getElem?_setIfInBounds_ne (Ne.symm hj)]
    have hset1 : (listed.setIfInBounds i true).getD i false = true := by
      have : i < listed.size := by rw [hw.lsize]; exact hlt
      simp [this]
    have hiu : ∀ j, listed.getD j false = true → i ∉ uses.getD j [] := fun j hj hk => by
      have := hw.closed j hj i hk
      rw [hli] at this; cases this
    have hclosed : ∀ j, (listed.setIfInBounds i true).getD j false = true → ∀ k ∈ uses.getD j [], (listed.setIfInBounds i true).getD k false = true := fun j hj k hk => by
      rcases here_set hj with rfl | hlj
      · rcases hck.huses k hk with rfl | ⟨d, hd, hkd⟩
        · exact hj
        · exact here_mono (hw.closed d (hold_readyB hc hi hd) k hkd)
      · exact here_mono (hw.closed j hlj k hk)
    have hnclosed : ∀ j, (listed.setIfInBounds i true).getD j false = true → ∀ k ∈ need.getD j [], (listed.setIfInBounds i true).getD k false = true := fun j hj k hk => by
      rcases here_set hj with rfl | hlj
      · exact here_mono (hold_readyB hc hi hk)
      · exact here_mono (hw.nclosed j hlj k hk)
    have hB : ∀ j, j ≠ i → lstB l.toArray.size (listed.setIfInBounds i true) j = lstB l.toArray.size listed j := fun j hj => by unfold lstB; rw [hset j hj]
    have hBi : lstB l.toArray.size listed i = false := by unfold lstB; rw [hli]; simp only [Bool.false_or, decide_eq_false_iff_not]; omega
    have hBi' : lstB l.toArray.size (listed.setIfInBounds i true) i = true := by unfold lstB; rw [hset1]; rfl
    have hBu : ∀ j, lstB l.toArray.size listed j = true → i ∉ uses.getD j [] := fun j hj => by
      unfold lstB at hj
      rw [Bool.or_eq_true] at hj
      rcases hj with hj | hj
      · exact hiu j hj
      · have : l.toArray.size ≤ j := by simpa using hj
        rw [List.getD_eq_getElem?_getD, List.getElem?_eq_none (by omega)]
        simp
    have hp : i < fill.length := by omega
    cases hfi : fill.findIdx? (· == some i) with
    | none =>
      rw [hfi] at hs
      have hnf : ∀ j, fill.getD j none ≠ some i := fun j hj => by
        rw [List.getD_eq_getElem?_getD] at hj
        cases he : fill[j]? with
        | none => rw [he] at hj; cases hj
        | some y =>
          rw [he] at hj
          simp only [Option.getD_some] at hj
          have := List.findIdx?_eq_none_iff.1 hfi y (List.mem_of_getElem? he)
          rw [hj] at this; simp at this
      refine hs _ hw.hd _ fun x v w' hv hR => ?_
      refine ⟨rfl, updG g i x, by simp [hw.lsize], (put_size _ _ _).trans hw.size, (put_defers _ _ _).trans hw.defers, fun t ht => ?_, fun j d hj hd => ?_, hclosed, hnclosed, ?_⟩
      · rw [put_ne (by rw [hck.hdst]; exact fun e => ht (dmem i t e))]
        exact hw.rest t ht
      · by_cases e : j = i
        · subst e
          rw [hck.hdst.trans hd, put_same (by rw [hw.size]; exact hsz d (dmem j d hd))]
          exact hv (by rw [hck.hdst, hd]; exact Option.some_ne_none d)
        · have hlj := (here_set hj).resolve_left e
          rw [put_ne (by rw [hck.hdst]; exact fun e2 => e (hck.hapart j (hin j hlj) d e2 hd).symm), hw.has j d hlj hd]
          unfold valOf
          rw [map_upd (hiu j hlj)]
      · have hch : ∀ j, j ≠ i → resOf uses fill R R2 (lstB l.toArray.size listed) g j = resOf uses fill R R2 (lstB l.toArray.size (listed.setIfInBounds i true)) (updG g i x) j := fun j hj => by
          unfold resOf
          rw [hB j hj]
          cases hlj : lstB l.toArray.size listed j with
          | false => rfl
          | true =>
            simp only [cond_true]
            cases hf : fill.getD j none with
            | none => simp only; rw [map_upd (hBu j hlj)]
            | some s =>
              have hsi : s ≠ i := fun e => hnf j (by rw [hf, e])
              simp only
              rw [hB s hsi]
              cases hls : lstB l.toArray.size listed s with
              | false => simp only [cond_false]; rw [map_upd (hBu j hlj)]
              | true => simp only [cond_true]; rw [map_upd (hBu s hls)]
        obtain ⟨Ys, p1, p2⟩ := flat_change hch List.nodup_range (List.mem_range.2 hp)
        have e1 : resOf uses fill R R2 (lstB l.toArray.size listed) g i = [] := by unfold resOf; rw [hBi]; rfl
        have e2 : resOf uses fill R R2 (lstB l.toArray.size (listed.setIfInBounds i true)) (updG g i x) i = (R.getD i fun _ => []) ((uses.getD i []).map (updG g i x)) := by
          unfold resOf
          rw [hBi']
          simp only [cond_true]
          cases hf : fill.getD i none with
          | none => rfl
          | some s =>
            have hk := hold_fillB hc hf
            have hne : s ≠ i := fun e => by rw [e] at hk; rw [hk.2.2.1] at hf; cases hf
            have hls : lstB l.toArray.size listed s = false := by
              unfold lstB
              have h1 : listed.getD s false = false := by
                cases h : listed.getD s false with
                | false => rfl
                | true =>
                  have := hw.nclosed s h i (hk.2.1.resolve_left (by omega))
                  rw [hli] at this; cases this
              rw [h1]
              have := hk.2.2.2.1
              simp only [Bool.false_or, decide_eq_false_iff_not]; omega
            simp only
            rw [hB s hne, hls]; rfl
        rw [e1, List.nil_append] at p1
        rw [e2] at p2
        refine Hd.perm ?_ hR
        rw [← List.append_assoc]
        exact List.Perm.append_right _ ((List.Perm.append_left _ p1).trans p2.symm)
    | some b =>
      rw [hfi] at hs
      obtain ⟨hb1, hb2, _⟩ := List.findIdx?_eq_some_iff_getElem.1 hfi
      have hfb : fill.getD b none = some i := by
        rw [List.getD_eq_getElem?_getD, List.getElem?_eq_getElem hb1, Option.getD_some]
        simpa using hb2
      have hkb := hold_fillB hc hfb
      have hlb : lstB l.toArray.size listed b = true := by
        unfold lstB
        rcases hkb.2.1 with h | h
        · rw [decide_eq_true h, Bool.or_true]
        · rw [hold_readyB hc hi h]; rfl
      have hbi : b ≠ i := fun e => by rw [e, hBi] at hlb; cases hlb
      have hch : ∀ x : Gh, ∀ j, j ≠ b → resOf uses fill R R2 (lstB l.toArray.size listed) g j = resOf uses fill R R2 (lstB l.toArray.size (listed.setIfInBounds i true)) (updG g i x) j := fun x j hj => by
        unfold resOf
        by_cases hji : j = i
        · subst hji
          rw [hBi, hBi', hkb.2.2.1]
          simp only [cond_true, cond_false]
          exact (hnil j b hfb _).symm
        · rw [hB j hji]
          cases hlj : lstB l.toArray.size listed j with
          | false => rfl
          | true =>
            simp only [cond_true]
            cases hf : fill.getD j none with
            | none => simp only; rw [map_upd (hBu j hlj)]
            | some s =>
              have hsi : s ≠ i := fun e => hj (hkb.2.2.2.2 j (by rw [hf, e]))
              simp only
              rw [hB s hsi]
              cases hls : lstB l.toArray.size listed s with
              | false => simp only [cond_false]; rw [map_upd (hBu j hlj)]
              | true => simp only [cond_true]; rw [map_upd (hBu s hls)]
      have e1 : resOf uses fill R R2 (lstB l.toArray.size listed) g b = (R.getD b fun _ => []) ((uses.getD b []).map g) := by
        unfold resOf; rw [hlb, hfb]; simp only [cond_true]; rw [hBi]; rfl
      have e2 : ∀ x, resOf uses fill R R2 (lstB l.toArray.size (listed.setIfInBounds i true)) (updG g i x) b = (R2.getD b fun _ => []) ((uses.getD i []).map (updG g i x)) := fun x => by
        unfold resOf; rw [hB b hbi, hlb, hfb]; simp only [cond_true]; rw [hBi']; rfl
      obtain ⟨Y0, q1, _⟩ := flat_change (hch default) List.nodup_range (List.mem_range.2 hkb.1)
      rw [e1] at q1
      have hH := Hd.perm (List.Perm.append_right Rs q1) hw.hd
      rw [List.append_assoc] at hH
      refine hs _ hH _ fun x v w' hv hR => ?_
      obtain ⟨Ys, p1, p2⟩ := flat_change (hch x) List.nodup_range (List.mem_range.2 hkb.1)
      rw [e1] at p1
      rw [e2] at p2
      refine ⟨rfl, updG g i x, by simp [hw.lsize], (put_size _ _ _).trans hw.size, (put_defers _ _ _).trans hw.defers, fun t ht => ?_, fun j d hj hd => ?_, hclosed, hnclosed, ?_⟩
      · rw [put_ne (by rw [hck.hdst]; exact fun e => ht (dmem i t e))]
        exact hw.rest t ht
      · by_cases e : j = i
        · subst e
          rw [hck.hdst.trans hd, put_same (by rw [hw.size]; exact hsz d (dmem j d hd))]
          exact hv (by rw [hck.hdst, hd]; exact Option.some_ne_none d)
        · have hlj := (here_set hj).resolve_left e
          rw [put_ne (by rw [hck.hdst]; exact fun e2 => e (hck.hapart j (hin j hlj) d e2 hd).symm), hw.has j d hlj hd]
          unfold valOf
          rw [map_upd (hiu j hlj)]
      · have hYY : Y0.Perm Ys := (List.perm_append_left_iff _).1 (q1.symm.trans p1)
        rw [← List.append_assoc] at hR
        exact Hd.perm (List.Perm.append_right _ ((List.Perm.append_left _ hYY).trans p2.symm)) hR
  · rintro listed a w ⟨_, g, hw⟩ hr
    have hall := hold_allB hc hw.lsize hr
    have hlit := act_litG (a := a) (a0 := a0) S hw.size hw.defers (fun t ht => hw.rest t (fun h => by
      have := List.all_eq_true.1 hS _ h
      simp only at this
      rw [this] at ht; cases ht))
    rw [hlit]
    refine done _ w g (fun i d hd => hw.has i d (hall i ?_) hd) ?_
    · rcases Nat.lt_or_ge i l.toArray.size with h | h
      · exact h
      · rw [List.getD_eq_getElem?_getD, List.getElem?_eq_none (by omega)] at hd; cases hd
    · have hh := hw.hd
      have : lstB l.toArray.size listed = fun _ => true := by
        funext i
        unfold lstB
        rcases Nat.lt_or_ge i l.toArray.size with h | h
        · rw [hall i h]; rfl
        · rw [decide_eq_true h, Bool.or_true]
      rw [this] at hh
      exact hh

/-- An append of one number to a row held ahead. -/
theorem hold_appB {Q : Exit → Act → World → Prop} {uses : List (List Nat)} {b : Nat} {vals : List (List Gh → Value)} {R2 : List (List Gh → List Res)} {W : World} {Ss : List Res} {a : Act} {w : World} {g : Nat → Gh} {i : Nat} {o : Oper} {K : Act → World → Prop} {T E n bytes gx : Nat} {v : Value} {zs : List Int} {inf : TypeInfo} (d : Int)
    (ht : Try.prog.underlying T = some (.slice E)) (hi : Try.prog.info? E = some inf) (hz : inf.zero = some (.int .i64 0)) (hsize : inf.size = 1) (hby : inf.bytes = bytes) (hb8 : bytes ≤ 8)
    (s x : Operand) (ho : o.op = .call { callee := .builtin .append, args := #[s, x], argTypes := #[T, T] }) (h : Hd W w (RowR E 1 v n (nums .i64 zs) :: Ss)) (hs : a.eval s = v) (hx : a.eval x = .slice (some ⟨gx, 0, none⟩) 1 1) (hc : w.heap[gx]? = some (.cells #[.int .i64 d] E (0, 0))) (hn : n ≤ 1000)
    (hv : ∀ y : Gh, valOf uses vals (updG g i y) i = .slice y.1 (n + 1) y.2) (hR : ∀ y : Gh, (R2.getD b fun _ => []) ((uses.getD i []).map (updG g i y)) = [RowR E 1 (.slice y.1 (n + 1) y.2) (n + 1) (nums .i64 (zs ++ [d]))])
    (hK : ∀ x v w', (o.dst ≠ none → v = valOf uses vals (updG g i x) i) → Hd W w' ((R2.getD b fun _ => []) ((uses.getD i []).map (updG g i x)) ++ Ss) → K (a.put o.dst v) w') : o.wp Try.prog a w K Q := by
  refine wp_append_lies w s x T ho 0 E inf (.int .i64 0) 1 bytes ht hi hz hsize hby rfl (by decide) v n _ hs h.owns ⟨gx, 0, none⟩ 1 1 [.int .i64 d] hx rfl (World.news_of_block hc) (by simp [Value.oneCell']) (by decide) (by simp only [maxLen]; omega) ?_ (Nat.zero_le _) _ rfl ?_
  · have : (n + 1) * bytes ≤ (n + 1) * 8 := Nat.mul_le_mul_left _ hb8
    omega
  · intro g2 cap w' ho' hg hgg _
    refine hK (some ⟨g2, 0, none⟩, cap) _ w' (fun _ => (hv (some ⟨g2, 0, none⟩, cap)).symm) ?_
    rw [hR]
    have := h.grown ho' hg hgg
    rw [show nums .i64 (zs ++ [d]) = nums .i64 zs ++ [.int .i64 d] by simp [nums]]
    exact this

/-- An operation in a round, at the fence that lets all in. -/
theorem Oper.wpIn_of_wp {o : Oper} {a : Act} {w : World} {K : Act → World → Prop} {n r : Nat} (hd : ∀ c, o.op ≠ .defer c) (hr : ∀ row args w', (execOp a.eval o).run P w ≠ .ok (.row row args) w') (h : o.wp P a w K Q) : o.wpIn (Fence.wide.inRound r) n P a w K Q := by
  refine ⟨fun _ _ => trivial, ?_⟩
  rw [show (Fence.wide.inRound r).round = some r from rfl, Oper.semAt_some r a.eval o hd]
  unfold Oper.wp at h
  revert h hr
  generalize (execOp a.eval o).run P w = res
  intro hr h
  cases res with
  | ok x w' =>
    cases x <;> simp only [Oper.upon, Oper.uponIn] at h ⊢ <;> first | exact h | skip
    case enter f args => exact ⟨fun h => (by cases h), CallsIn.inRound r (callsIn_wide.2 h)⟩
    case row row args => exact absurd rfl (hr row args w')
  | halt x w' => cases x <;> simp only [Oper.upon, Oper.uponIn] at h ⊢ <;> exact h

theorem wpAnyIn_invB {ops : Array Oper} {I : Array Bool → Act → World → Prop} {n r : Nat} (hops : ∀ (i : Nat) (o : Oper), ops[i]? = some o → (∀ c, o.op ≠ .defer c) ∧ ∀ (a : Act) w row args w', (execOp a.eval o).run P w ≠ .ok (.row row args) w')
    (step : ∀ listed a w, I listed a w → ∀ i, i ∈ Region.ready .any ops listed → ∃ o, ops[i]? = some o ∧ Region.wanted o (yielded ops a.tmps) = true ∧ o.wp P a w (fun a' w' => I (listed.setIfInBounds i true) a' w') Q)
    (done : ∀ listed a w, I listed a w → Region.ready .any ops listed = [] → Q .normal a w) : ∀ (fuel : Nat) (listed : Array Bool) (a : Act) (w : World), unlisted listed ≤ fuel → I listed a w → wpAnyIn (Fence.wide.inRound r) n P .any ops Q fuel listed a w
  | 0, listed, a, w, hf, hI => by
    have hr : Region.ready .any ops listed = [] := by
      cases hr : Region.ready .any ops listed with
      | nil => rfl
      | cons i rs =>
        have h1 := (mem_ready.1 (by rw [hr]; exact List.mem_cons_self : i ∈ Region.ready .any ops listed)).1
        have := unlisted_set h1
        omega
    exact ⟨hr, done listed a w hI hr⟩
  | fuel + 1, listed, a, w, hf, hI => by
    refine ⟨done listed a w hI, fun i hi => ?_⟩
    have h1 := (mem_ready.1 hi).1
    have h2 := unlisted_set h1
    obtain ⟨o, ho, hwant, hwp⟩ := step listed a w hI i hi
    refine wpOpIn_mono (fun a' w' h => wpAnyIn_invB hops step done fuel _ a' w' (by omega) h) ?_
    unfold wpOpIn
    rw [ho]
    simp only [hwant, if_true]
    exact Oper.wpIn_of_wp (hops i o ho).1 ((hops i o ho).2 a w) hwp

theorem run_wpB {l : List Oper} {id : Nat} {a0 : Act} {w0 : World} (hm : P.follows .mixedOrders = true) (I : Array Bool → Act → World → Prop) (h0 : I (Array.replicate l.toArray.size false) a0 w0.drew)
    (step : ∀ listed a w, I listed a w → ∀ i, i ∈ Region.ready .any l.toArray listed → ∃ o, l.toArray[i]? = some o ∧ Region.wanted o (yielded l.toArray a.tmps) = true ∧ o.wp P a w (fun a' w' => I (listed.setIfInBounds i true) a' w') Q)
    (done : ∀ listed a w, I listed a w → Region.ready .any l.toArray listed = [] → Q .normal a w) : (Code.region id l.toArray true).wp P Q a0 w0 :=
  wp_region_any hm (wpAny_inv (I := I) (fun listed a w h i hi => by
    obtain ⟨o, ho, hw, hk⟩ := step listed a w h i hi
    exact wpOp_wanted ho hw hk) done _ _ _ _ (by simp [unlisted]) h0)
theorem run_wpInB {l : List Oper} {id n r : Nat} {a0 : Act} {w0 : World} (hm : P.follows .mixedOrders = true) (hops : ∀ (i : Nat) (o : Oper), l.toArray[i]? = some o → (∀ c, o.op ≠ .defer c) ∧ ∀ (a : Act) w row args w', (execOp a.eval o).run P w ≠ .ok (.row row args) w')
    (I : Array Bool → Act → World → Prop) (h0 : I (Array.replicate l.toArray.size false) a0 w0.drew)
    (step : ∀ listed a w, I listed a w → ∀ i, i ∈ Region.ready .any l.toArray listed → ∃ o, l.toArray[i]? = some o ∧ Region.wanted o (yielded l.toArray a.tmps) = true ∧ o.wp P a w (fun a' w' => I (listed.setIfInBounds i true) a' w') Q)
    (done : ∀ listed a w, I listed a w → Region.ready .any l.toArray listed = [] → Q .normal a w) : (Code.region id l.toArray true).wpIn (Fence.wide.inRound r) n P Q a0 w0 :=
  wpIn_region_any hm (wpAnyIn_invB hops step done _ _ _ _ (by simp [unlisted]) h0)
end
end Go.Proofs.Ytpcfmafokkffgaa
namespace Go.Proofs.Ytpcfmafokkffgaa
open Go.RowKit Go.Shelf
attribute [local go_sem] Oper.semAt_some

/-- An object of the call's own, replaced whole. -/
theorem Hd.putObj {W w : World} {Rs : List Res} {k : Nat} {o : Obj} (o' : Obj) (h : Hd W w (Blk k o :: Rs)) : Hd W (w.putObj k o') (Blk k o' :: Rs) := by
  have hb := h.blk
  obtain ⟨f, hR, hf, hlt, hshut⟩ := h.open
  have hRf : f = fun i => if i = k then some o else none := hR
  subst hRf
  have hk := (Array.getElem?_eq_some_iff.1 hb).1
  refine hshut _ _ (fun i => if i = k then some o' else none) rfl (fun i o2 hi => ?_) (fun i hi => ?_) rfl rfl rfl (by simp) (fun i hi hi2 => ?_)
  · dsimp only at hi
    split at hi
    · rename_i e; subst e
      simp only [Option.some.injEq] at hi
      subst hi
      exact World.putObj_heap_same hk
    · cases hi
  · split at hi
    · rename_i e; subst e; exact .inl (by simp)
    · exact absurd rfl hi
  · have : i ≠ k := fun e => by subst e; simp at hi2
    exact World.putObj_heap_other this

/-- The record of a range over a function. -/
def LoopR (fn : FuncId) (tmps : Array Value) (ps : Array Tmp) (assign body : Code) (D : Nat) (st : LoopState) : Loop :=
  { state := st, pending := none, fn, tmps, params := ps, assign, body, defers := D }

section
variable {W w : World} {Xs : List Res} {b : Nat} {L : List T} {m : Int}

set_option maxRecDepth 100000 in
set_option maxHeartbeats 1000000 in
theorem to_loop {mm : Nat} {g : Operand} {ps : Array Tmp} {assign body : Code} {Q : Exit → Act → World → Prop} {a : Act} (hps : ps.size = 2) (k e x : Int) (N : Nat) (hN : N ≤ 4) (hx : x - e = N) (cb sb xb eb kb lb : Nat) (v0 : Value) (Ax : Int → Nat → Act → Prop)
    (hg : a.eval g = .func (.func 54) #[] #[.pointer (some ⟨cb, 0, none⟩), .pointer (some ⟨sb, 0, none⟩), .pointer (some ⟨xb, 0, none⟩), .pointer (some ⟨eb, 0, none⟩)])
    (h : Hd W w (Sto b L m :: Blk eb (.cells #[.int .i64 0] 34 (0, 0)) :: Blk cb (.cells #[.int .i64 k, .int .i64 e] 32 (0, 0)) :: Blk sb (.cells #[.pointer (some ⟨b, 0, none⟩)] 25 (0, 0)) :: Blk xb (.cells #[.int .i64 x] 3 (0, 0)) :: RowR 3 1 v0 0 (nums .i64 []) :: Blk kb (.cells #[v0] 33 (0, 0)) :: Blk lb (.cells #[.int .i64 k, .int .i64 e] 32 (0, 0)) :: Xs))
    (hass : ∀ (mm l : Nat) (x dk de : Int) (w1 : World) (Ys : List Res), Hd W w1 Ys → assign.wpIn (Fence.wide.inRound l) mm Try.prog (Exit.then (fun a1 w2 => ∃ c, Ax x c a1 ∧ Hd W w2 (Blk c (.cells #[.int .i64 dk, .int .i64 de] 32 (0, 0)) :: Ys)) (fun _ _ _ => False))
      { tmps := (ps.zip #[.int .i64 x, .agg #[.int .i64 dk, .int .i64 de]]).foldl (fun t (p, v) => t.setIfInBounds p v) a.tmps, defers := [] } w1)
    (hbody : ∀ (mm l c : Nat) (a1 : Act) (x dk de : Int) (pre : List Int) (v : Value) (lk le : Int) (w1 : World) (Ys : List Res), Ax x c a1 → pre.length < 4 → Hd W w1 (Blk c (.cells #[.int .i64 dk, .int .i64 de] 32 (0, 0)) :: RowR 3 1 v pre.length (nums .i64 pre) :: Blk kb (.cells #[v] 33 (0, 0)) :: Blk lb (.cells #[.int .i64 lk, .int .i64 le] 32 (0, 0)) :: Ys) →
      body.wpIn (Fence.wide.inRound l) mm Try.prog (fun e' _ w2 => e' = .normal ∧ ∃ v', Hd W w2 (RowR 3 1 v' (pre ++ [x]).length (nums .i64 (pre ++ [x])) :: Blk kb (.cells #[v'] 33 (0, 0)) :: Blk lb (.cells #[.int .i64 dk, .int .i64 de] 32 (0, 0)) :: Ys)) a1 w1)
    (hafter : ∀ (D : Nat) (pre : List Int) (lk le : Int) (v : Value) (w2 : World), ((steps15 m N L k e).2.2.1 = 0 → pre = (steps15 m N L k e).1 ∧ (lk, le) = (steps15 m N L k e).2.1) →
      Hd W w2 (Sto b (steps15 m N L k e).2.2.2 m :: Blk eb (.cells #[.int .i64 (steps15 m N L k e).2.2.1] 34 (0, 0)) :: Blk cb (.cells #[.int .i64 k, .int .i64 e] 32 (0, 0)) :: Blk sb (.cells #[.pointer (some ⟨b, 0, none⟩)] 25 (0, 0)) :: Blk xb (.cells #[.int .i64 x] 3 (0, 0)) :: RowR 3 1 v pre.length (nums .i64 pre) :: Blk kb (.cells #[v] 33 (0, 0)) :: Blk lb (.cells #[.int .i64 lk, .int .i64 le] 32 (0, 0)) :: Blk D (.deferred (some [])) :: Xs) →
      Q .normal { a with defers := { target := .collected D, args := #[] } :: a.defers } w2) :
    (Code.rangeFunc g ps assign body).wpIn Fence.wide mm Try.prog Q a w := by
  have cf : ∀ args w, (callFunc 54 args).run Try.prog w = .ok (.enter 54 args) w := fun args w => by kernel_rfl
  refine wpIn_rangeFunc ?_
  intro fn hfn
  obtain ⟨W1, hW1⟩ : ∃ W1, (w.alloc (.deferred (some []))).alloc (.loop (LoopR fn a.tmps ps assign body w.heap.size .ready)) = W1 := ⟨_, rfl⟩
  have H1 := (h.boxk (o := .deferred (some [])) w.heap.size rfl).boxk (o := .loop (LoopR fn a.tmps ps assign body w.heap.size .ready)) (w.heap.size + 1) (by simp)
  rw [hW1] at H1
  refine ⟨w.heap.size + 1, [{ target := .collected w.heap.size, args := #[] }], W1, { target := .fn (.func 54) #[.pointer (some ⟨cb, 0, none⟩), .pointer (some ⟨sb, 0, none⟩), .pointer (some ⟨xb, 0, none⟩), .pointer (some ⟨eb, 0, none⟩)], args := #[.func (.yield (w.heap.size + 1)) #[] #[]] }, W1, 54,
    #[.func (.yield (w.heap.size + 1)) #[] #[], .pointer (some ⟨cb, 0, none⟩), .pointer (some ⟨sb, 0, none⟩), .pointer (some ⟨xb, 0, none⟩), .pointer (some ⟨eb, 0, none⟩)], W1, ?_, ?_, fun _ _ => trivial, ?_, fun h => (by cases h), ?_⟩
  · rw [← hW1]; exact run_enterLoop_outer _ _ _ _ _
  · simp only [resolve, hg]
    simp [go_sem]
  · simp [invoke, go_sem, cf]
  · have H2 := Hd.perm (swap_mid (A := [_, _]) (B := [_, _, _, _, _, _, _, _])) H1
    refine (all_in (mm - 1) (w.heap.size + 1) k e x N hN hx cb sb xb eb (fun pre lk le Js => ∃ v, Js = [RowR 3 1 v pre.length (nums .i64 pre), Blk kb (.cells #[v] 33 (0, 0)), Blk lb (.cells #[.int .i64 lk, .int .i64 le] 32 (0, 0)), Blk (w.heap.size + 1) (.loop (LoopR fn a.tmps ps assign body w.heap.size .ready))]) ?_ _ ⟨v0, rfl⟩ H2).mono ?_
    · intro m2 pre lk le x dk de Js w1 Xs1 hlen hJ hH
      obtain ⟨v, rfl⟩ := hJ
      have hl := hH.nthk 3 rfl
      have hy := run_yield (P := Try.prog) (args := #[.int .i64 x, .agg #[.int .i64 dk, .int .i64 de]]) hl hps.symm
      refine ⟨fn, _, assign, body, hy, roundIn_of_wpIn trivial (wpIn_mono (hass m2 _ x dk de w1 _ hH) ?_)⟩
      rintro e' a1 w2 hh
      cases e' with
      | normal =>
        obtain ⟨c, hA, hB⟩ := hh
        have hl2 := hB.nthk 4 rfl
        refine ⟨_, run_beginRound hl2 rfl, wpIn_mono (hbody m2 _ c a1 x dk de pre v lk le _ (Blk (w.heap.size + 1) (.loop (LoopR fn a.tmps ps assign body w.heap.size .busy)) :: Xs1) hA hlen ?_) ?_⟩
        · exact Hd.perm (swap_mid (A := [_]) (B := [_, _, _, _])) ((hB.front 4 rfl).putObj _)
        · rintro e3 a3 w3 ⟨rfl, v', hd⟩
          refine ⟨_, _, run_endRound none (hd.nthk 3 rfl), rfl, _, ⟨v', rfl⟩, ?_⟩
          exact Hd.perm (swap_mid (A := [_]) (B := [_, _, _])) ((hd.front 3 rfl).putObj _)
      | _ => exact hh.elim
    · rintro e' w3 ⟨⟨v, rfl⟩, pre, lk, le, Js, hp, ⟨v', rfl⟩, hd⟩
      refine ⟨_, _, run_endLoop (hd.nthk 8 rfl) (by simp [LoopR]), ?_⟩
      exact hafter w.heap.size pre lk le v' _ hp ((hd.front 8 rfl).putObj _).drop
end
end Go.Proofs.Ytpcfmafokkffgaa
namespace Go.Proofs.Ytpcfmafokkffgaa
open Go.RowKit Go.Shelf
attribute [local go_sem] Oper.semAt_some

theorem Hd.row_nil15 {W w : World} {Rs : List Res} {E : TypeId} {size : Nat} (h : Hd W w Rs) : Hd W w (RowR E size (.slice none 0 0) 0 [] :: Rs) :=
  h.add (Below.refl _ _) (fun _ => none) ⟨by simp, .inl ⟨rfl, rfl, rfl⟩⟩ (fun k o hk => by cases hk) (fun k hk => absurd rfl hk)

/-- An operation that asks for no round and puts off no call. -/
def NoRow (P : Program) (o : Oper) : Prop := (∀ c, o.op ≠ .defer c) ∧ ∀ (a : Act) (w : World) row args w', (execOp a.eval o).run P w ≠ .ok (.row row args) w'
theorem NoRow.val {P : Program} {o : Oper} (f : (Operand → Value) → Sem Value) (h : ∀ ρ, execOp ρ o = do pure (.value (← f ρ))) (hd : ∀ c, o.op ≠ .defer c) : NoRow P o := by
  refine ⟨hd, fun a w row args w' => ?_⟩
  rw [h, Sem.run_bind]
  cases (f a.eval).run P w <;> simp [Result.andThen, Sem.run_pure]
theorem NoRow.unit {P : Program} {o : Oper} (f : (Operand → Value) → Sem Unit) (h : ∀ ρ, execOp ρ o = do f ρ; pure .skip) (hd : ∀ c, o.op ≠ .defer c) : NoRow P o := by
  refine ⟨hd, fun a w row args w' => ?_⟩
  rw [h, Sem.run_bind]
  cases (f a.eval).run P w <;> simp [Result.andThen, Sem.run_pure]
theorem NoRow.app {P : Program} {o : Oper} (c : Call) (h : o.op = .call c) (hc : c.callee = .builtin .append) : NoRow P o := by
  refine ⟨fun c hc => (by rw [h] at hc; cases hc), fun a w row args w' => ?_⟩
  obtain ⟨callee, args, tys⟩ := c
  dsimp only at hc
  subst hc
  simp only [execOp, h, resolve, invoke, builtin, Sem.run_bind, Sem.run_pure, Result.andThen_ok]
  generalize (Builtin.append_ _ _ _).run P w = r
  cases r <;> simp [Result.andThen]
theorem noRows {P : Program} {l : List Oper} (h : StepAll (fun _ o => NoRow P o) 0 l) : ∀ (i : Nat) (o : Oper), l.toArray[i]? = some o → (∀ c, o.op ≠ .defer c) ∧ ∀ (a : Act) w row args w', (execOp a.eval o).run P w ≠ .ok (.row row args) w' := fun i o ho => by
  have := h.at (show l[i]? = some o by simpa using ho)
  exact this

section
variable {W w : World} {Rs : List Res} {b : Nat} {L : List T} {m : Int}

set_option maxRecDepth 100000 in
set_option maxHeartbeats 4000000 in
theorem to_calls (k e x : Int) (bx : -9223372036854775808 ≤ x) (bx' : x ≤ 9223372036854775807) (be : -9223372036854775808 ≤ e) (be' : e ≤ 9223372036854775807) (h : Hd W w (Sto b L m :: Rs)) {q : (Int × Int) × List Int × Int × List T} (hq : to15 m L k e x = q) :
    Calls Try.prog 20 #[.agg #[.int .i64 k, .int .i64 e], .pointer (some ⟨b, 0, none⟩), .int .i64 x] w fun e' w' => ∃ v, e' = .returned (.tuple #[.agg #[.int .i64 q.1.1, .int .i64 q.1.2], v, .int .i64 q.2.2.1]) ∧ Hd W w' (RowR 3 1 v q.2.1.length (nums .i64 q.2.1) :: Sto b q.2.2.2 m :: Rs) := by
  have mixed : Try.prog.follows .mixedOrders = true := by kernel_rfl
  have H := hid h
  clear h
  refine (callsIn_wide (n := 0)).1 ?_
  by_cases h1 : x < e
  · have d1 : decide (x < e) = true := by simpa using h1
    have HQ := hid (show to15 m L k e x = _ from if_pos h1)
    clear h1 bx bx' be be'
    refine callsIn_of_wp_marks Try.func20 rfl trivial ?_ rfl
    simp only [Try.ntmps20, List.size_toArray, List.length_cons, List.length_nil, Nat.reduceAdd, Nat.reduceSub, Array.replicate_succ, Array.replicate_zero, List.push_toArray, List.append_toArray, List.nil_append, List.cons_append]
    gi_wp2
    refine ⟨.tuple #[.agg #[.int .i64 0, .int .i64 0], .slice none 0 0, .int .i64 12], ?_, .slice none 0 0, ?_, ?_⟩
    · simp [results, Try.results20, go_sem]
    · rw [← hq, HQ.out]
    · rw [← hq, HQ.out]
      exact Hd.row_nil15 ((((H.out.boxk (o := .cells #[.int .i64 k, .int .i64 e] 32 (0, 0)) w.heap.size rfl).boxk (o := .cells #[.pointer (some ⟨b, 0, none⟩)] 25 (0, 0)) (w.heap.size + 1) (by simp)).boxk (o := .cells #[.int .i64 x] 3 (0, 0)) (w.heap.size + 1 + 1) (by simp)).boxk (o := .cells #[.int .i64 0, .int .i64 0] 32 (0, 0)) (w.heap.size + 1 + 1 + 1) (by simp)).drop.drop.drop.drop
  · have d1 : decide (x < e) = false := by simpa using h1
    have hu : IntKind.u64.wrap (IntKind.u64.wrap x - IntKind.u64.wrap e) = x - e := by
      simp only [IntKind.wrap, IntKind.bits, IntKind.signed]
      simp
      omega
    by_cases h2 : 4 < x - e
    · have d2 : decide (4 < x - e) = true := by simpa using h2
      have HQ := hid (show to15 m L k e x = _ from (if_neg h1).trans (if_pos h2))
      clear h1 h2 bx bx' be be'
      refine callsIn_of_wp_marks Try.func20 rfl trivial ?_ rfl
      simp only [Try.ntmps20, List.size_toArray, List.length_cons, List.length_nil, Nat.reduceAdd, Nat.reduceSub, Array.replicate_succ, Array.replicate_zero, List.push_toArray, List.append_toArray, List.nil_append, List.cons_append]
      gi_wp2
      refine ⟨.tuple #[.agg #[.int .i64 0, .int .i64 0], .slice none 0 0, .int .i64 13], ?_, .slice none 0 0, ?_, ?_⟩
      · simp [results, Try.results20, go_sem]
      · rw [← hq, HQ.out]
      · rw [← hq, HQ.out]
        exact Hd.row_nil15 ((((H.out.boxk (o := .cells #[.int .i64 k, .int .i64 e] 32 (0, 0)) w.heap.size rfl).boxk (o := .cells #[.pointer (some ⟨b, 0, none⟩)] 25 (0, 0)) (w.heap.size + 1) (by simp)).boxk (o := .cells #[.int .i64 x] 3 (0, 0)) (w.heap.size + 1 + 1) (by simp)).boxk (o := .cells #[.int .i64 0, .int .i64 0] 32 (0, 0)) (w.heap.size + 1 + 1 + 1) (by simp)).drop.drop.drop.drop
    · have d2 : decide (4 < x - e) = false := by simpa using h2
      obtain ⟨N, hN⟩ : ∃ N : Nat, x - e = N := ⟨(x - e).toNat, by omega⟩
      have hN4 : N ≤ 4 := by omega
      have HQ : Hid (to15 m L k e x = if (steps15 m N L k e).2.2.1 = 0 then ((steps15 m N L k e).2.1, (steps15 m N L k e).1, 0, (steps15 m N L k e).2.2.2) else ((0, 0), [], (steps15 m N L k e).2.2.1, (steps15 m N L k e).2.2.2)) := hid (by
        unfold to15
        rw [if_neg h1, if_neg h2, show (x - e).toNat = N by omega])
      have HN := hid hN
      have HN4 := hid hN4
      clear h1 h2 bx bx' be be' hN hN4
      refine callsIn_of_wp_marks Try.func20 rfl trivial ?_ rfl
      simp only [Try.ntmps20, List.size_toArray, List.length_cons, List.length_nil, Nat.reduceAdd, Nat.reduceSub, Array.replicate_succ, Array.replicate_zero, List.push_toArray, List.append_toArray, List.nil_append, List.cons_append]
      gi_wp2
      rename_i Q' K hK
      have HK := hid hK
      clear hK
      have hH := Hd.row_nil15 (E := 3) (size := 1) (((((((H.out.boxk (o := .cells #[.int .i64 k, .int .i64 e] 32 (0, 0)) w.heap.size rfl).boxk (o := .cells #[.pointer (some ⟨b, 0, none⟩)] 25 (0, 0)) (w.heap.size + 1) (by simp)).boxk (o := .cells #[.int .i64 x] 3 (0, 0)) (w.heap.size + 1 + 1) (by simp)).boxk (o := .cells #[.int .i64 0, .int .i64 0] 32 (0, 0)) (w.heap.size + 1 + 1 + 1) (by simp)).boxk (o := .cells #[.slice none 0 0] 33 (0, 0)) (w.heap.size + 1 + 1 + 1 + 1) (by simp)).boxk (o := .cells #[.int .i64 0] 34 (0, 0)) (w.heap.size + 1 + 1 + 1 + 1 + 1) (by simp)).boxk (o := .cells #[.int .i64 k, .int .i64 e] 32 (0, 0)) (w.heap.size + 1 + 1 + 1 + 1 + 1 + 1) (by simp))
      have hH2 := ((((((((hH.front 4 rfl).front 2 rfl).front 4 rfl).front 3 rfl).front 5 rfl).front 6 rfl).front 7 rfl).front 7 rfl).front 8 rfl
      clear hH
      refine to_loop (g := .tmp 32) rfl k e x N HN4.out HN.out (w.heap.size) (w.heap.size + 1) (w.heap.size + 1 + 1) (w.heap.size + 1 + 1 + 1 + 1 + 1) (w.heap.size + 1 + 1 + 1 + 1) (w.heap.size + 1 + 1 + 1 + 1 + 1 + 1) (.slice none 0 0) (fun x c a1 => a1.tmps.size = 46 ∧ a1.eval (.tmp 9) = .pointer (some ⟨w.heap.size + 1 + 1 + 1 + 1, 0, none⟩) ∧ a1.eval (.tmp 11) = .pointer (some ⟨w.heap.size + 1 + 1 + 1 + 1 + 1 + 1, 0, none⟩) ∧ a1.eval (.tmp 13) = .int .i64 x ∧ a1.eval (.tmp 14) = .pointer (some ⟨c, 0, none⟩)) rfl hH2 ?ass ?body ?after
      case ass =>
        intro mm l x dk de w1 Ys hY
        gi_wp2_with (rw [Oper.semAt_eq _ _ _ (fun c h => by cases h)]; go_simp; try go_bits)
        exact ⟨w1.heap.size, ⟨rfl, rfl, rfl, rfl, rfl⟩, hY.box _⟩
      case body =>
        generalize w.heap.size + 1 + 1 + 1 + 1 = kb
        rintro mm l c a1 xx dk de pre v lk le w1 Ys ⟨hsz, E9, E11, E13, E14⟩ hlen hH
        generalize kb + 1 + 1 = lb at *
        obtain ⟨va, vc, rfl⟩ := hH.drop.row_form
        obtain ⟨i0, hi0, hz0, hs0, hy0⟩ := info_int
        have ht : Try.prog.underlying 33 = some (.slice 3) := by kernel_rfl
        refine wpIn_block ?_
        refine hold_coreB (P := Try.prog) (W := W) (Rs := Blk c (.cells #[.int .i64 dk, .int .i64 de] 32 (0, 0)) :: Ys) [[], [], [1], [0, 2], [], [0, 3], [4]] [[], [], [2], [3], [], [3], []] ([some 35, some 36, some 37, some 38, some 39, none, none] : List (Option Nat)) ([none, none, none, none, none, none, none, some 3, some 5, some 6] : List (Option Nat))
          ((fun _ => .slice va pre.length vc) :: (fun _ => .int .i64 xx) :: (fun gs => .slice (some ⟨(gs.getD 0 default).2, 0, none⟩) 1 1) :: (fun gs => .slice (gs.getD 0 default).1 (pre.length + 1) (gs.getD 0 default).2) :: (fun _ => .agg #[.int .i64 dk, .int .i64 de]) :: (fun _ => undef) :: (fun _ => undef) :: [])
          ((fun _ => []) :: (fun _ => []) :: (fun gs => [Blk (gs.getD 0 default).2 (.cells #[.int .i64 xx] 3 (0, 0))]) :: (fun _ => []) :: (fun _ => []) :: (fun _ => []) :: (fun _ => []) :: (fun _ => [RowR 3 1 (.slice va pre.length vc) pre.length (nums .i64 pre)]) :: (fun _ => [Blk kb (.cells #[.slice va pre.length vc] 33 (0, 0))]) :: (fun _ => [Blk lb (.cells #[.int .i64 lk, .int .i64 le] 32 (0, 0))]) :: ([] : List (List Gh → List Res)))
          ((fun _ => []) :: (fun _ => []) :: (fun _ => []) :: (fun _ => []) :: (fun _ => []) :: (fun _ => []) :: (fun _ => []) :: (fun gs => [RowR 3 1 (.slice (gs.getD 0 default).1 (pre.length + 1) (gs.getD 0 default).2) (pre.length + 1) (nums .i64 (pre ++ [xx]))]) :: (fun gs => [Blk kb (.cells #[.slice (gs.getD 0 default).1 (pre.length + 1) (gs.getD 0 default).2] 33 (0, 0))]) :: (fun _ => [Blk lb (.cells #[.int .i64 dk, .int .i64 de] 32 (0, 0))]) :: ([] : List (List Gh → List Res)))
          (by kernel_rfl) rfl (hold_lt (n := 46) (by decide) hsz) (Hd.perm (swap_mid (A := [_]) (B := [_, _, _])) hH) rfl (by decide) (hold_nil (fs := [3, 5, 6]) trivial rfl ?nil) ?gd ?step (fun _ => true) (by decide) ?done (fun I h0 st dn => run_wpInB mixed (noRows ?rows) I h0 st dn)
        case nil =>
          intro s gs hs
          simp only [List.mem_cons, List.not_mem_nil, or_false] at hs
          rcases hs with rfl | rfl | rfl <;> rfl
        case gd =>
          repeat (refine StepAll.cons (by first | exact trivial | exact fun g => rfl) ?_)
          exact trivial
        case rows =>
          refine StepAll.cons (NoRow.val _ (fun ρ => rfl) (fun c h => by cases h)) ?_
          refine StepAll.cons (NoRow.val (fun ρ => pure (ρ (.tmp 13))) (fun ρ => rfl) (fun c h => by cases h)) ?_
          refine StepAll.cons (NoRow.val _ (fun ρ => rfl) (fun c h => by cases h)) ?_
          refine StepAll.cons (NoRow.app _ rfl rfl) ?_
          refine StepAll.cons (NoRow.val _ (fun ρ => rfl) (fun c h => by cases h)) ?_
          refine StepAll.cons (NoRow.unit _ (fun ρ => rfl) (fun c h => by cases h)) ?_
          refine StepAll.cons (NoRow.unit _ (fun ρ => rfl) (fun c h => by cases h)) ?_
          exact trivial
        case step =>
          refine StepAll.cons ?_ ?_
          · refine HoldStepB.val (by decide) fun a wx γ hn hr hres hpre Ss hH K hK => ?_
            have e9 := (hr 9 (by decide)).trans E9
            obtain ⟨Zs, hB⟩ := hpre 8 5 rfl (by decide) (by decide)
            have c0 := (cell_of_heap (show Hd W wx (Blk kb (.cells #[.slice va pre.length vc] 33 (0, 0)) :: Zs) from hB).blk 0).trans (show _ = some (.slice va pre.length vc) from rfl)
            exact hold_run (v := .slice va pre.length vc) (by clear hn hr hK; generalize a.eval = ρ at *; simp [execOp, e9, c0, go_sem]) rfl rfl hH hK
          refine StepAll.cons ?_ ?_
          · refine HoldStepB.val (by decide) fun a wx γ hn hr hres hpre Ss hH K hK => ?_
            have e13 := (hr 13 (by decide)).trans E13
            exact hold_run (v := .int .i64 xx) (by clear hn hr hK; generalize a.eval = ρ at *; simp [execOp, e13, go_sem]) rfl rfl hH hK
          refine StepAll.cons ?_ ?_
          · refine HoldStepB.val (by decide) fun a wx γ hn hr hres hpre Ss hH K hK => ?_
            have e36 : a.eval (.tmp 36) = .int .i64 xx := hn 1 (by decide) 36 rfl
            exact hold_new (obj := .cells #[.int .i64 xx] 3 (0, 0)) (v := .slice (some ⟨wx.heap.size, 0, none⟩) 1 1) (by clear hn hr hK; generalize a.eval = ρ at *; simp [execOp, e36, go_sem]) rfl rfl hH hK
          refine StepAll.cons ?_ ?_
          · refine HoldStepB.fil 7 (by decide) fun a wx γ hn hr hres hpre Ss hH K hK => ?_
            have e35 : a.eval (.tmp 35) = .slice va pre.length vc := hn 0 (by decide) 35 rfl
            have e37 : a.eval (.tmp 37) = .slice (some ⟨(γ 2).2, 0, none⟩) 1 1 := hn 2 (by decide) 37 rfl
            obtain ⟨Zs, hB⟩ := hres 2 (by decide) rfl
            exact hold_appB xx ht hi0 hz0 hs0 hy0 (by decide) (.tmp 35) (.tmp 37) rfl hH e35 e37 (show Hd W wx (Blk (γ 2).2 (.cells #[.int .i64 xx] 3 (0, 0)) :: Zs) from hB).blk (by omega) (fun y => rfl) (fun y => rfl) hK
          refine StepAll.cons ?_ ?_
          · refine HoldStepB.val (by decide) fun a wx γ hn hr hres hpre Ss hH K hK => ?_
            have e14 := (hr 14 (by decide)).trans E14
            have hk := hH.rear.blk
            have c0 := (cell_of_heap hk 0).trans (show _ = some (.int .i64 dk) from rfl)
            have c1 := (cell_of_heap hk 1).trans (show _ = some (.int .i64 de) from rfl)
            clear hk
            exact hold_run (v := .agg #[.int .i64 dk, .int .i64 de]) (by clear hn hr hK; generalize a.eval = ρ at *; simp [execOp, e14, c0, c1, go_sem]) rfl rfl hH hK
          refine StepAll.cons ?_ ?_
          · refine HoldStepB.fil 8 (by decide) fun a wx γ hn hr hres hpre Ss hH K hK => ?_
            have e9 := (hr 9 (by decide)).trans E9
            have e38 : a.eval (.tmp 38) = .slice (γ 3).1 (pre.length + 1) (γ 3).2 := hn 3 (by decide) 38 rfl
            have hH2 : Hd W wx (Blk kb (.cells #[.slice va pre.length vc] 33 (0, 0)) :: (Ss ++ Blk c (.cells #[.int .i64 dk, .int .i64 de] 32 (0, 0)) :: Ys)) := hH
            have hk := hH2.blk
            have c0 := (cell_of_heap hk 0).trans (show _ = some (.slice va pre.length vc) from rfl)
            have cf := frozen_of_heap hk
            clear hk hH
            exact hold_filB (w' := wx.setCell ⟨kb, 0, none⟩ (.slice (γ 3).1 (pre.length + 1) (γ 3).2)) (by clear hn hr hK hH2; generalize a.eval = ρ at *; simp [execOp, e9, e38, c0, cf, go_sem]) rfl rfl (hH2.set 0 (.slice (γ 3).1 (pre.length + 1) (γ 3).2)) hK
          refine StepAll.cons ?_ ?_
          · refine HoldStepB.fil 9 (by decide) fun a wx γ hn hr hres hpre Ss hH K hK => ?_
            have e11 := (hr 11 (by decide)).trans E11
            have e39 : a.eval (.tmp 39) = .agg #[.int .i64 dk, .int .i64 de] := hn 4 (by decide) 39 rfl
            have hH2 : Hd W wx (Blk lb (.cells #[.int .i64 lk, .int .i64 le] 32 (0, 0)) :: (Ss ++ Blk c (.cells #[.int .i64 dk, .int .i64 de] 32 (0, 0)) :: Ys)) := hH
            have hk := hH2.blk
            have c0 := (cell_of_heap hk 0).trans (show _ = some (.int .i64 lk) from rfl)
            have c1 := (cell_of_heap hk 1).trans (show _ = some (.int .i64 le) from rfl)
            have cf := frozen_of_heap hk
            clear hk hH
            exact hold_filB (w' := (wx.setCell ⟨lb, 0, none⟩ (.int .i64 dk)).setCell ⟨lb, 1, none⟩ (.int .i64 de)) (by clear hn hr hK hH2; generalize a.eval = ρ at *; simp [execOp, e11, e39, c0, c1, cf, go_sem]) rfl rfl ((hH2.set 0 (.int .i64 dk)).set 1 (.int .i64 de)) hK
          exact trivial
        case done =>
          intro f w9 g9 hv h9
          refine ⟨rfl, .slice (g9 3).1 (pre.length + 1) (g9 3).2, ?_⟩
          have hd : Hd W w9 (Blk (g9 2).2 (.cells #[.int .i64 xx] 3 (0, 0)) :: RowR 3 1 (.slice (g9 3).1 (pre.length + 1) (g9 3).2) (pre.length + 1) (nums .i64 (pre ++ [xx])) :: Blk kb (.cells #[.slice (g9 3).1 (pre.length + 1) (g9 3).2] 33 (0, 0)) :: Blk lb (.cells #[.int .i64 dk, .int .i64 de] 32 (0, 0)) :: Blk c (.cells #[.int .i64 dk, .int .i64 de] 32 (0, 0)) :: Ys) := h9
          rw [show (pre ++ [xx]).length = pre.length + 1 by simp]
          exact (hd.drop.front 3 rfl).drop
      case after =>
        intro D pre lk le v w2 hp hd
        obtain ⟨r, hr⟩ : ∃ r, steps15 m N L k e = r := ⟨_, rfl⟩
        have hq2 := HQ.out
        rw [hr] at hp hd hq2
        obtain ⟨rk, ⟨rl1, rl2⟩, re, rL⟩ := r
        dsimp only at hp hd hq2
        clear hr HQ H hH2
        obtain ⟨va, vc, rfl⟩ := (hd.front 5 rfl).row_form
        have HD := hid hd
        have HP := hid hp
        have HQ2 := hid hq2
        clear hd hp hq2
        have hk := Hd.nthk 1 HD.out rfl
        have k0 := (cell_of_heap hk 0).trans (show _ = some (.int .i64 re) from rfl)
        clear hk
        refine HK.out _ _ ?_
        by_cases h0 : re = 0
        · subst h0
          obtain ⟨rfl, hl⟩ := HP.out rfl
          obtain ⟨rfl, rfl⟩ := Prod.mk.inj hl
          clear hl HP
          gi_wp2
          refine wpIn_wide.2 ?_
          refine hold_coreB (P := Try.prog) (W := W) (Rs := Sto b rL m :: Blk (w.heap.size + 1 + 1 + 1 + 1 + 1) (.cells #[.int .i64 0] 34 (0, 0)) :: Blk w.heap.size (.cells #[.int .i64 k, .int .i64 e] 32 (0, 0)) :: Blk (w.heap.size + 1) (.cells #[.pointer (some ⟨b, 0, none⟩)] 25 (0, 0)) :: Blk (w.heap.size + 1 + 1) (.cells #[.int .i64 x] 3 (0, 0)) :: RowR 3 1 (.slice va pre.length vc) pre.length (nums .i64 pre) :: Blk (w.heap.size + 1 + 1 + 1 + 1) (.cells #[.slice va pre.length vc] 33 (0, 0)) :: Blk (w.heap.size + 1 + 1 + 1 + 1 + 1 + 1) (.cells #[.int .i64 lk, .int .i64 le] 32 (0, 0)) :: Blk D (.deferred (some [])) :: Rs) [[], [], [0], [1], []] [[], [], [], [], []] ([some 44, some 45, none, some 7, some 8] : List (Option Nat)) ([none, none, none, none, none, some 2] : List (Option Nat))
            ((fun _ => .agg #[.int .i64 lk, .int .i64 le]) :: (fun _ => .slice va pre.length vc) :: (fun _ => undef) :: (fun _ => .slice va pre.length vc) :: (fun _ => .int .i64 0) :: [])
            ((fun _ => []) :: (fun _ => []) :: (fun _ => []) :: (fun _ => []) :: (fun _ => []) :: (fun _ => [Blk (w.heap.size + 1 + 1 + 1) (.cells #[.int .i64 0, .int .i64 0] 32 (0, 0))]) :: ([] : List (List Gh → List Res)))
            ((fun _ => []) :: (fun _ => []) :: (fun _ => []) :: (fun _ => []) :: (fun _ => []) :: (fun _ => [Blk (w.heap.size + 1 + 1 + 1) (.cells #[.int .i64 lk, .int .i64 le] 32 (0, 0))]) :: ([] : List (List Gh → List Res)))
            (by kernel_rfl) rfl (hold_lt (n := 46) (by decide)) (HD.out.front 9 rfl) rfl (by decide) (hold_nil (fs := [2]) trivial rfl ?nil) ?gd ?step (fun t => (decide (7 ≤ t) && decide (t ≤ 8)) || (decide (44 ≤ t) && decide (t ≤ 45))) (by decide) ?done (fun I h0 st dn => run_wpB mixed I h0 st dn)
          case nil =>
            intro s gs hs
            simp only [List.mem_cons, List.not_mem_nil, or_false] at hs
            subst hs; rfl
          case gd =>
            repeat (refine StepAll.cons (by first | exact trivial | exact fun g => rfl) ?_)
            exact trivial
          case step =>
            refine StepAll.cons ?_ ?_
            · refine HoldStepB.val (by decide) fun a wx γ hn hr hres hpre Ss hH K hK => ?_
              have e11 : a.eval (.tmp 11) = .pointer (some ⟨(w.heap.size + 1 + 1 + 1 + 1 + 1 + 1), 0, none⟩) := (hr 11 (by decide)).trans rfl
              have hk := Hd.nthk 7 hH.rear rfl
              have c0 := (cell_of_heap hk 0).trans (show _ = some (.int .i64 lk) from rfl)
              have c1 := (cell_of_heap hk 1).trans (show _ = some (.int .i64 le) from rfl)
              clear hk
              exact hold_run (v := .agg #[.int .i64 lk, .int .i64 le]) (by clear hn hr hK; generalize a.eval = ρ at *; simp [execOp, e11, c0, c1, go_sem]) rfl rfl hH hK
            refine StepAll.cons ?_ ?_
            · refine HoldStepB.val (by decide) fun a wx γ hn hr hres hpre Ss hH K hK => ?_
              have e9 : a.eval (.tmp 9) = .pointer (some ⟨(w.heap.size + 1 + 1 + 1 + 1), 0, none⟩) := (hr 9 (by decide)).trans rfl
              have hk := Hd.nthk 6 hH.rear rfl
              have c0 := (cell_of_heap hk 0).trans (show _ = some (.slice va pre.length vc) from rfl)
              clear hk
              exact hold_run (v := .slice va pre.length vc) (by clear hn hr hK; generalize a.eval = ρ at *; simp [execOp, e9, c0, go_sem]) rfl rfl hH hK
            refine StepAll.cons ?_ ?_
            · refine HoldStepB.fil 5 (by decide) fun a wx γ hn hr hres hpre Ss hH K hK => ?_
              have e6 : a.eval (.tmp 6) = .pointer (some ⟨(w.heap.size + 1 + 1 + 1), 0, none⟩) := (hr 6 (by decide)).trans rfl
              have e44 : a.eval (.tmp 44) = .agg #[.int .i64 lk, .int .i64 le] := hn 0 (by decide) 44 rfl
              have hH2 : Hd W wx (Blk (w.heap.size + 1 + 1 + 1) (.cells #[.int .i64 0, .int .i64 0] 32 (0, 0)) :: (Ss ++ Sto b rL m :: Blk (w.heap.size + 1 + 1 + 1 + 1 + 1) (.cells #[.int .i64 0] 34 (0, 0)) :: Blk w.heap.size (.cells #[.int .i64 k, .int .i64 e] 32 (0, 0)) :: Blk (w.heap.size + 1) (.cells #[.pointer (some ⟨b, 0, none⟩)] 25 (0, 0)) :: Blk (w.heap.size + 1 + 1) (.cells #[.int .i64 x] 3 (0, 0)) :: RowR 3 1 (.slice va pre.length vc) pre.length (nums .i64 pre) :: Blk (w.heap.size + 1 + 1 + 1 + 1) (.cells #[.slice va pre.length vc] 33 (0, 0)) :: Blk (w.heap.size + 1 + 1 + 1 + 1 + 1 + 1) (.cells #[.int .i64 lk, .int .i64 le] 32 (0, 0)) :: Blk D (.deferred (some [])) :: Rs)) := hH
              have hk := hH2.blk
              have c0 := (cell_of_heap hk 0).trans (show _ = some (.int .i64 0) from rfl)
              have c1 := (cell_of_heap hk 1).trans (show _ = some (.int .i64 0) from rfl)
              have cf := frozen_of_heap hk
              clear hk hH
              exact hold_filB (w' := (wx.setCell ⟨(w.heap.size + 1 + 1 + 1), 0, none⟩ (.int .i64 lk)).setCell ⟨(w.heap.size + 1 + 1 + 1), 1, none⟩ (.int .i64 le)) (by clear hn hr hK hH2; generalize a.eval = ρ at *; simp [execOp, e6, e44, c0, c1, cf, go_sem]) rfl rfl ((hH2.set 0 (.int .i64 lk)).set 1 (.int .i64 le)) hK
            refine StepAll.cons ?_ ?_
            · refine HoldStepB.val (by decide) fun a wx γ hn hr hres hpre Ss hH K hK => ?_
              have e45 : a.eval (.tmp 45) = .slice va pre.length vc := hn 1 (by decide) 45 rfl
              exact hold_run (v := .slice va pre.length vc) (by clear hn hr hK; generalize a.eval = ρ at *; simp [execOp, e45, go_sem]) rfl rfl hH hK
            refine StepAll.cons ?_ ?_
            · refine HoldStepB.val (by decide) fun a wx γ hn hr hres hpre Ss hH K hK => ?_
              have ec := evc a
              exact hold_run (v := .int .i64 0) (by clear hn hr hK; generalize a.eval = ρ at *; simp [execOp, ec, go_sem]) rfl rfl hH hK
            exact trivial
          case done =>
            intro f w9 g9 hv h9
            have er7 : f 7 = .slice va pre.length vc := hv 3 7 rfl
            have er8 : f 8 = .int .i64 0 := hv 4 8 rfl
            have H9 : Hid (Hd W w9 (Blk (w.heap.size + 1 + 1 + 1) (.cells #[.int .i64 lk, .int .i64 le] 32 (0, 0)) :: Sto b rL m :: Blk (w.heap.size + 1 + 1 + 1 + 1 + 1) (.cells #[.int .i64 0] 34 (0, 0)) :: Blk w.heap.size (.cells #[.int .i64 k, .int .i64 e] 32 (0, 0)) :: Blk (w.heap.size + 1) (.cells #[.pointer (some ⟨b, 0, none⟩)] 25 (0, 0)) :: Blk (w.heap.size + 1 + 1) (.cells #[.int .i64 x] 3 (0, 0)) :: RowR 3 1 (.slice va pre.length vc) pre.length (nums .i64 pre) :: Blk (w.heap.size + 1 + 1 + 1 + 1) (.cells #[.slice va pre.length vc] 33 (0, 0)) :: Blk (w.heap.size + 1 + 1 + 1 + 1 + 1 + 1) (.cells #[.int .i64 lk, .int .i64 le] 32 (0, 0)) :: Blk D (.deferred (some [])) :: Rs)) := hid h9
            clear hv h9 HD
            simp only [patchG, Nat.reduceAdd, Nat.reduceLeDiff, decide_true, decide_false, Bool.and_true, Bool.and_false, Bool.or_true, Bool.or_false, cond_true, cond_false, er7, er8]
            clear er7 er8
            gi_wp2
            refine ⟨by simp, .inl ⟨_, _, rfl, run_takeDeferred (Hd.nthk 9 H9.out rfl), ?_⟩⟩
            have hd2 := ((H9.out.front 9 rfl).putObj (.deferred none)).drop
            have hk := hd2.blk
            have c0 := (cell_of_heap hk 0).trans (show _ = some (.int .i64 lk) from rfl)
            have c1 := (cell_of_heap hk 1).trans (show _ = some (.int .i64 le) from rfl)
            clear hk
            refine ⟨.tuple #[.agg #[.int .i64 lk, .int .i64 le], .slice va pre.length vc, .int .i64 0], ?_, .slice va pre.length vc, ?_, ?_⟩
            · simp [results, Try.results20, c0, c1, go_sem]
            · rw [← hq, HQ2.out, if_pos trivial]
            · rw [← hq, HQ2.out, if_pos trivial]
              have hd3 := hd2.drop.front 5 rfl
              exact (((((((((((hd3.front 2 rfl).drop).front 2 rfl).drop).front 2 rfl).drop).front 2 rfl).drop).front 2 rfl).drop).front 2 rfl).drop
        · have dx : (re != 0) = true := by rw [bne_iff_ne]; exact h0
          have dx' : decide (re = 0) = false := by simpa using h0
          gi_wp2
          refine wpIn_wide.2 ?_
          refine hold_coreB (P := Try.prog) (W := W) (Rs := Sto b rL m :: Blk (w.heap.size + 1 + 1 + 1 + 1 + 1) (.cells #[.int .i64 re] 34 (0, 0)) :: Blk w.heap.size (.cells #[.int .i64 k, .int .i64 e] 32 (0, 0)) :: Blk (w.heap.size + 1) (.cells #[.pointer (some ⟨b, 0, none⟩)] 25 (0, 0)) :: Blk (w.heap.size + 1 + 1) (.cells #[.int .i64 x] 3 (0, 0)) :: RowR 3 1 (.slice va pre.length vc) pre.length (nums .i64 pre) :: Blk (w.heap.size + 1 + 1 + 1 + 1) (.cells #[.slice va pre.length vc] 33 (0, 0)) :: Blk (w.heap.size + 1 + 1 + 1 + 1 + 1 + 1) (.cells #[.int .i64 lk, .int .i64 le] 32 (0, 0)) :: Blk D (.deferred (some [])) :: Rs) [[], [], [0], [], [1]] [[], [], [], [], []] ([some 42, some 43, none, some 7, some 8] : List (Option Nat)) ([none, none, none, none, none, some 2] : List (Option Nat))
            ((fun _ => .agg #[.int .i64 0, .int .i64 0]) :: (fun _ => .int .i64 re) :: (fun _ => undef) :: (fun _ => .slice none 0 0) :: (fun _ => .int .i64 re) :: [])
            ((fun _ => []) :: (fun _ => []) :: (fun _ => []) :: (fun _ => []) :: (fun _ => []) :: (fun _ => [Blk (w.heap.size + 1 + 1 + 1) (.cells #[.int .i64 0, .int .i64 0] 32 (0, 0))]) :: ([] : List (List Gh → List Res)))
            ((fun _ => []) :: (fun _ => []) :: (fun _ => []) :: (fun _ => []) :: (fun _ => []) :: (fun _ => [Blk (w.heap.size + 1 + 1 + 1) (.cells #[.int .i64 0, .int .i64 0] 32 (0, 0))]) :: ([] : List (List Gh → List Res)))
            (by kernel_rfl) rfl (hold_lt (n := 46) (by decide)) (HD.out.front 9 rfl) rfl (by decide) (hold_nil (fs := [2]) trivial rfl ?nil) ?gd ?step (fun t => (decide (7 ≤ t) && decide (t ≤ 8)) || (decide (42 ≤ t) && decide (t ≤ 43))) (by decide) ?done (fun I h0 st dn => run_wpB mixed I h0 st dn)
          case nil =>
            intro s gs hs
            simp only [List.mem_cons, List.not_mem_nil, or_false] at hs
            subst hs; rfl
          case gd =>
            repeat (refine StepAll.cons (by first | exact trivial | exact fun g => rfl) ?_)
            exact trivial
          case step =>
            refine StepAll.cons ?_ ?_
            · refine HoldStepB.val (by decide) fun a wx γ hn hr hres hpre Ss hH K hK => ?_
              exact hold_run (v := .agg #[.int .i64 0, .int .i64 0]) (by clear hn hr hK; generalize a.eval = ρ at *; simp [execOp, go_sem]) rfl rfl hH hK
            refine StepAll.cons ?_ ?_
            · refine HoldStepB.val (by decide) fun a wx γ hn hr hres hpre Ss hH K hK => ?_
              have e10 : a.eval (.tmp 10) = .pointer (some ⟨(w.heap.size + 1 + 1 + 1 + 1 + 1), 0, none⟩) := (hr 10 (by decide)).trans rfl
              have hk := Hd.nthk 1 hH.rear rfl
              have c0 := (cell_of_heap hk 0).trans (show _ = some (.int .i64 re) from rfl)
              clear hk
              exact hold_run (v := .int .i64 re) (by clear hn hr hK; generalize a.eval = ρ at *; simp [execOp, e10, c0, go_sem]) rfl rfl hH hK
            refine StepAll.cons ?_ ?_
            · refine HoldStepB.fil 5 (by decide) fun a wx γ hn hr hres hpre Ss hH K hK => ?_
              have e6 : a.eval (.tmp 6) = .pointer (some ⟨(w.heap.size + 1 + 1 + 1), 0, none⟩) := (hr 6 (by decide)).trans rfl
              have e42 : a.eval (.tmp 42) = .agg #[.int .i64 0, .int .i64 0] := hn 0 (by decide) 42 rfl
              have hH2 : Hd W wx (Blk (w.heap.size + 1 + 1 + 1) (.cells #[.int .i64 0, .int .i64 0] 32 (0, 0)) :: (Ss ++ Sto b rL m :: Blk (w.heap.size + 1 + 1 + 1 + 1 + 1) (.cells #[.int .i64 re] 34 (0, 0)) :: Blk w.heap.size (.cells #[.int .i64 k, .int .i64 e] 32 (0, 0)) :: Blk (w.heap.size + 1) (.cells #[.pointer (some ⟨b, 0, none⟩)] 25 (0, 0)) :: Blk (w.heap.size + 1 + 1) (.cells #[.int .i64 x] 3 (0, 0)) :: RowR 3 1 (.slice va pre.length vc) pre.length (nums .i64 pre) :: Blk (w.heap.size + 1 + 1 + 1 + 1) (.cells #[.slice va pre.length vc] 33 (0, 0)) :: Blk (w.heap.size + 1 + 1 + 1 + 1 + 1 + 1) (.cells #[.int .i64 lk, .int .i64 le] 32 (0, 0)) :: Blk D (.deferred (some [])) :: Rs)) := hH
              have hk := hH2.blk
              have c0 := (cell_of_heap hk 0).trans (show _ = some (.int .i64 0) from rfl)
              have c1 := (cell_of_heap hk 1).trans (show _ = some (.int .i64 0) from rfl)
              have cf := frozen_of_heap hk
              clear hk hH
              exact hold_filB (w' := (wx.setCell ⟨(w.heap.size + 1 + 1 + 1), 0, none⟩ (.int .i64 0)).setCell ⟨(w.heap.size + 1 + 1 + 1), 1, none⟩ (.int .i64 0)) (by clear hn hr hK hH2; generalize a.eval = ρ at *; simp [execOp, e6, e42, c0, c1, cf, go_sem]) rfl rfl ((hH2.set 0 (.int .i64 0)).set 1 (.int .i64 0)) hK
            refine StepAll.cons ?_ ?_
            · refine HoldStepB.val (by decide) fun a wx γ hn hr hres hpre Ss hH K hK => ?_
              have ec := evc a
              exact hold_run (v := .slice none 0 0) (by clear hn hr hK; generalize a.eval = ρ at *; simp [execOp, ec, go_sem]) rfl rfl hH hK
            refine StepAll.cons ?_ ?_
            · refine HoldStepB.val (by decide) fun a wx γ hn hr hres hpre Ss hH K hK => ?_
              have e43 : a.eval (.tmp 43) = .int .i64 re := hn 1 (by decide) 43 rfl
              exact hold_run (v := .int .i64 re) (by clear hn hr hK; generalize a.eval = ρ at *; simp [execOp, e43, go_sem]) rfl rfl hH hK
            exact trivial
          case done =>
            intro f w9 g9 hv h9
            have er7 : f 7 = .slice none 0 0 := hv 3 7 rfl
            have er8 : f 8 = .int .i64 re := hv 4 8 rfl
            have H9 : Hid (Hd W w9 (Blk (w.heap.size + 1 + 1 + 1) (.cells #[.int .i64 0, .int .i64 0] 32 (0, 0)) :: Sto b rL m :: Blk (w.heap.size + 1 + 1 + 1 + 1 + 1) (.cells #[.int .i64 re] 34 (0, 0)) :: Blk w.heap.size (.cells #[.int .i64 k, .int .i64 e] 32 (0, 0)) :: Blk (w.heap.size + 1) (.cells #[.pointer (some ⟨b, 0, none⟩)] 25 (0, 0)) :: Blk (w.heap.size + 1 + 1) (.cells #[.int .i64 x] 3 (0, 0)) :: RowR 3 1 (.slice va pre.length vc) pre.length (nums .i64 pre) :: Blk (w.heap.size + 1 + 1 + 1 + 1) (.cells #[.slice va pre.length vc] 33 (0, 0)) :: Blk (w.heap.size + 1 + 1 + 1 + 1 + 1 + 1) (.cells #[.int .i64 lk, .int .i64 le] 32 (0, 0)) :: Blk D (.deferred (some [])) :: Rs)) := hid h9
            clear hv h9 HD
            simp only [patchG, Nat.reduceAdd, Nat.reduceLeDiff, decide_true, decide_false, Bool.and_true, Bool.and_false, Bool.or_true, Bool.or_false, cond_true, cond_false, er7, er8]
            clear er7 er8
            gi_wp2
            refine ⟨by simp, .inl ⟨_, _, rfl, run_takeDeferred (Hd.nthk 9 H9.out rfl), ?_⟩⟩
            have hd2 := ((H9.out.front 9 rfl).putObj (.deferred none)).drop
            have hk := hd2.blk
            have c0 := (cell_of_heap hk 0).trans (show _ = some (.int .i64 0) from rfl)
            have c1 := (cell_of_heap hk 1).trans (show _ = some (.int .i64 0) from rfl)
            clear hk
            refine ⟨.tuple #[.agg #[.int .i64 0, .int .i64 0], .slice none 0 0, .int .i64 re], ?_, .slice none 0 0, ?_, ?_⟩
            · simp [results, Try.results20, c0, c1, go_sem]
            · rw [← hq, HQ2.out, if_neg h0]
            · rw [← hq, HQ2.out, if_neg h0]
              exact Hd.row_nil15 hd2.drop.un2.un2.un2.un2.un2.un2.un2
end
end Go.Proofs.Ytpcfmafokkffgaa
namespace Go.Proofs.Ytpcfmafokkffgaa
open Go.RowKit

def sl1 : List T := (put 200 [] ⟨2, ⟨#[]⟩, 9, 0, 0, 0⟩).2.2
end Go.Proofs.Ytpcfmafokkffgaa
namespace Go.Proofs.Ytpcfmafokkffgaa
open Go.RowKit

end Go.Proofs.Ytpcfmafokkffgaa
namespace Go.Proofs.Ytpcfmafokkffgaa
open Go.RowKit

theorem row_ints {W w : World} {v : Value} {ks : List Int} {Rs : List Res} (h : Hd W w (RowR 3 1 v ks.length (nums .i64 ks) :: Rs)) : ∃ ad cap, v = .slice ad ks.length cap ∧ IntsAt w ad ks := by
  obtain ⟨ad, cap, rfl⟩ := h.row_form
  refine ⟨ad, cap, rfl, ?_⟩
  by_cases h0 : ks = []
  · exact .inl h0
  · have hp : 0 < ks.length := List.length_pos_iff.2 h0
    obtain ⟨g, c, e, _⟩ := h.row_cell (j := 0) (u := .int .i64 (ks.getD 0 0)) (by simp [nums, List.getD, hp])
    simp only [Value.slice.injEq] at e
    refine .inr ⟨g, 0, e.1, fun j hj => ?_⟩
    obtain ⟨g', c', e', hc⟩ := h.row_cell (j := j) (u := .int .i64 (ks.getD j 0)) (by simp [nums, List.getD, hj])
    simp only [Value.slice.injEq] at e'
    have := e.1.symm.trans e'.1
    simp only [Option.some.injEq, Addr.mk.injEq, and_true] at this
    rw [Nat.zero_add, this]
    exact hc

def fl1 : List T := (put 20 [] ⟨2, ⟨#[]⟩, 1, 0, 0, 0⟩).2.2
def fl2 : List T := (put 20 fl1 (keyT 1 1)).2.2
def fl3 : List T := (next15 20 fl2 1 0).2.2
def fl4 : List T := (to15 20 fl3 1 0 2).2.2.2

end Go.Proofs.Ytpcfmafokkffgaa
namespace Go.Proofs.Ytpcfmafokkffgaa
open Go.RowKit

section
variable {W w X w' : World} {E n : Nat} {v : Value} {Rs : List Res}
/-- APPEND SOME NUMBERS that lie somewhere. -/
theorem append_ints {ops : Array Oper} {rest : List Oper} {o : Oper} {a : Act} {Q : Exit → Act → World → Prop} {k : IntKind} {T E bytes c : Nat} {i : TypeInfo} {zs ys : List Int} {g : Nat} (ht : Try.prog.underlying T = some (.slice E)) (hi : Try.prog.info? E = some i) (hz : i.zero = some (.int k 0)) (hsize : i.size = 1) (hby : i.bytes = bytes) (hb8 : bytes ≤ 8)
    (hgd : o.guard = none) (s x : Operand) (ho : o.op = .call { callee := .builtin .append, args := #[s, x], argTypes := #[T, T] }) (hm : 0 < ys.length) (h : Hd W w (RowR E 1 v n (nums k zs) :: Rs)) (hc : ∀ (i : Nat) (z : Int), ys[i]? = some z → w.cell? ⟨g, 0 + i, none⟩ = some (.int k z)) (hs : a.eval s = v) (hx : a.eval x = .slice (some ⟨g, 0, none⟩) ys.length c) (hn : n + ys.length ≤ 1048580)
    (hK : ∀ g' cap w', Hd W w' (RowR E 1 (.slice (some ⟨g', 0, none⟩) (n + ys.length) cap) (n + ys.length) (nums k (zs ++ ys)) :: Rs) → wpList Try.prog ops Q rest (a.put o.dst (.slice (some ⟨g', 0, none⟩) (n + ys.length) cap)) w') :
    wpList Try.prog ops Q (o :: rest) a w := by
  refine wpList_append_lies _ hgd s x T ho 0 E i (.int k 0) 1 bytes ht hi hz hsize hby rfl (by decide) v n _ hs h.owns ⟨g, 0, none⟩ ys.length c (nums k ys) hx (by simp [nums]) (fun j u hj => ?_) (by intro u hu; simp only [nums, List.mem_map] at hu; obtain ⟨z, _, rfl⟩ := hu; rfl) hm (by simp only [maxLen]; omega) ?_ (Nat.zero_le _) _ rfl ?_
  · simp only [nums, List.getElem?_map, Option.map_eq_some_iff] at hj
    obtain ⟨z, hz1, rfl⟩ := hj
    have := hc j z hz1
    rw [Nat.zero_add] at this
    rw [show ((⟨g, 0, none⟩ : Addr).add j) = ⟨g, j, none⟩ by simp [Addr.add_lit]]
    exact this
  · have : (n + ys.length) * bytes ≤ (n + ys.length) * 8 := Nat.mul_le_mul_left _ hb8
    omega
  · intro g' cap w' ho' hg hgg _
    refine hK g' cap w' ?_
    have := h.grown ho' hg hgg
    rw [show nums k (zs ++ ys) = nums k zs ++ nums k ys by simp [nums]]
    exact this
end

/-- APPEND NOTHING. -/
theorem append_zero {w : World} {ops : Array Oper} {rest : List Oper} {o : Oper} {a : Act} {Q : Exit → Act → World → Prop} {T E c g cap n : Nat} {i : TypeInfo} {ad : Option Addr} (ht : Try.prog.underlying T = some (.slice E)) (hi : Try.prog.info? E = some i) (hgd : o.guard = none) (s x : Operand)
    (ho : o.op = .call { callee := .builtin .append, args := #[s, x], argTypes := #[T, T] }) (hs : a.eval s = .slice (some ⟨g, 0, none⟩) n cap) (hnc : n ≤ cap) (hx : a.eval x = .slice ad 0 c)
    (hK : wpList Try.prog ops Q rest (a.put o.dst (.slice (some ⟨g, 0, none⟩) n cap)) w) : wpList Try.prog ops Q (o :: rest) a w := by
  refine wpList_plain hgd fun K hK2 => ?_
  have hrun : (Builtin.append_ #[T, T] o.type #[.slice (some ⟨g, 0, none⟩) n cap, .slice ad 0 c]).run Try.prog w = .ok (.slice (some ⟨g, 0, none⟩) n cap) w := by
    cases ad with
    | none => simp [Builtin.append_, run_underlying ht, sizeOf, typeInfo, hi, Builtin.lenOf, Builtin.firstCells, hnc, storeCells]
    | some a => simp [Builtin.append_, run_underlying ht, sizeOf, typeInfo, hi, Builtin.lenOf, Builtin.firstCells, hnc, storeCells, loadCells, go_sem]
  unfold Oper.wp
  simp [execOp, ho, resolve, invoke, builtin, hs, hx, hrun, Result.andThen]
  exact hK2 _ _ hK

end Go.Proofs.Ytpcfmafokkffgaa
namespace Go.Proofs.Ytpcfmafokkffgaa
open Go.RowKit

/-- x is a chain's key, so many steps behind a Nonce. -/
def Lv (L : List T) : Nat → Int → Prop
  | 0, x => ∃ n, At L x (nonT n)
  | i + 1, x => ∃ k, Lv L i k ∧ At L x (keyT k 2)

theorem next15_of {m k e u : Int} {L L' : List T} (h0 : 0 ≤ e) (h1 : e < 1000) (h : put m L (keyT k 2) = (u, 0, L')) : next15 m L k e = ((u, e + 1), 0, L') := by
  unfold next15
  rw [if_neg (by omega), h]
  rfl

/-- Two chains, i steps behind their Nonces: the keys and the chains so far. -/
structure ApSt (L : List T) (i : Nat) (P : Prop) (c d : Int) (keys chains : List Int) : Prop where
  good : Good L
  lc : Lv L i c
  ld : Lv L i d
  eq : c = d ↔ P
  keys : ∀ y ∈ keys, ∃ j k, j < i ∧ Lv L j k ∧ At L y (keyT k 1)
  chains : ∀ y ∈ chains, ∃ j, j ≤ i ∧ Lv L j y

theorem keyT_inj {a b n : Int} : keyT a n = keyT b n ↔ a = b := by simp [keyT]

section
variable {W w : World} {Rs : List Res} {E : TypeId}
/-- A row that is written out. -/
theorem Hd.row_lit (k : Nat) (hk : w.heap.size = k) (zs : List Int) {cs : Array Value} {n : Nat} (hcs : cs = (nums .i64 zs).toArray) (hn : n = zs.length) (hm : n ≤ maxLen) (h : Hd W w Rs) : Hd W (w.alloc (.cells cs E (0, 0))) (RowR E 1 (.slice (some ⟨k, 0, none⟩) n n) n (nums .i64 zs) :: Rs) := by
  subst hk hcs hn
  refine h.add ((Below.refl _ _).alloc (Nat.le_refl _) _) (fun j => if j = w.heap.size then some (.cells (nums .i64 zs).toArray E (0, 0)) else none) ⟨by simp [nums], .inr ⟨w.heap.size, zs.length, (nums .i64 zs).toArray, rfl, Nat.le_refl _, hm, by simp [nums], by rw [List.take_of_length_le (by simp [nums])], rfl⟩⟩ (fun k o hk => ?_) (fun k hk => ?_)
  · dsimp only at hk
    split at hk
    · rename_i e1; subst e1; rw [heap_at rfl]; exact hk
    · cases hk
  · split at hk
    · omega
    · exact absurd rfl hk
theorem Hd.row_is {v : Value} {n : Nat} {ks : List Int} (h : Hd W w (RowR 3 1 v n (nums .i64 ks) :: Rs)) : ∃ ad cap, v = .slice ad n cap ∧ n = ks.length ∧ n ≤ maxLen ∧ IntsAt w ad ks := by
  have hl : n = ks.length := by
    obtain ⟨f, hR, _⟩ := h.open
    have := hR.1
    simpa [nums] using this.symm
  have hm : n ≤ maxLen := by
    obtain ⟨f, hR, _⟩ := h.open
    obtain ⟨_, ⟨_, rfl, _⟩ | ⟨_, cap, _, _, h1, h2, _⟩⟩ := hR
    · exact Nat.zero_le _
    · omega
  subst hl
  obtain ⟨ad, cap, e, hi⟩ := row_ints h
  exact ⟨ad, cap, e, rfl, hm, hi⟩
end
end Go.Proofs.Ytpcfmafokkffgaa
namespace Go.Proofs.Ytpcfmafokkffgaa
open Go.RowKit

def lenOf : Value → Nat
  | .slice _ n _ => n
  | _ => 0

/-- Where the loop stands: what is still to come of it. -/
def ToSt (m : Int) (n : Nat) (L : List T) (k e : Int) (i : Nat) (L' : List T) (k' : Int) (pre : List Int) : Prop :=
  steps15 m n L k e = (pre ++ (steps15 m (n - i) L' k' (e + i)).1, (steps15 m (n - i) L' k' (e + i)).2)

section
variable {W w : World} {Rs : List Res} {b : Nat} {L : List T} {m : Int}
end
end Go.Proofs.Ytpcfmafokkffgaa
