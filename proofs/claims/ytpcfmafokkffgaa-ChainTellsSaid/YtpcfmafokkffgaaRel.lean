/-
  A region that draws its order, of operations of which each yields a value of which something is known that lasts; guards are known. For every program, region and memory.
-/
import Derived.Test.YtpcfmafokkffgaaMade
namespace Go.Proofs.Ytpcfmafokkffgaa
open Go.RowKit

section
variable {P : Program} {Q : Exit → Act → World → Prop}

/-- What the rule asks of the region's text. -/
def relOps (ops : Array Oper) (need : List (List Nat)) (dsts : List Nat) : Bool :=
  decide (dsts.length = ops.size) && decide dsts.Nodup &&
  (List.range ops.size).all fun i =>
    (match ops[i]? with
      | some o => (o.dst == dsts[i]?) && (match o.guard with | none => true | some (k, _) => (need.getD i []).contains k) && (need.getD i []).all (fun d => o.after.any fun e => e.on == d && Region.binds .any e) && o.after.all (fun e => !Region.binds .any e || decide (e.on < i))
      | none => false)

structure RelAt (ops : Array Oper) (need : List (List Nat)) (dsts : List Nat) (i : Nat) (o : Oper) : Prop where
  dst : o.dst = dsts[i]?
  guard : ∀ k b, o.guard = some (k, b) → k ∈ need.getD i []
  need : ∀ d ∈ need.getD i [], ∃ e ∈ o.after, e.on = d ∧ Region.binds .any e = true
  after : ∀ e ∈ o.after, Region.binds .any e = true → e.on < i

variable {ops : Array Oper} {need : List (List Nat)} {dsts : List Nat}

theorem rel_len (h : relOps ops need dsts = true) : dsts.length = ops.size ∧ dsts.Nodup := by
  unfold relOps at h
  simp only [Bool.and_eq_true, decide_eq_true_eq] at h
  exact h.1
theorem rel_at (h : relOps ops need dsts = true) {i : Nat} {o : Oper} (ho : ops[i]? = some o) : RelAt ops need dsts i o := by
  have hlt : i < ops.size := (Array.getElem?_eq_some_iff.1 ho).1
  unfold relOps at h
  rw [Bool.and_eq_true, List.all_eq_true] at h
  have hi := h.2 i (List.mem_range.2 hlt)
  rw [ho] at hi
  simp only [Bool.and_eq_true, decide_eq_true_eq, List.all_eq_true, Array.all_eq_true', Array.any_eq_true', beq_iff_eq, Bool.or_eq_true, Bool.not_eq_true'] at hi
  obtain ⟨⟨⟨h1, h2⟩, h3⟩, h4⟩ := hi
  refine ⟨h1, fun k b hg => ?_, fun d hd => ?_, fun e he hb => ?_⟩
  · rw [hg] at h2
    simpa using h2
  · obtain ⟨e, he, h7, h8⟩ := h3 d hd
    exact ⟨e, he, h7, h8⟩
  · rcases h4 e he with h7 | h7
    · rw [hb] at h7; cases h7
    · exact h7

theorem rel_ready (h : relOps ops need dsts = true) {listed : Array Bool} {i : Nat} (hi : i ∈ Region.ready .any ops listed) {d : Nat} (hd : d ∈ need.getD i []) : listed.getD d false = true := by
  obtain ⟨_, o, ho, hall⟩ := mem_ready.1 hi
  obtain ⟨e, he, rfl, hb⟩ := (rel_at h ho).need d hd
  exact hall e he hb

theorem rel_all (h : relOps ops need dsts = true) {listed : Array Bool} (hs : listed.size = ops.size) (hr : Region.ready .any ops listed = []) : ∀ i, i < ops.size → listed.getD i false = true := by
  intro i
  induction i using Nat.strongRecOn with
  | _ i ih =>
    intro hi
    refine Classical.byContradiction fun hne => ?_
    have h1 : listed.getD i true = false := by
      have hlt : i < listed.size := by omega
      simp only [Array.getD_eq_getD_getElem?, Array.getElem?_eq_getElem hlt, Option.getD_some] at hne ⊢
      simpa using hne
    have hmem : i ∈ Region.ready .any ops listed := mem_ready.2 ⟨h1, ops[i], Array.getElem?_eq_getElem hi, fun e he hb => by
      have := (rel_at h (Array.getElem?_eq_getElem hi)).after e he hb
      exact ih e.on this (by omega)⟩
    rw [hr] at hmem
    cases hmem

/-- Each operation of a list, with its number. -/
def StepAll (S : Nat → Oper → Prop) : Nat → List Oper → Prop
  | _, [] => True
  | k, o :: l => S k o ∧ StepAll S (k + 1) l
theorem StepAll.at {S : Nat → Oper → Prop} : ∀ {l : List Oper} {k : Nat}, StepAll S k l → ∀ {i : Nat} {o : Oper}, l[i]? = some o → S (k + i) o
  | [], _, _, i, o, h => by simp at h
  | x :: l, k, h, 0, o, ho => by
    simp only [List.getElem?_cons_zero, Option.some.injEq] at ho
    subst ho
    exact h.1
  | x :: l, k, h, i + 1, o, ho => by
    have := StepAll.at h.2 (i := i) (o := o) (by simpa using ho)
    rwa [show k + (i + 1) = k + 1 + i by omega]

theorem wpOp_wanted {i : Nat} {o : Oper} {K : Act → World → Prop} {a : Act} {w : World} (ho : ops[i]? = some o) (hg : Region.wanted o (yielded ops a.tmps) = true) (h : o.wp P a w K Q) : wpOp P ops Q i K a w := by
  unfold wpOp
  rw [ho]
  simp only [hg, if_true]
  exact .inl h

structure RelWay (ops : Array Oper) (dsts : List Nat) (V : Nat → Value → World → Prop) (w0 : World) (a0 : Act) (listed : Array Bool) (a : Act) (w : World) : Prop where
  lsize : listed.size = ops.size
  size : a.tmps.size = a0.tmps.size
  defers : a.defers = a0.defers
  rest : ∀ t : Nat, t ∉ dsts → a.eval (.tmp t) = a0.eval (.tmp t)
  has : ∀ i d, listed.getD i false = true → dsts[i]? = some d → V i (a.eval (.tmp d)) w
  below : Below w0.heap.size w0 w

/-- One operation, by what is known of those that it waits for. -/
def RelStep (P : Program) (Q : Exit → Act → World → Prop) (need : List (List Nat)) (dsts : List Nat) (V : Nat → Value → World → Prop) (w0 : World) (a0 : Act) (i : Nat) (o : Oper) : Prop :=
  ∀ (a : Act) (w : World), (∀ d ∈ need.getD i [], V d (a.eval (.tmp (dsts.getD d 0))) w) → (∀ t : Nat, t ∉ dsts → a.eval (.tmp t) = a0.eval (.tmp t)) → Below w0.heap.size w0 w →
    ∀ K : Act → World → Prop, (∀ v w', V i v w' → Below w.heap.size w w' → K (a.put o.dst v) w') → o.wp P a w K Q

theorem StepAll.cons {S : Nat → Oper → Prop} {k : Nat} {o : Oper} {l : List Oper} (h : S k o) (h2 : StepAll S (k + 1) l) : StepAll S k (o :: l) := ⟨h, h2⟩
theorem rel_lt {n : Nat} (h : dsts.all (fun d => decide (d < n)) = true) : ∀ d ∈ dsts, d < n := fun d hd => by simpa using List.all_eq_true.1 h d hd
theorem bcl {w0 w : World} {p : Addr} {v : Value} (hb : Below w0.heap.size w0 w) (h : w0.cell? p = some v) : w.cell? p = some v := (hb.cell (World.block_lt_of_cell? _ _ h)).trans h

/-- THE RULE. -/
theorem wp_region_rel {l : List Oper} {id : Nat} {a0 : Act} {w0 : World} (need : List (List Nat)) (dsts : List Nat) (V : Nat → Value → World → Prop) (hm : P.follows .mixedOrders = true) (hc : relOps l.toArray need dsts = true) (hsz : ∀ d ∈ dsts, d < a0.tmps.size)
    (hgd : StepAll (fun _ o => match o.guard with | none => True | some (k, b) => ∀ v w, V k v w → v = .bool b) 0 l) (keep : ∀ i v w w', V i v w → Below w.heap.size w w' → V i v w')
    (step : StepAll (RelStep P Q need dsts V w0 a0) 0 l)
    (S : Nat → Bool) (hS : dsts.all S = true)
    (done : ∀ (f : Nat → Value) (w : World), (∀ i, i < dsts.length → V i (f (dsts.getD i 0)) w) → Below w0.heap.size w0 w → Q .normal { tmps := (patchG S f 0 a0.tmps.toList).toArray, defers := a0.defers } w) :
    (Code.region id l.toArray true).wp P Q a0 w0 := by
  obtain ⟨hlen, hnd⟩ := rel_len hc
  refine wp_region_inv (fun a0 listed a w => a0 = a0 ∧ RelWay l.toArray dsts V w0 a0 listed a w) hm ?_ ?_ ?_
  · refine ⟨rfl, by simp, rfl, rfl, fun _ _ => rfl, fun i d h => ?_, (Below.refl _ _).drew⟩
    rw [none_here] at h; cases h
  · rintro listed a w ⟨_, hw⟩ i hi
    obtain ⟨hl, o, ho, hall⟩ := mem_ready.1 hi
    have hck := rel_at hc ho
    have hlt : i < l.toArray.size := (Array.getElem?_eq_some_iff.1 ho).1
    have hdi : dsts[i]? = some (dsts[i]'(by omega)) := List.getElem?_eq_getElem _
    have hgo : l[i]? = some o := by simpa using ho
    have hneed : ∀ d ∈ need.getD i [], V d (a.eval (.tmp (dsts.getD d 0))) w := fun d hd => by
      have hld := rel_ready hc hi hd
      have hdl : d < l.toArray.size := by
        rcases Nat.lt_or_ge d l.toArray.size with h | h
        · exact h
        · rw [← hw.lsize] at h; simp [Array.getElem?_eq_none h] at hld
      have he : dsts[d]? = some (dsts[d]'(by omega)) := List.getElem?_eq_getElem _
      rw [List.getD_eq_getElem?_getD, he]
      exact hw.has d _ hld he
    have hwant : Region.wanted o (yielded l.toArray a.tmps) = true := by
      cases hg : o.guard with
      | none => simp [Region.wanted, hg]
      | some kb =>
        obtain ⟨k, b⟩ := kb
        have hk := hck.guard k b hg
        have hv := hneed k hk
        have hgv := hgd.at hgo
        simp only [hg] at hgv
        have hb := hgv _ _ hv
        have hlk := rel_ready hc hi hk
        have hkl : k < l.toArray.size := by
          rcases Nat.lt_or_ge k l.toArray.size with h | h
          · exact h
          · rw [← hw.lsize] at h; simp [Array.getElem?_eq_none h] at hlk
        have he : dsts[k]? = some (dsts[k]'(by omega)) := List.getElem?_eq_getElem _
        have hok : l.toArray[k]? = some (l.toArray[k]) := Array.getElem?_eq_getElem hkl
        have hdk := (rel_at hc hok).dst
        rw [List.getD_eq_getElem?_getD, he] at hb
        have hlt2 : dsts[k]'(by omega) < a.tmps.size := by rw [hw.size]; exact hsz _ (List.getElem_mem _)
        have hb2 : a.tmps[dsts[k]'(by omega)]? = some (.bool b) := by
          rw [Array.getElem?_eq_getElem hlt2]
          simpa [Act.eval, hlt2] using hb
        simp only [Region.wanted, hg, yielded, hok, Option.bind_some, hdk, he, hb2, beq_self_eq_true]
    refine wpOp_wanted ho hwant ?_
    have hs := step.at hgo
    rw [Nat.zero_add] at hs
    refine hs a w hneed hw.rest hw.below _ fun v w' hv hb => ?_
    refine ⟨rfl, by simp [hw.lsize], (put_size _ _ _).trans hw.size, (put_defers _ _ _).trans hw.defers, fun t ht => ?_, fun j d hj hd => ?_, hw.below.trans (hb.mono hw.below.size)⟩
    · rw [put_ne (by rw [hck.dst, hdi]; intro e; cases e; exact ht (List.getElem_mem _))]
      exact hw.rest t ht
    · by_cases e : j = i
      · subst e
        have hd2 := hck.dst.trans hd
        rw [hd2, put_same (by rw [hw.size]; exact hsz d (List.mem_of_getElem? hd))]
        exact hv
      · have hlj := (here_set hj).resolve_left e
        rw [put_ne (by
          rw [hck.dst]
          intro e2
          obtain ⟨h1, h2⟩ := List.getElem?_eq_some_iff.1 e2
          obtain ⟨h3, h4⟩ := List.getElem?_eq_some_iff.1 hd
          rcases Nat.lt_or_gt_of_ne e with h5 | h5
          · exact (List.pairwise_iff_getElem.1 hnd) j i h3 h1 h5 (h4.trans h2.symm)
          · exact (List.pairwise_iff_getElem.1 hnd) i j h1 h3 h5 (h2.trans h4.symm))]
        exact keep _ _ _ _ (hw.has j d hlj hd) hb
  · rintro listed a w ⟨_, hw⟩ hr
    have hall := rel_all hc hw.lsize hr
    have hlit := act_litG (a := a) (a0 := a0) S hw.size hw.defers (fun t ht => hw.rest t (fun h => by rw [List.all_eq_true.1 hS t h] at ht; cases ht))
    rw [hlit]
    refine done _ w (fun i hi => ?_) hw.below
    have he : dsts[i]? = some (dsts[i]'hi) := List.getElem?_eq_getElem _
    rw [List.getD_eq_getElem?_getD, he]
    exact hw.has i _ (hall i (by omega)) he

section
variable {o : Oper} {a : Act} {w : World} {K : Act → World → Prop} {V : Value → World → Prop}
theorem rel_run {v : Value} {w' : World} (h : (execOp a.eval o).run P w = .ok (.value v) w') (hv : V v w') (hb : Below w.heap.size w w') (hK : ∀ v w', V v w' → Below w.heap.size w w' → K (a.put o.dst v) w') : o.wp P a w K Q := by
  unfold Oper.wp; rw [h]; exact hK _ _ hv hb
theorem rel_call {f : FuncId} {args : Array Value} (h : (execOp a.eval o).run P w = .ok (.enter f args) w) (hc : Calls P f args w fun e w2 => ∃ v, e = .returned v ∧ V v w2 ∧ Below w.heap.size w w2) (hK : ∀ v w', V v w' → Below w.heap.size w w' → K (a.put o.dst v) w') : o.wp P a w K Q := by
  unfold Oper.wp; rw [h]
  refine Calls.mono hc fun e w2 he => ?_
  obtain ⟨v, rfl, h1, h2⟩ := he
  exact hK _ _ h1 h2
end
end
end Go.Proofs.Ytpcfmafokkffgaa
