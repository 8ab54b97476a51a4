/-
  A region that draws its order, of operations that read, calls that make memory, boxes that are made and filled once; guards are known. For every program, region and memory.
-/
import Derived.Test.YtpcfmafokkffgaaRel
namespace Go.Proofs.Ytpcfmafokkffgaa
open Go.RowKit

/-- What an operation has made: an address and a number. -/
abbrev Gh := Option Addr × Nat
def updG (g : Nat → Gh) (i : Nat) (x : Gh) : Nat → Gh := fun j => if j = i then x else g j

section
variable {P : Program} {Q : Exit → Act → World → Prop} {ops : Array Oper} {need uses : List (List Nat)} {dsts fill : List (Option Nat)}

/-- What the rule asks of the region's text. -/
def holdOps (ops : Array Oper) (need uses : List (List Nat)) (dsts fill : List (Option Nat)) : Bool :=
  (List.range ops.size).all fun i =>
    (match ops[i]? with
      | some o => (o.dst == dsts.getD i none) && (match o.guard with | none => true | some (k, _) => (need.getD i []).contains k && (dsts.getD k none).isSome) && (need.getD i []).all (fun d => decide (d < i) && o.after.any fun e => e.on == d && Region.binds .any e) && o.after.all (fun e => !Region.binds .any e || decide (e.on < i))
      | none => false) &&
    (uses.getD i []).all (fun k => k == i || (need.getD i []).any fun d => (uses.getD d []).contains k) &&
    (match fill.getD i none with
      | none => true
      | some s => (need.getD s []).contains i && (fill.getD s none == none) && (dsts.getD s none == none) && decide (s < ops.size) && (List.range ops.size).all fun j => j == i || fill.getD j none != some s) &&
    (List.range ops.size).all fun j => i == j || dsts.getD i none != dsts.getD j none || dsts.getD i none == none

structure HoldAt (ops : Array Oper) (need uses : List (List Nat)) (dsts fill : List (Option Nat)) (i : Nat) (o : Oper) : Prop where
  hdst : o.dst = dsts.getD i none
  hguard : ∀ k b, o.guard = some (k, b) → k ∈ need.getD i [] ∧ dsts.getD k none ≠ none
  hneed : ∀ d ∈ need.getD i [], d < i ∧ ∃ e ∈ o.after, e.on = d ∧ Region.binds .any e = true
  hafter : ∀ e ∈ o.after, Region.binds .any e = true → e.on < i
  huses : ∀ k ∈ uses.getD i [], k = i ∨ ∃ d ∈ need.getD i [], k ∈ uses.getD d []
  hfill : ∀ s, fill.getD i none = some s → i ∈ need.getD s [] ∧ fill.getD s none = none ∧ dsts.getD s none = none ∧ s < ops.size ∧ ∀ j, j < ops.size → fill.getD j none = some s → j = i
  hapart : ∀ j < ops.size, ∀ t, dsts.getD i none = some t → dsts.getD j none = some t → i = j

theorem hold_at (h : holdOps ops need uses dsts fill = true) {i : Nat} {o : Oper} (ho : ops[i]? = some o) : HoldAt ops need uses dsts fill i o := by
  have hlt : i < ops.size := (Array.getElem?_eq_some_iff.1 ho).1
  unfold holdOps at h
  rw [List.all_eq_true] at h
  have hi := h i (List.mem_range.2 hlt)
  rw [ho] at hi
  rw [Bool.and_eq_true, Bool.and_eq_true, Bool.and_eq_true] at hi
  obtain ⟨⟨⟨h1, h2⟩, h3⟩, h4⟩ := hi
  simp only [Bool.and_eq_true, decide_eq_true_eq, List.all_eq_true, Array.all_eq_true', Array.any_eq_true', beq_iff_eq, Bool.or_eq_true, Bool.not_eq_true'] at h1
  obtain ⟨⟨⟨g1, g2⟩, g3⟩, g4⟩ := h1
  refine ⟨g1, fun k b hg => ?_, fun d hd => ?_, fun e he hb => ?_, fun k hk => ?_, fun s hs => ?_, fun j hj t e1 e2 => ?_⟩
  · rw [hg] at g2
    simp only [Bool.and_eq_true, List.contains_iff_mem] at g2
    exact ⟨g2.1, fun e => by rw [e] at g2; cases g2.2⟩
  · obtain ⟨g5, e, he, h7, h8⟩ := g3 d hd
    exact ⟨g5, e, he, h7, h8⟩
  · rcases g4 e he with h7 | h7
    · rw [hb] at h7; cases h7
    · exact h7
  · have := List.all_eq_true.1 h2 k hk
    simp only [Bool.or_eq_true, beq_iff_eq, List.any_eq_true, List.contains_iff_mem] at this
    rcases this with h | ⟨d, hd, h⟩
    · exact .inl h
    · exact .inr ⟨d, hd, h⟩
  · rw [hs] at h3
    simp only [Bool.and_eq_true, decide_eq_true_eq, List.contains_iff_mem, beq_iff_eq, List.all_eq_true, List.mem_range, Bool.or_eq_true, bne_iff_ne] at h3
    obtain ⟨⟨⟨⟨k1, k2⟩, k3⟩, k4⟩, k5⟩ := h3
    exact ⟨k1, k2, k3, k4, fun j hj hjs => (k5 j hj).resolve_right fun hne => hne hjs⟩
  · simp only [List.all_eq_true, List.mem_range, Bool.or_eq_true, beq_iff_eq, bne_iff_ne] at h4
    rcases h4 j hj with (h9 | h9) | h9
    · exact h9
    · exact absurd (e1.trans e2.symm) h9
    · rw [h9] at e1; cases e1

theorem hold_ready (h : holdOps ops need uses dsts fill = true) {listed : Array Bool} {i : Nat} (hi : i ∈ Region.ready .any ops listed) {d : Nat} (hd : d ∈ need.getD i []) : listed.getD d false = true := by
  obtain ⟨_, o, ho, hall⟩ := mem_ready.1 hi
  obtain ⟨_, e, he, rfl, hb⟩ := (hold_at h ho).hneed d hd
  exact hall e he hb

theorem hold_all (h : holdOps ops need uses dsts fill = true) {listed : Array Bool} (hs : listed.size = ops.size) (hr : Region.ready .any ops listed = []) : ∀ i, i < ops.size → listed.getD i false = true := by
  intro i
  induction i using Nat.strongRecOn with
  | _ i ih =>
    intro hi
    refine Classical.byContradiction fun hne => ?_
    have h1 : listed.getD i true = false := by
      have hlt : i < listed.size := by omega
      simp only [Array.getD_eq_getD_getElem?, Array.getElem?_eq_getElem hlt, Option.getD_some] at hne ⊢
      simpa using hne
    have hmem : i ∈ Region.ready .any ops listed := mem_ready.2 ⟨h1, ops[i], Array.getElem?_eq_getElem hi, fun e he hb => by
      have := (hold_at h (Array.getElem?_eq_getElem hi)).hafter e he hb
      exact ih e.on this (by omega)⟩
    rw [hr] at hmem
    cases hmem

/-- What an operation's value is, of what those that it uses have made. -/
def valOf (uses : List (List Nat)) (vals : List (List Gh → Value)) (g : Nat → Gh) (i : Nat) : Value := (vals.getD i fun _ => undef) ((uses.getD i []).map g)
/-- What an operation has laid, and what has been filled in. -/
def resOf (uses : List (List Nat)) (fill : List (Option Nat)) (R R2 : List (List Gh → List Res)) (listed : Nat → Bool) (g : Nat → Gh) (i : Nat) : List Res :=
  bif listed i then
    (match fill.getD i none with
      | some s => bif listed s then (R2.getD i fun _ => []) ((uses.getD s []).map g) else (R.getD i fun _ => []) ((uses.getD i []).map g)
      | none => (R.getD i fun _ => []) ((uses.getD i []).map g))
  else []

theorem flat_change {F F' : Nat → List Res} {i : Nat} (h : ∀ j, j ≠ i → F j = F' j) : ∀ {l : List Nat}, l.Nodup → i ∈ l → ∃ Ys, (l.flatMap F).Perm (F i ++ Ys) ∧ (l.flatMap F').Perm (F' i ++ Ys)
  | [], _, hm => by cases hm
  | x :: l, hn, hm => by
    have hx := (List.nodup_cons.1 hn).1
    by_cases e : x = i
    · subst e
      refine ⟨l.flatMap F, by rw [List.flatMap_cons], ?_⟩
      rw [List.flatMap_cons]
      have : l.flatMap F' = l.flatMap F := by
        have key : ∀ l : List Nat, x ∉ l → l.flatMap F' = l.flatMap F := by
          intro l
          induction l with
          | nil => intro _; rfl
          | cons y l ih =>
            intro hy
            rw [List.flatMap_cons, List.flatMap_cons, ih (fun h => hy (by simp [h])), h y (fun e => hy (by simp [e]))]
        exact key l hx
      rw [this]
    · obtain ⟨Ys, h1, h2⟩ := flat_change h (List.nodup_cons.1 hn).2 ((List.mem_cons.1 hm).resolve_left fun e2 => e e2.symm)
      have sw : ∀ (A B C : List Res), (A ++ (B ++ C)).Perm (B ++ (A ++ C)) := fun A B C => by
        rw [← List.append_assoc, ← List.append_assoc]
        exact List.perm_append_comm.append_right _
      refine ⟨F x ++ Ys, ?_, ?_⟩
      · rw [List.flatMap_cons]
        exact (List.Perm.append_left _ h1).trans (sw _ _ _)
      · rw [List.flatMap_cons, ← h x e]
        exact (List.Perm.append_left _ h2).trans (sw _ _ _)

theorem flat_congr {α β : Type} {l : List α} {f g : α → List β} (h : ∀ a ∈ l, f a = g a) : l.flatMap f = l.flatMap g := by
  induction l with
  | nil => rfl
  | cons x l ih => rw [List.flatMap_cons, List.flatMap_cons, h x (by simp), ih (fun a ha => h a (by simp [ha]))]

structure HoldWay (ops : Array Oper) (need uses : List (List Nat)) (dsts fill : List (Option Nat)) (vals : List (List Gh → Value)) (R R2 : List (List Gh → List Res)) (W : World) (Rs : List Res) (a0 : Act) (listed : Array Bool) (a : Act) (w : World) (g : Nat → Gh) : Prop where
  lsize : listed.size = ops.size
  size : a.tmps.size = a0.tmps.size
  defers : a.defers = a0.defers
  rest : ∀ t : Nat, some t ∉ dsts → a.eval (.tmp t) = a0.eval (.tmp t)
  has : ∀ i d, listed.getD i false = true → dsts.getD i none = some d → a.eval (.tmp d) = valOf uses vals g i
  closed : ∀ i, listed.getD i false = true → ∀ k ∈ uses.getD i [], listed.getD k false = true
  nclosed : ∀ i, listed.getD i false = true → ∀ k ∈ need.getD i [], listed.getD k false = true
  hd : Hd W w ((List.range ops.size).flatMap (resOf uses fill R R2 (fun i => listed.getD i false) g) ++ Rs)

/-- One operation. -/
def HoldStep (P : Program) (Q : Exit → Act → World → Prop) (need uses : List (List Nat)) (dsts fill : List (Option Nat)) (vals : List (List Gh → Value)) (R R2 : List (List Gh → List Res)) (W : World) (Rs : List Res) (a0 : Act) (i : Nat) (o : Oper) : Prop :=
  ∀ (a : Act) (w : World) (g : Nat → Gh), (∀ d ∈ need.getD i [], ∀ s, dsts.getD d none = some s → a.eval (.tmp s) = valOf uses vals g d) → (∀ t : Nat, some t ∉ dsts → a.eval (.tmp t) = a0.eval (.tmp t)) →
    match fill.findIdx? (· == some i) with
    | none => ∀ (Ss : List Res), Hd W w (Ss ++ Rs) → ∀ K : Act → World → Prop, (∀ x v w', (o.dst ≠ none → v = valOf uses vals (updG g i x) i) → Hd W w' ((R.getD i fun _ => []) ((uses.getD i []).map (updG g i x)) ++ (Ss ++ Rs)) → K (a.put o.dst v) w') → o.wp P a w K Q
    | some b => ∀ (Ss : List Res), Hd W w ((R.getD b fun _ => []) ((uses.getD b []).map g) ++ Ss) → ∀ K : Act → World → Prop, (∀ v w', Hd W w' ((R2.getD b fun _ => []) ((uses.getD i []).map g) ++ Ss) → K (a.put o.dst v) w') → o.wp P a w K Q

theorem HoldStep.val {vals : List (List Gh → Value)} {R R2 : List (List Gh → List Res)} {W : World} {Rs : List Res} {a0 : Act} {i : Nat} {o : Oper} (hf : fill.findIdx? (· == some i) = none)
    (h : ∀ (a : Act) (w : World) (g : Nat → Gh), (∀ d ∈ need.getD i [], ∀ s, dsts.getD d none = some s → a.eval (.tmp s) = valOf uses vals g d) → (∀ t : Nat, some t ∉ dsts → a.eval (.tmp t) = a0.eval (.tmp t)) →
      ∀ (Ss : List Res), Hd W w (Ss ++ Rs) → ∀ K : Act → World → Prop, (∀ x v w', (o.dst ≠ none → v = valOf uses vals (updG g i x) i) → Hd W w' ((R.getD i fun _ => []) ((uses.getD i []).map (updG g i x)) ++ (Ss ++ Rs)) → K (a.put o.dst v) w') → o.wp P a w K Q) :
    HoldStep P Q need uses dsts fill vals R R2 W Rs a0 i o := by
  intro a w g h1 h2
  rw [hf]
  exact h a w g h1 h2
theorem HoldStep.fil {vals : List (List Gh → Value)} {R R2 : List (List Gh → List Res)} {W : World} {Rs : List Res} {a0 : Act} {i : Nat} {o : Oper} (b : Nat) (hf : fill.findIdx? (· == some i) = some b)
    (h : ∀ (a : Act) (w : World) (g : Nat → Gh), (∀ d ∈ need.getD i [], ∀ s, dsts.getD d none = some s → a.eval (.tmp s) = valOf uses vals g d) → (∀ t : Nat, some t ∉ dsts → a.eval (.tmp t) = a0.eval (.tmp t)) →
      ∀ (Ss : List Res), Hd W w ((R.getD b fun _ => []) ((uses.getD b []).map g) ++ Ss) → ∀ K : Act → World → Prop, (∀ v w', Hd W w' ((R2.getD b fun _ => []) ((uses.getD i []).map g) ++ Ss) → K (a.put o.dst v) w') → o.wp P a w K Q) :
    HoldStep P Q need uses dsts fill vals R R2 W Rs a0 i o := by
  intro a w g h1 h2
  rw [hf]
  exact h a w g h1 h2

section
variable {vals : List (List Gh → Value)} {R : List (List Gh → List Res)} {W : World} {Rs Ss : List Res} {a : Act} {w : World} {g : Nat → Gh} {i : Nat} {o : Oper} {K : Act → World → Prop}
theorem hold_run {v : Value} (h : (execOp a.eval o).run P w = .ok (.value v) w) (hv : v = valOf uses vals (updG g i default) i) (hR : (R.getD i fun _ => []) ((uses.getD i []).map (updG g i default)) = []) (hH : Hd W w (Ss ++ Rs))
    (hK : ∀ x v w', (o.dst ≠ none → v = valOf uses vals (updG g i x) i) → Hd W w' ((R.getD i fun _ => []) ((uses.getD i []).map (updG g i x)) ++ (Ss ++ Rs)) → K (a.put o.dst v) w') : o.wp P a w K Q := by
  unfold Oper.wp; rw [h]
  exact hK default v w (fun _ => hv) (by rw [hR]; exact hH)
theorem hold_new {obj : Obj} {v : Value} (h : (execOp a.eval o).run P w = .ok (.value v) (w.alloc obj)) (hv : v = valOf uses vals (updG g i (none, w.heap.size)) i) (hR : (R.getD i fun _ => []) ((uses.getD i []).map (updG g i (none, w.heap.size))) = [Blk w.heap.size obj]) (hH : Hd W w (Ss ++ Rs))
    (hK : ∀ x v w', (o.dst ≠ none → v = valOf uses vals (updG g i x) i) → Hd W w' ((R.getD i fun _ => []) ((uses.getD i []).map (updG g i x)) ++ (Ss ++ Rs)) → K (a.put o.dst v) w') : o.wp P a w K Q := by
  unfold Oper.wp; rw [h]
  exact hK (none, w.heap.size) v _ (fun _ => hv) (by rw [hR]; exact hH.box obj)
theorem hold_call {f : FuncId} {args : Array Value} (h : (execOp a.eval o).run P w = .ok (.enter f args) w)
    (hc : Calls P f args w fun e w2 => ∃ x : Gh, e = .returned (valOf uses vals (updG g i x) i) ∧ ∀ Xs, Hd W w Xs → Hd W w2 ((R.getD i fun _ => []) ((uses.getD i []).map (updG g i x)) ++ Xs)) (hH : Hd W w (Ss ++ Rs))
    (hK : ∀ x v w', (o.dst ≠ none → v = valOf uses vals (updG g i x) i) → Hd W w' ((R.getD i fun _ => []) ((uses.getD i []).map (updG g i x)) ++ (Ss ++ Rs)) → K (a.put o.dst v) w') : o.wp P a w K Q := by
  unfold Oper.wp; rw [h]
  refine Calls.mono hc fun e w2 he => ?_
  obtain ⟨x, rfl, h2⟩ := he
  exact hK x _ _ (fun _ => rfl) (h2 _ hH)
end

theorem hold_fil {b : Nat} {R2 : List (List Gh → List Res)} {W : World} {Ss : List Res} {a : Act} {w w' : World} {g : Nat → Gh} {i : Nat} {o : Oper} {K : Act → World → Prop} (h : (execOp a.eval o).run P w = .ok .skip w') (hH : Hd W w' ((R2.getD b fun _ => []) ((uses.getD i []).map g) ++ Ss))
    (hK : ∀ v w', Hd W w' ((R2.getD b fun _ => []) ((uses.getD i []).map g) ++ Ss) → K (a.put o.dst v) w') : o.wp P a w K Q := by
  unfold Oper.wp; rw [h]
  exact hK undef w' hH
theorem Hd.rear {W w : World} : ∀ {Ss Rs : List Res}, Hd W w (Ss ++ Rs) → Hd W w Rs
  | [], _, h => h
  | _ :: _, _, h => Hd.rear h.drop

theorem hold_lt {n : Nat} (h : dsts.all (fun d => match d with | none => true | some t => decide (t < n)) = true) {m : Nat} (hm : m = n := by rfl) : ∀ d, some d ∈ dsts → d < m := fun d hd => by
  have := List.all_eq_true.1 h _ hd
  subst hm
  simpa using this
theorem hold_nil {R : List (List Gh → List Res)} {fs : List Nat} (_h : True) (hf : fill.filterMap id = fs) (h : ∀ s gs, s ∈ fs → (R.getD s fun _ => []) gs = []) : ∀ s b, fill.getD b none = some s → ∀ gs, (R.getD s fun _ => []) gs = [] := fun s b hb gs => by
  refine h s gs ?_
  rw [← hf, List.mem_filterMap]
  rw [List.getD_eq_getElem?_getD] at hb
  cases he : fill[b]? with
  | none => rw [he] at hb; cases hb
  | some y => rw [he] at hb; exact ⟨y, List.mem_of_getElem? he, hb⟩
theorem hold_fit {n : Nat} (h : fill.length ≤ n) : ∀ {b s : Nat}, fill.getD b none = some s → b < n := fun {b s} hb => by
  rcases Nat.lt_or_ge b fill.length with h2 | h2
  · omega
  · rw [List.getD_eq_getElem?_getD, List.getElem?_eq_none h2] at hb; cases hb

theorem map_upd {g : Nat → Gh} {i : Nat} {x : Gh} {l : List Nat} (h : i ∉ l) : l.map g = l.map (updG g i x) := by
  refine List.map_congr_left fun k hk => ?_
  have : k ≠ i := fun e => h (e ▸ hk)
  simp [updG, this]

/-- THE RULE. -/
theorem wp_region_hold {l : List Oper} {id : Nat} {a0 : Act} {w0 W : World} {Rs : List Res} (need uses : List (List Nat)) (dsts fill : List (Option Nat)) (vals : List (List Gh → Value)) (R R2 : List (List Gh → List Res))
    (hm : P.follows .mixedOrders = true) (hc : holdOps l.toArray need uses dsts fill = true) (hld : dsts.length = l.length) (hsz : ∀ d, some d ∈ dsts → d < a0.tmps.size) (h0 : Hd W w0 Rs)
    (hnil : ∀ s b, fill.getD b none = some s → ∀ gs, (R.getD s fun _ => []) gs = []) (hbs : ∀ {b s : Nat}, fill.getD b none = some s → b < l.length)
    (hgd : StepAll (fun _ o => match o.guard with | none => True | some (k, b) => ∀ g, valOf uses vals g k = .bool b) 0 l)
    (step : StepAll (HoldStep P Q need uses dsts fill vals R R2 W Rs a0) 0 l)
    (S : Nat → Bool) (hS : dsts.all (fun d => match d with | none => true | some t => S t) = true)
    (done : ∀ (f : Nat → Value) (w : World) (g : Nat → Gh), (∀ i d, dsts.getD i none = some d → f d = valOf uses vals g i) →
      Hd W w ((List.range l.length).flatMap (resOf uses fill R R2 (fun i => decide (i < l.length)) g) ++ Rs) → Q .normal { tmps := (patchG S f 0 a0.tmps.toList).toArray, defers := a0.defers } w) :
    (Code.region id l.toArray true).wp P Q a0 w0 := by
  have hsize : l.toArray.size = l.length := by simp
  have dmem : ∀ i d, dsts.getD i none = some d → some d ∈ dsts := fun i d h => by
    rw [List.getD_eq_getElem?_getD] at h
    cases he : dsts[i]? with
    | none => rw [he] at h; cases h
    | some y => rw [he] at h; simp only [Option.getD_some] at h; subst h; exact List.mem_of_getElem? he
  refine wp_region_inv (fun a0 listed a w => a0 = a0 ∧ ∃ g, HoldWay l.toArray need uses dsts fill vals R R2 W Rs a0 listed a w g) hm ?_ ?_ ?_
  · refine ⟨rfl, fun _ => default, by simp, rfl, rfl, fun _ _ => rfl, fun i d h => ?_, fun i h => ?_, fun i h => ?_, ?_⟩
    · rw [none_here] at h; cases h
    · rw [none_here] at h; cases h
    · rw [none_here] at h; cases h
    · have : (List.range l.toArray.size).flatMap (resOf uses fill R R2 (fun i => (Array.replicate l.toArray.size false).getD i false) fun _ => default) = [] := by
        rw [List.flatMap_eq_nil_iff]
        intro i _
        unfold resOf
        simp only
        rw [none_here]; rfl
      rw [this]
      exact h0.still (Below.refl _ _).drew
  · rintro listed a w ⟨_, g, hw⟩ i hi
    obtain ⟨hl, o, ho, hall⟩ := mem_ready.1 hi
    have hck := hold_at hc ho
    have hlt : i < l.toArray.size := (Array.getElem?_eq_some_iff.1 ho).1
    have hgo : l[i]? = some o := by simpa using ho
    have hli : listed.getD i false = false := by
      have : i < listed.size := by rw [hw.lsize]; exact hlt
      simp only [Array.getD_eq_getD_getElem?, Array.getElem?_eq_getElem this, Option.getD_some] at hl ⊢
      exact hl
    have hneed : ∀ d ∈ need.getD i [], ∀ s, dsts.getD d none = some s → a.eval (.tmp s) = valOf uses vals g d := fun d hd s hs => hw.has d s (hold_ready hc hi hd) hs
    have hin : ∀ j, listed.getD j false = true → j < l.toArray.size := fun j hj => by
      rcases Nat.lt_or_ge j l.toArray.size with h | h
      · exact h
      · rw [← hw.lsize] at h; simp [Array.getElem?_eq_none h] at hj
    have hwant : Region.wanted o (yielded l.toArray a.tmps) = true := by
      cases hg : o.guard with
      | none => simp [Region.wanted, hg]
      | some kb =>
        obtain ⟨k, b⟩ := kb
        obtain ⟨hk, hkd⟩ := hck.hguard k b hg
        have hgv := hgd.at hgo
        simp only [hg] at hgv
        have hkl := hin k (hold_ready hc hi hk)
        have hok : l.toArray[k]? = some (l.toArray[k]) := Array.getElem?_eq_getElem hkl
        have hdk := (hold_at hc hok).hdst
        cases hd : dsts.getD k none with
        | none => exact absurd hd hkd
        | some t =>
          have hv := hneed k hk t hd
          rw [hgv g] at hv
          have hlt2 : t < a.tmps.size := by rw [hw.size]; exact hsz _ (dmem k t hd)
          have hb2 : a.tmps[t]? = some (.bool b) := by
            rw [Array.getElem?_eq_getElem hlt2]
            simpa [Act.eval, hlt2] using hv
          rw [hd] at hdk
          simp only [Region.wanted, hg, yielded, hok, Option.bind_some, hdk, hb2, beq_self_eq_true]
    refine wpOp_wanted ho hwant ?_
    have hs := step.at hgo
    rw [Nat.zero_add] at hs
    have hs := hs a w g hneed hw.rest
    have hset : ∀ j, j ≠ i → (listed.setIfInBounds i true).getD j false = listed.getD j false := fun j hj => by
      simp [Array.getElem?_setIfInBounds_ne (Ne.symm hj)]
    have hset1 : (listed.setIfInBounds i true).getD i false = true := by
      have : i < listed.size := by rw [hw.lsize]; exact hlt
      simp [this]
    have hiu : ∀ j, listed.getD j false = true → i ∉ uses.getD j [] := fun j hj hk => by
      have := hw.closed j hj i hk
      rw [hli] at this; cases this
    have hclosed : ∀ j, (listed.setIfInBounds i true).getD j false = true → ∀ k ∈ uses.getD j [], (listed.setIfInBounds i true).getD k false = true := fun j hj k hk => by
      rcases here_set hj with rfl | hlj
      · rcases hck.huses k hk with rfl | ⟨d, hd, hkd⟩
        · exact hj
        · exact here_mono (hw.closed d (hold_ready hc hi hd) k hkd)
      · exact here_mono (hw.closed j hlj k hk)
    have hnclosed : ∀ j, (listed.setIfInBounds i true).getD j false = true → ∀ k ∈ need.getD j [], (listed.setIfInBounds i true).getD k false = true := fun j hj k hk => by
      rcases here_set hj with rfl | hlj
      · exact here_mono (hold_ready hc hi hk)
      · exact here_mono (hw.nclosed j hlj k hk)
    cases hfi : fill.findIdx? (· == some i) with
    | none =>
      rw [hfi] at hs
      have hnf : ∀ j, fill.getD j none ≠ some i := fun j hj => by
        rw [List.getD_eq_getElem?_getD] at hj
        cases he : fill[j]? with
        | none => rw [he] at hj; cases hj
        | some y =>
          rw [he] at hj
          simp only [Option.getD_some] at hj
          have := List.findIdx?_eq_none_iff.1 hfi y (List.mem_of_getElem? he)
          rw [hj] at this; simp at this
      refine hs _ hw.hd _ fun x v w' hv hR => ?_
      refine ⟨rfl, updG g i x, by simp [hw.lsize], (put_size _ _ _).trans hw.size, (put_defers _ _ _).trans hw.defers, fun t ht => ?_, fun j d hj hd => ?_, hclosed, hnclosed, ?_⟩
      · rw [put_ne (by rw [hck.hdst]; exact fun e => ht (dmem i t e))]
        exact hw.rest t ht
      · by_cases e : j = i
        · subst e
          rw [hck.hdst.trans hd, put_same (by rw [hw.size]; exact hsz d (dmem j d hd))]
          exact hv (by rw [hck.hdst, hd]; exact Option.some_ne_none d)
        · have hlj := (here_set hj).resolve_left e
          rw [put_ne (by rw [hck.hdst]; exact fun e2 => e (hck.hapart j (hin j hlj) d e2 hd).symm), hw.has j d hlj hd]
          unfold valOf
          rw [map_upd (hiu j hlj)]
      · have hch : ∀ j, j ≠ i → resOf uses fill R R2 (fun i => listed.getD i false) g j = resOf uses fill R R2 (fun j => (listed.setIfInBounds i true).getD j false) (updG g i x) j := fun j hj => by
          unfold resOf
          simp only
          rw [hset j hj]
          cases hlj : listed.getD j false with
          | false => rfl
          | true =>
            simp only [cond_true]
            cases hf : fill.getD j none with
            | none => simp only; rw [map_upd (hiu j hlj)]
            | some s =>
              have hsi : s ≠ i := fun e => hnf j (by rw [hf, e])
              simp only
              rw [hset s hsi]
              cases hls : listed.getD s false with
              | false => simp only [cond_false]; rw [map_upd (hiu j hlj)]
              | true => simp only [cond_true]; rw [map_upd (hiu s hls)]
        obtain ⟨Ys, p1, p2⟩ := flat_change hch List.nodup_range (List.mem_range.2 hlt)
        have e1 : resOf uses fill R R2 (fun i => listed.getD i false) g i = [] := by unfold resOf; simp only; rw [hli]; rfl
        have e2 : resOf uses fill R R2 (fun j => (listed.setIfInBounds i true).getD j false) (updG g i x) i = (R.getD i fun _ => []) ((uses.getD i []).map (updG g i x)) := by
          unfold resOf
          simp only
          rw [hset1]
          simp only [cond_true]
          cases hf : fill.getD i none with
          | none => rfl
          | some s =>
            have hk := hck.hfill s hf
            have hne : s ≠ i := fun e => by rw [e] at hk; rw [hk.2.1] at hf; cases hf
            have hls : listed.getD s false = false := by
              cases h : listed.getD s false with
              | false => rfl
              | true =>
                have := hw.nclosed s h i hk.1
                rw [hli] at this; cases this
            simp only
            rw [hset s hne, hls]; rfl
        rw [e1, List.nil_append] at p1
        rw [e2] at p2
        refine Hd.perm ?_ hR
        rw [← List.append_assoc]
        exact List.Perm.append_right _ ((List.Perm.append_left _ p1).trans p2.symm)
    | some b =>
      rw [hfi] at hs
      obtain ⟨hb1, hb2, _⟩ := List.findIdx?_eq_some_iff_getElem.1 hfi
      have hfb : fill.getD b none = some i := by
        rw [List.getD_eq_getElem?_getD, List.getElem?_eq_getElem hb1, Option.getD_some]
        simpa using hb2
      have hbl : b < l.toArray.size := by
        rcases Nat.lt_or_ge b l.toArray.size with h | h
        · exact h
        · exact absurd hfb (by
            intro hx
            have := hbs hx
            omega)
      have hkb := (hold_at hc (Array.getElem?_eq_getElem hbl)).hfill i hfb
      have hlb : listed.getD b false = true := hold_ready hc hi hkb.1
      have hbi : b ≠ i := fun e => by rw [e, hli] at hlb; cases hlb
      have hdn : o.dst = none := hck.hdst.trans hkb.2.2.1
      have hch : ∀ j, j ≠ b → resOf uses fill R R2 (fun i => listed.getD i false) g j = resOf uses fill R R2 (fun j => (listed.setIfInBounds i true).getD j false) g j := fun j hj => by
        unfold resOf
        by_cases hji : j = i
        · subst hji
          simp only
          rw [hli, hset1, hkb.2.1]
          simp only [cond_true, cond_false]
          exact (hnil j b hfb _).symm
        · simp only
          rw [hset j hji]
          cases hlj : listed.getD j false with
          | false => rfl
          | true =>
            simp only [cond_true]
            cases hf : fill.getD j none with
            | none => rfl
            | some s =>
              have hsi : s ≠ i := fun e => hj (hkb.2.2.2.2 j (hin j hlj) (by rw [hf, e]))
              simp only
              rw [hset s hsi]
      obtain ⟨Ys, p1, p2⟩ := flat_change hch List.nodup_range (List.mem_range.2 hbl)
      have e1 : resOf uses fill R R2 (fun i => listed.getD i false) g b = (R.getD b fun _ => []) ((uses.getD b []).map g) := by
        unfold resOf; simp only; rw [hlb, hfb]; simp only [cond_true]; rw [hli]; rfl
      have e2 : resOf uses fill R R2 (fun j => (listed.setIfInBounds i true).getD j false) g b = (R2.getD b fun _ => []) ((uses.getD i []).map g) := by
        unfold resOf; simp only; rw [hset b hbi, hlb, hfb]; simp only [cond_true]; rw [hset1]; rfl
      rw [e1] at p1
      rw [e2] at p2
      have hH := Hd.perm (List.Perm.append_right Rs p1) hw.hd
      rw [List.append_assoc] at hH
      refine hs _ hH _ fun v w' hR => ?_
      refine ⟨rfl, g, by simp [hw.lsize], (put_size _ _ _).trans hw.size, (put_defers _ _ _).trans hw.defers, fun t ht => ?_, fun j d hj hd => ?_, hclosed, hnclosed, ?_⟩
      · rw [hdn]; exact hw.rest t ht
      · rw [hdn]
        have hlj : listed.getD j false = true := (here_set hj).resolve_left fun e => by rw [e, hkb.2.2.1] at hd; cases hd
        exact hw.has j d hlj hd
      · rw [← List.append_assoc] at hR
        exact Hd.perm (List.Perm.append_right _ p2.symm) hR
  · rintro listed a w ⟨_, g, hw⟩ hr
    have hall := hold_all hc hw.lsize hr
    have hlit := act_litG (a := a) (a0 := a0) S hw.size hw.defers (fun t ht => hw.rest t (fun h => by
      have := List.all_eq_true.1 hS _ h
      simp only at this
      rw [this] at ht; cases ht))
    rw [hlit]
    refine done _ w g (fun i d hd => hw.has i d (hall i ?_) hd) ?_
    · rcases Nat.lt_or_ge i l.toArray.size with h | h
      · exact h
      · rw [List.getD_eq_getElem?_getD, List.getElem?_eq_none (by omega)] at hd; cases hd
    · have hh := hw.hd
      rw [hsize] at hh
      have : ∀ i ∈ List.range l.length, resOf uses fill R R2 (fun i => listed.getD i false) g i = resOf uses fill R R2 (fun i => decide (i < l.length)) g i := fun i hi => by
        have hil := List.mem_range.1 hi
        unfold resOf
        simp only
        rw [hall i (by omega), show decide (i < l.length) = true by simpa using hil]
        simp only [cond_true]
        cases hf : fill.getD i none with
        | none => rfl
        | some s =>
          have hs := ((hold_at hc (Array.getElem?_eq_getElem (show i < l.toArray.size by omega))).hfill s hf).2.2.2.1
          simp only
          rw [hall s hs, show decide (s < l.length) = true by simp; omega]
      rw [flat_congr this] at hh
      exact hh
end
end Go.Proofs.Ytpcfmafokkffgaa
