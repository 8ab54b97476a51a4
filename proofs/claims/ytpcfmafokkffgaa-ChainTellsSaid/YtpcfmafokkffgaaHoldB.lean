/-
  A region that draws its order, of operations that read, calls that make memory, boxes that are made and filled once, and things held ahead each of which one operation turns; guards are known. In a function's frame, and in a round of a range over a function. For every program, region and memory.
-/
import Derived.Test.YtpcfmafokkffgaaHold
import Derived.OrdersIn
import Derived.TacticsIn
import Derived.RangeFuncCalls
import Derived.Test.YtpcfmafokkffgaaOwn
namespace Go.Proofs.Ytpcfmafokkffgaa
open Go.RowKit

section
variable {P : Program} {Q : Exit → Act → World → Prop} {ops : Array Oper} {need uses : List (List Nat)} {dsts fill : List (Option Nat)}

/-- What the rule asks of the region's text. -/
def holdOpsB (ops : Array Oper) (need uses : List (List Nat)) (dsts fill : List (Option Nat)) : Bool :=
  (List.range ops.size).all (fun i =>
    (match ops[i]? with
      | some o => (o.dst == dsts.getD i none) && (match o.guard with | none => true | some (k, _) => (need.getD i []).contains k && (dsts.getD k none).isSome) && (need.getD i []).all (fun d => decide (d < i) && o.after.any fun e => e.on == d && Region.binds .any e) && o.after.all (fun e => !Region.binds .any e || decide (e.on < i))
      | none => false) &&
    (uses.getD i []).all (fun k => k == i || (need.getD i []).any fun d => (uses.getD d []).contains k) &&
    (List.range ops.size).all fun j => i == j || dsts.getD i none != dsts.getD j none || dsts.getD i none == none) &&
  (List.range fill.length).all (fun b =>
    match fill.getD b none with
      | none => true
      | some s => (decide (ops.size ≤ b) || (need.getD s []).contains b) && (fill.getD s none == none) && decide (s < ops.size) && (List.range fill.length).all fun j => j == b || fill.getD j none != some s)

structure HoldAtB (ops : Array Oper) (need uses : List (List Nat)) (dsts : List (Option Nat)) (i : Nat) (o : Oper) : Prop where
  hdst : o.dst = dsts.getD i none
  hguard : ∀ k b, o.guard = some (k, b) → k ∈ need.getD i [] ∧ dsts.getD k none ≠ none
  hneed : ∀ d ∈ need.getD i [], d < i ∧ ∃ e ∈ o.after, e.on = d ∧ Region.binds .any e = true
  hafter : ∀ e ∈ o.after, Region.binds .any e = true → e.on < i
  huses : ∀ k ∈ uses.getD i [], k = i ∨ ∃ d ∈ need.getD i [], k ∈ uses.getD d []
  hapart : ∀ j < ops.size, ∀ t, dsts.getD i none = some t → dsts.getD j none = some t → i = j

theorem hold_fillB (h : holdOpsB ops need uses dsts fill = true) {b s : Nat} (hs : fill.getD b none = some s) : b < fill.length ∧ (ops.size ≤ b ∨ b ∈ need.getD s []) ∧ fill.getD s none = none ∧ s < ops.size ∧ ∀ j, fill.getD j none = some s → j = b := by
  have lt : ∀ {b s : Nat}, fill.getD b none = some s → b < fill.length := fun {b s} hb => by
    rcases Nat.lt_or_ge b fill.length with h2 | h2
    · exact h2
    · rw [List.getD_eq_getElem?_getD, List.getElem?_eq_none h2] at hb; cases hb
  unfold holdOpsB at h
  rw [Bool.and_eq_true] at h
  have h3 := List.all_eq_true.1 h.2 b (List.mem_range.2 (lt hs))
  rw [hs] at h3
  simp only [Bool.and_eq_true, decide_eq_true_eq, List.contains_iff_mem, beq_iff_eq, List.all_eq_true, List.mem_range, Bool.or_eq_true, bne_iff_ne] at h3
  obtain ⟨⟨⟨k1, k2⟩, k4⟩, k5⟩ := h3
  exact ⟨lt hs, k1, k2, k4, fun j hj => (k5 j (lt hj)).resolve_right fun hne => hne hj⟩
theorem hold_atB (h : holdOpsB ops need uses dsts fill = true) {i : Nat} {o : Oper} (ho : ops[i]? = some o) : HoldAtB ops need uses dsts i o := by
  have hlt : i < ops.size := (Array.getElem?_eq_some_iff.1 ho).1
  unfold holdOpsB at h
  rw [Bool.and_eq_true] at h
  have hi := List.all_eq_true.1 h.1 i (List.mem_range.2 hlt)
  rw [ho] at hi
  rw [Bool.and_eq_true, Bool.and_eq_true] at hi
  obtain ⟨⟨h1, h2⟩, h4⟩ := hi
  simp only [Bool.and_eq_true, decide_eq_true_eq, List.all_eq_true, Array.all_eq_true', Array.any_eq_true', beq_iff_eq, Bool.or_eq_true, Bool.not_eq_true'] at h1
  obtain ⟨⟨⟨g1, g2⟩, g3⟩, g4⟩ := h1
  refine ⟨g1, fun k b hg => ?_, fun d hd => ?_, fun e he hb => ?_, fun k hk => ?_, fun j hj t e1 e2 => ?_⟩
  · rw [hg] at g2
    simp only [Bool.and_eq_true, List.contains_iff_mem] at g2
    exact ⟨g2.1, fun e => by rw [e] at g2; cases g2.2⟩
  · obtain ⟨g5, e, he, h7, h8⟩ := g3 d hd
    exact ⟨g5, e, he, h7, h8⟩
  · rcases g4 e he with h7 | h7
    · rw [hb] at h7; cases h7
    · exact h7
  · have := List.all_eq_true.1 h2 k hk
    simp only [Bool.or_eq_true, beq_iff_eq, List.any_eq_true, List.contains_iff_mem] at this
    rcases this with h | ⟨d, hd, h⟩
    · exact .inl h
    · exact .inr ⟨d, hd, h⟩
  · simp only [List.all_eq_true, List.mem_range, Bool.or_eq_true, beq_iff_eq, bne_iff_ne] at h4
    rcases h4 j hj with (h9 | h9) | h9
    · exact h9
    · exact absurd (e1.trans e2.symm) h9
    · rw [h9] at e1; cases e1

/-- What has come up, and what was held ahead. -/
def lstB (n : Nat) (listed : Array Bool) (i : Nat) : Bool := listed.getD i false || decide (n ≤ i)

theorem hold_readyB (h : holdOpsB ops need uses dsts fill = true) {listed : Array Bool} {i : Nat} (hi : i ∈ Region.ready .any ops listed) {d : Nat} (hd : d ∈ need.getD i []) : listed.getD d false = true := by
  obtain ⟨_, o, ho, hall⟩ := mem_ready.1 hi
  obtain ⟨_, e, he, rfl, hb⟩ := (hold_atB h ho).hneed d hd
  exact hall e he hb

theorem hold_allB (h : holdOpsB ops need uses dsts fill = true) {listed : Array Bool} (hs : listed.size = ops.size) (hr : Region.ready .any ops listed = []) : ∀ i, i < ops.size → listed.getD i false = true := by
  intro i
  induction i using Nat.strongRecOn with
  | _ i ih =>
    intro hi
    refine Classical.byContradiction fun hne => ?_
    have h1 : listed.getD i true = false := by
      have hlt : i < listed.size := by omega
      simp only [Array.getD_eq_getD_getElem?, Array.getElem?_eq_getElem hlt, Option.getD_some] at hne ⊢
      simpa using hne
    have hmem : i ∈ Region.ready .any ops listed := mem_ready.2 ⟨h1, ops[i], Array.getElem?_eq_getElem hi, fun e he hb => by
      have := (hold_atB h (Array.getElem?_eq_getElem hi)).hafter e he hb
      exact ih e.on this (by omega)⟩
    rw [hr] at hmem
    cases hmem

structure HoldWayB (ops : Array Oper) (need uses : List (List Nat)) (dsts fill : List (Option Nat)) (vals : List (List Gh → Value)) (R R2 : List (List Gh → List Res)) (W : World) (Rs : List Res) (a0 : Act) (listed : Array Bool) (a : Act) (w : World) (g : Nat → Gh) : Prop where
  lsize : listed.size = ops.size
  size : a.tmps.size = a0.tmps.size
  defers : a.defers = a0.defers
  rest : ∀ t : Nat, some t ∉ dsts → a.eval (.tmp t) = a0.eval (.tmp t)
  has : ∀ i d, listed.getD i false = true → dsts.getD i none = some d → a.eval (.tmp d) = valOf uses vals g i
  closed : ∀ i, listed.getD i false = true → ∀ k ∈ uses.getD i [], listed.getD k false = true
  nclosed : ∀ i, listed.getD i false = true → ∀ k ∈ need.getD i [], listed.getD k false = true
  hd : Hd W w ((List.range fill.length).flatMap (resOf uses fill R R2 (lstB ops.size listed) g) ++ Rs)

/-- One operation. -/
def HoldStepB (P : Program) (Q : Exit → Act → World → Prop) (need uses : List (List Nat)) (dsts fill : List (Option Nat)) (vals : List (List Gh → Value)) (R R2 : List (List Gh → List Res)) (W : World) (Rs : List Res) (a0 : Act) (i : Nat) (o : Oper) : Prop :=
  ∀ (a : Act) (w : World) (g : Nat → Gh), (∀ d ∈ need.getD i [], ∀ s, dsts.getD d none = some s → a.eval (.tmp s) = valOf uses vals g d) → (∀ t : Nat, some t ∉ dsts → a.eval (.tmp t) = a0.eval (.tmp t)) → (∀ d ∈ need.getD i [], fill.getD d none = none → ∃ Ys, Hd W w ((R.getD d fun _ => []) ((uses.getD d []).map g) ++ Ys)) → (∀ b s, fill.getD b none = some s → uses.length ≤ b → i ∈ need.getD s [] → ∃ Ys, Hd W w ((R.getD b fun _ => []) ((uses.getD b []).map g) ++ Ys)) →
    match fill.findIdx? (· == some i) with
    | none => ∀ (Ss : List Res), Hd W w (Ss ++ Rs) → ∀ K : Act → World → Prop, (∀ x v w', (o.dst ≠ none → v = valOf uses vals (updG g i x) i) → Hd W w' ((R.getD i fun _ => []) ((uses.getD i []).map (updG g i x)) ++ (Ss ++ Rs)) → K (a.put o.dst v) w') → o.wp P a w K Q
    | some b => ∀ (Ss : List Res), Hd W w ((R.getD b fun _ => []) ((uses.getD b []).map g) ++ (Ss ++ Rs)) → ∀ K : Act → World → Prop, (∀ x v w', (o.dst ≠ none → v = valOf uses vals (updG g i x) i) → Hd W w' ((R2.getD b fun _ => []) ((uses.getD i []).map (updG g i x)) ++ (Ss ++ Rs)) → K (a.put o.dst v) w') → o.wp P a w K Q

theorem HoldStepB.val {vals : List (List Gh → Value)} {R R2 : List (List Gh → List Res)} {W : World} {Rs : List Res} {a0 : Act} {i : Nat} {o : Oper} (hf : fill.findIdx? (· == some i) = none)
    (h : ∀ (a : Act) (w : World) (g : Nat → Gh), (∀ d ∈ need.getD i [], ∀ s, dsts.getD d none = some s → a.eval (.tmp s) = valOf uses vals g d) → (∀ t : Nat, some t ∉ dsts → a.eval (.tmp t) = a0.eval (.tmp t)) → (∀ d ∈ need.getD i [], fill.getD d none = none → ∃ Ys, Hd W w ((R.getD d fun _ => []) ((uses.getD d []).map g) ++ Ys)) → (∀ b s, fill.getD b none = some s → uses.length ≤ b → i ∈ need.getD s [] → ∃ Ys, Hd W w ((R.getD b fun _ => []) ((uses.getD b []).map g) ++ Ys)) →
      ∀ (Ss : List Res), Hd W w (Ss ++ Rs) → ∀ K : Act → World → Prop, (∀ x v w', (o.dst ≠ none → v = valOf uses vals (updG g i x) i) → Hd W w' ((R.getD i fun _ => []) ((uses.getD i []).map (updG g i x)) ++ (Ss ++ Rs)) → K (a.put o.dst v) w') → o.wp P a w K Q) :
    HoldStepB P Q need uses dsts fill vals R R2 W Rs a0 i o := by
  intro a w g h1 h2 h3 h4
  rw [hf]
  exact h a w g h1 h2 h3 h4
theorem HoldStepB.fil {vals : List (List Gh → Value)} {R R2 : List (List Gh → List Res)} {W : World} {Rs : List Res} {a0 : Act} {i : Nat} {o : Oper} (b : Nat) (hf : fill.findIdx? (· == some i) = some b)
    (h : ∀ (a : Act) (w : World) (g : Nat → Gh), (∀ d ∈ need.getD i [], ∀ s, dsts.getD d none = some s → a.eval (.tmp s) = valOf uses vals g d) → (∀ t : Nat, some t ∉ dsts → a.eval (.tmp t) = a0.eval (.tmp t)) → (∀ d ∈ need.getD i [], fill.getD d none = none → ∃ Ys, Hd W w ((R.getD d fun _ => []) ((uses.getD d []).map g) ++ Ys)) → (∀ b s, fill.getD b none = some s → uses.length ≤ b → i ∈ need.getD s [] → ∃ Ys, Hd W w ((R.getD b fun _ => []) ((uses.getD b []).map g) ++ Ys)) →
      ∀ (Ss : List Res), Hd W w ((R.getD b fun _ => []) ((uses.getD b []).map g) ++ (Ss ++ Rs)) → ∀ K : Act → World → Prop, (∀ x v w', (o.dst ≠ none → v = valOf uses vals (updG g i x) i) → Hd W w' ((R2.getD b fun _ => []) ((uses.getD i []).map (updG g i x)) ++ (Ss ++ Rs)) → K (a.put o.dst v) w') → o.wp P a w K Q) :
    HoldStepB P Q need uses dsts fill vals R R2 W Rs a0 i o := by
  intro a w g h1 h2 h3 h4
  rw [hf]
  exact h a w g h1 h2 h3 h4

theorem hold_filB {b : Nat} {vals : List (List Gh → Value)} {R2 : List (List Gh → List Res)} {W : World} {Ss Rs : List Res} {a : Act} {w w' : World} {g : Nat → Gh} {i : Nat} {o : Oper} {K : Act → World → Prop} (h : (execOp a.eval o).run P w = .ok .skip w') (hd : o.dst = none) (hR : (uses.getD i []).map (updG g i default) = (uses.getD i []).map g) (hH : Hd W w' ((R2.getD b fun _ => []) ((uses.getD i []).map g) ++ (Ss ++ Rs)))
    (hK : ∀ x v w', (o.dst ≠ none → v = valOf uses vals (updG g i x) i) → Hd W w' ((R2.getD b fun _ => []) ((uses.getD i []).map (updG g i x)) ++ (Ss ++ Rs)) → K (a.put o.dst v) w') : o.wp P a w K Q := by
  unfold Oper.wp; rw [h]
  exact hK default undef w' (fun hn => absurd hd hn) (by rw [hR]; exact hH)

/-- THE RULE. -/
theorem hold_coreB {C : Prop} {l : List Oper} {a0 : Act} {w0 W : World} {Rs : List Res} (need uses : List (List Nat)) (dsts fill : List (Option Nat)) (vals : List (List Gh → Value)) (R R2 : List (List Gh → List Res))
    (hc : holdOpsB l.toArray need uses dsts fill = true) (hld : dsts.length = l.length) (hsz : ∀ d, some d ∈ dsts → d < a0.tmps.size) (h0 : Hd W w0 ((List.range fill.length).flatMap (resOf uses fill R R2 (fun i => decide (l.length ≤ i)) fun _ => default) ++ Rs))
    (hul : uses.length = l.length) (hlf : l.length ≤ fill.length) (hnil : ∀ s b, fill.getD b none = some s → ∀ gs, (R.getD s fun _ => []) gs = [])
    (hgd : StepAll (fun _ o => match o.guard with | none => True | some (k, b) => ∀ g, valOf uses vals g k = .bool b) 0 l)
    (step : StepAll (HoldStepB P Q need uses dsts fill vals R R2 W Rs a0) 0 l)
    (S : Nat → Bool) (hS : dsts.all (fun d => match d with | none => true | some t => S t) = true)
    (done : ∀ (f : Nat → Value) (w : World) (g : Nat → Gh), (∀ i d, dsts.getD i none = some d → f d = valOf uses vals g i) →
      Hd W w ((List.range fill.length).flatMap (resOf uses fill R R2 (fun _ => true) g) ++ Rs) → Q .normal { tmps := (patchG S f 0 a0.tmps.toList).toArray, defers := a0.defers } w)
    (run : ∀ I : Array Bool → Act → World → Prop, I (Array.replicate l.toArray.size false) a0 w0.drew →
      (∀ listed a w, I listed a w → ∀ i, i ∈ Region.ready .any l.toArray listed → ∃ o, l.toArray[i]? = some o ∧ Region.wanted o (yielded l.toArray a.tmps) = true ∧ o.wp P a w (fun a' w' => I (listed.setIfInBounds i true) a' w') Q) →
      (∀ listed a w, I listed a w → Region.ready .any l.toArray listed = [] → Q .normal a w) → C) : C := by
  have hsize : l.toArray.size = l.length := by simp
  have dmem : ∀ i d, dsts.getD i none = some d → some d ∈ dsts := fun i d h => by
    rw [List.getD_eq_getElem?_getD] at h
    cases he : dsts[i]? with
    | none => rw [he] at h; cases h
    | some y => rw [he] at h; simp only [Option.getD_some] at h; subst h; exact List.mem_of_getElem? he
  refine run (fun listed a w => a0 = a0 ∧ ∃ g, HoldWayB l.toArray need uses dsts fill vals R R2 W Rs a0 listed a w g) ?_ ?_ ?_
  · refine ⟨rfl, fun _ => default, by simp, rfl, rfl, fun _ _ => rfl, fun i d h => ?_, fun i h => ?_, fun i h => ?_, ?_⟩
    · rw [none_here] at h; cases h
    · rw [none_here] at h; cases h
    · rw [none_here] at h; cases h
    · have : lstB l.toArray.size (Array.replicate l.toArray.size false) = fun i => decide (l.length ≤ i) := by
        funext i
        unfold lstB
        rw [none_here, hsize]; simp
      rw [this]
      exact h0.still (Below.refl _ _).drew
  · rintro listed a w ⟨_, g, hw⟩ i hi
    obtain ⟨hl, o, ho, hall⟩ := mem_ready.1 hi
    have hck := hold_atB hc ho
    have hlt : i < l.toArray.size := (Array.getElem?_eq_some_iff.1 ho).1
    have hgo : l[i]? = some o := by simpa using ho
    have hli : listed.getD i false = false := by
      have : i < listed.size := by rw [hw.lsize]; exact hlt
      simp only [Array.getD_eq_getD_getElem?, Array.getElem?_eq_getElem this, Option.getD_some] at hl ⊢
      exact hl
    have hneed : ∀ d ∈ need.getD i [], ∀ s, dsts.getD d none = some s → a.eval (.tmp s) = valOf uses vals g d := fun d hd s hs => hw.has d s (hold_readyB hc hi hd) hs
    have hin : ∀ j, listed.getD j false = true → j < l.toArray.size := fun j hj => by
      rcases Nat.lt_or_ge j l.toArray.size with h | h
      · exact h
      · rw [← hw.lsize] at h; simp [Array.getElem?_eq_none h] at hj
    have hwant : Region.wanted o (yielded l.toArray a.tmps) = true := by
      cases hg : o.guard with
      | none => simp [Region.wanted, hg]
      | some kb =>
        obtain ⟨k, b⟩ := kb
        obtain ⟨hk, hkd⟩ := hck.hguard k b hg
        have hgv := hgd.at hgo
        simp only [hg] at hgv
        have hkl := hin k (hold_readyB hc hi hk)
        have hok : l.toArray[k]? = some (l.toArray[k]) := Array.getElem?_eq_getElem hkl
        have hdk := (hold_atB hc hok).hdst
        cases hd : dsts.getD k none with
        | none => exact absurd hd hkd
        | some t =>
          have hv := hneed k hk t hd
          rw [hgv g] at hv
          have hlt2 : t < a.tmps.size := by rw [hw.size]; exact hsz _ (dmem k t hd)
          have hb2 : a.tmps[t]? = some (.bool b) := by
            rw [Array.getElem?_eq_getElem hlt2]
            simpa [Act.eval, hlt2] using hv
          rw [hd] at hdk
          simp only [Region.wanted, hg, yielded, hok, Option.bind_some, hdk, hb2, beq_self_eq_true]
    refine ⟨o, ho, hwant, ?_⟩
    have hs := step.at hgo
    rw [Nat.zero_add] at hs
    have hres : ∀ d ∈ need.getD i [], fill.getD d none = none → ∃ Ys, Hd W w ((R.getD d fun _ => []) ((uses.getD d []).map g) ++ Ys) := fun d hd hf => by
      have hdl := (hck.hneed d hd).1
      obtain ⟨Ys, p1, _⟩ := flat_change (F := resOf uses fill R R2 (lstB l.toArray.size listed) g) (F' := resOf uses fill R R2 (lstB l.toArray.size listed) g) (i := d) (fun _ _ => rfl) List.nodup_range (List.mem_range.2 (show d < fill.length by omega))
      have e1 : resOf uses fill R R2 (lstB l.toArray.size listed) g d = (R.getD d fun _ => []) ((uses.getD d []).map g) := by
        unfold resOf
        rw [show lstB l.toArray.size listed d = true by unfold lstB; rw [hold_readyB hc hi hd]; rfl, hf]; rfl
      rw [e1] at p1
      have := Hd.perm (List.Perm.append_right Rs p1) hw.hd
      rw [List.append_assoc] at this
      exact ⟨_, this⟩
    have hpre : ∀ b s, fill.getD b none = some s → uses.length ≤ b → i ∈ need.getD s [] → ∃ Ys, Hd W w ((R.getD b fun _ => []) ((uses.getD b []).map g) ++ Ys) := fun b s hb hlb hins => by
      have hk := hold_fillB hc hb
      obtain ⟨Ys, p1, _⟩ := flat_change (F := resOf uses fill R R2 (lstB l.toArray.size listed) g) (F' := resOf uses fill R R2 (lstB l.toArray.size listed) g) (i := b) (fun _ _ => rfl) List.nodup_range (List.mem_range.2 hk.1)
      have hls : lstB l.toArray.size listed s = false := by
        unfold lstB
        have h1 : listed.getD s false = false := by
          cases h : listed.getD s false with
          | false => rfl
          | true =>
            have := hw.nclosed s h i hins
            rw [hli] at this; cases this
        rw [h1]
        have := hk.2.2.2.1
        simp only [Bool.false_or, decide_eq_false_iff_not]; omega
      have e1 : resOf uses fill R R2 (lstB l.toArray.size listed) g b = (R.getD b fun _ => []) ((uses.getD b []).map g) := by
        unfold resOf
        rw [show lstB l.toArray.size listed b = true by unfold lstB; rw [decide_eq_true (by omega), Bool.or_true], hb]
        simp only [cond_true]
        rw [hls]; rfl
      rw [e1] at p1
      have := Hd.perm (List.Perm.append_right Rs p1) hw.hd
      rw [List.append_assoc] at this
      exact ⟨_, this⟩
    have hs := hs a w g hneed hw.rest hres hpre
    have hset : ∀ j, j ≠ i → (listed.setIfInBounds i true).getD j false = listed.getD j false := fun j hj => by
      simp [Array.getElem?_setIfInBounds_ne (Ne.symm hj)]
    have hset1 : (listed.setIfInBounds i true).getD i false = true := by
      have : i < listed.size := by rw [hw.lsize]; exact hlt
      simp [this]
    have hiu : ∀ j, listed.getD j false = true → i ∉ uses.getD j [] := fun j hj hk => by
      have := hw.closed j hj i hk
      rw [hli] at this; cases this
    have hclosed : ∀ j, (listed.setIfInBounds i true).getD j false = true → ∀ k ∈ uses.getD j [], (listed.setIfInBounds i true).getD k false = true := fun j hj k hk => by
      rcases here_set hj with rfl | hlj
      · rcases hck.huses k hk with rfl | ⟨d, hd, hkd⟩
        · exact hj
        · exact here_mono (hw.closed d (hold_readyB hc hi hd) k hkd)
      · exact here_mono (hw.closed j hlj k hk)
    have hnclosed : ∀ j, (listed.setIfInBounds i true).getD j false = true → ∀ k ∈ need.getD j [], (listed.setIfInBounds i true).getD k false = true := fun j hj k hk => by
      rcases here_set hj with rfl | hlj
      · exact here_mono (hold_readyB hc hi hk)
      · exact here_mono (hw.nclosed j hlj k hk)
    have hB : ∀ j, j ≠ i → lstB l.toArray.size (listed.setIfInBounds i true) j = lstB l.toArray.size listed j := fun j hj => by unfold lstB; rw [hset j hj]
    have hBi : lstB l.toArray.size listed i = false := by unfold lstB; rw [hli]; simp only [Bool.false_or, decide_eq_false_iff_not]; omega
    have hBi' : lstB l.toArray.size (listed.setIfInBounds i true) i = true := by unfold lstB; rw [hset1]; rfl
    have hBu : ∀ j, lstB l.toArray.size listed j = true → i ∉ uses.getD j [] := fun j hj => by
      unfold lstB at hj
      rw [Bool.or_eq_true] at hj
      rcases hj with hj | hj
      · exact hiu j hj
      · have : l.toArray.size ≤ j := by simpa using hj
        rw [List.getD_eq_getElem?_getD, List.getElem?_eq_none (by omega)]
        simp
    have hp : i < fill.length := by omega
    cases hfi : fill.findIdx? (· == some i) with
    | none =>
      rw [hfi] at hs
      have hnf : ∀ j, fill.getD j none ≠ some i := fun j hj => by
        rw [List.getD_eq_getElem?_getD] at hj
        cases he : fill[j]? with
        | none => rw [he] at hj; cases hj
        | some y =>
          rw [he] at hj
          simp only [Option.getD_some] at hj
          have := List.findIdx?_eq_none_iff.1 hfi y (List.mem_of_getElem? he)
          rw [hj] at this; simp at this
      refine hs _ hw.hd _ fun x v w' hv hR => ?_
      refine ⟨rfl, updG g i x, by simp [hw.lsize], (put_size _ _ _).trans hw.size, (put_defers _ _ _).trans hw.defers, fun t ht => ?_, fun j d hj hd => ?_, hclosed, hnclosed, ?_⟩
      · rw [put_ne (by rw [hck.hdst]; exact fun e => ht (dmem i t e))]
        exact hw.rest t ht
      · by_cases e : j = i
        · subst e
          rw [hck.hdst.trans hd, put_same (by rw [hw.size]; exact hsz d (dmem j d hd))]
          exact hv (by rw [hck.hdst, hd]; exact Option.some_ne_none d)
        · have hlj := (here_set hj).resolve_left e
          rw [put_ne (by rw [hck.hdst]; exact fun e2 => e (hck.hapart j (hin j hlj) d e2 hd).symm), hw.has j d hlj hd]
          unfold valOf
          rw [map_upd (hiu j hlj)]
      · have hch : ∀ j, j ≠ i → resOf uses fill R R2 (lstB l.toArray.size listed) g j = resOf uses fill R R2 (lstB l.toArray.size (listed.setIfInBounds i true)) (updG g i x) j := fun j hj => by
          unfold resOf
          rw [hB j hj]
          cases hlj : lstB l.toArray.size listed j with
          | false => rfl
          | true =>
            simp only [cond_true]
            cases hf : fill.getD j none with
            | none => simp only; rw [map_upd (hBu j hlj)]
            | some s =>
              have hsi : s ≠ i := fun e => hnf j (by rw [hf, e])
              simp only
              rw [hB s hsi]
              cases hls : lstB l.toArray.size listed s with
              | false => simp only [cond_false]; rw [map_upd (hBu j hlj)]
              | true => simp only [cond_true]; rw [map_upd (hBu s hls)]
        obtain ⟨Ys, p1, p2⟩ := flat_change hch List.nodup_range (List.mem_range.2 hp)
        have e1 : resOf uses fill R R2 (lstB l.toArray.size listed) g i = [] := by unfold resOf; rw [hBi]; rfl
        have e2 : resOf uses fill R R2 (lstB l.toArray.size (listed.setIfInBounds i true)) (updG g i x) i = (R.getD i fun _ => []) ((uses.getD i []).map (updG g i x)) := by
          unfold resOf
          rw [hBi']
          simp only [cond_true]
          cases hf : fill.getD i none with
          | none => rfl
          | some s =>
            have hk := hold_fillB hc hf
            have hne : s ≠ i := fun e => by rw [e] at hk; rw [hk.2.2.1] at hf; cases hf
            have hls : lstB l.toArray.size listed s = false := by
              unfold lstB
              have h1 : listed.getD s false = false := by
                cases h : listed.getD s false with
                | false => rfl
                | true =>
                  have := hw.nclosed s h i (hk.2.1.resolve_left (by omega))
                  rw [hli] at this; cases this
              rw [h1]
              have := hk.2.2.2.1
              simp only [Bool.false_or, decide_eq_false_iff_not]; omega
            simp only
            rw [hB s hne, hls]; rfl
        rw [e1, List.nil_append] at p1
        rw [e2] at p2
        refine Hd.perm ?_ hR
        rw [← List.append_assoc]
        exact List.Perm.append_right _ ((List.Perm.append_left _ p1).trans p2.symm)
    | some b =>
      rw [hfi] at hs
      obtain ⟨hb1, hb2, _⟩ := List.findIdx?_eq_some_iff_getElem.1 hfi
      have hfb : fill.getD b none = some i := by
        rw [List.getD_eq_getElem?_getD, List.getElem?_eq_getElem hb1, Option.getD_some]
        simpa using hb2
      have hkb := hold_fillB hc hfb
      have hlb : lstB l.toArray.size listed b = true := by
        unfold lstB
        rcases hkb.2.1 with h | h
        · rw [decide_eq_true h, Bool.or_true]
        · rw [hold_readyB hc hi h]; rfl
      have hbi : b ≠ i := fun e => by rw [e, hBi] at hlb; cases hlb
      have hch : ∀ x : Gh, ∀ j, j ≠ b → resOf uses fill R R2 (lstB l.toArray.size listed) g j = resOf uses fill R R2 (lstB l.toArray.size (listed.setIfInBounds i true)) (updG g i x) j := fun x j hj => by
        unfold resOf
        by_cases hji : j = i
        · subst hji
          rw [hBi, hBi', hkb.2.2.1]
          simp only [cond_true, cond_false]
          exact (hnil j b hfb _).symm
        · rw [hB j hji]
          cases hlj : lstB l.toArray.size listed j with
          | false => rfl
          | true =>
            simp only [cond_true]
            cases hf : fill.getD j none with
            | none => simp only; rw [map_upd (hBu j hlj)]
            | some s =>
              have hsi : s ≠ i := fun e => hj (hkb.2.2.2.2 j (by rw [hf, e]))
              simp only
              rw [hB s hsi]
              cases hls : lstB l.toArray.size listed s with
              | false => simp only [cond_false]; rw [map_upd (hBu j hlj)]
              | true => simp only [cond_true]; rw [map_upd (hBu s hls)]
      have e1 : resOf uses fill R R2 (lstB l.toArray.size listed) g b = (R.getD b fun _ => []) ((uses.getD b []).map g) := by
        unfold resOf; rw [hlb, hfb]; simp only [cond_true]; rw [hBi]; rfl
      have e2 : ∀ x, resOf uses fill R R2 (lstB l.toArray.size (listed.setIfInBounds i true)) (updG g i x) b = (R2.getD b fun _ => []) ((uses.getD i []).map (updG g i x)) := fun x => by
        unfold resOf; rw [hB b hbi, hlb, hfb]; simp only [cond_true]; rw [hBi']; rfl
      obtain ⟨Y0, q1, _⟩ := flat_change (hch default) List.nodup_range (List.mem_range.2 hkb.1)
      rw [e1] at q1
      have hH := Hd.perm (List.Perm.append_right Rs q1) hw.hd
      rw [List.append_assoc] at hH
      refine hs _ hH _ fun x v w' hv hR => ?_
      obtain ⟨Ys, p1, p2⟩ := flat_change (hch x) List.nodup_range (List.mem_range.2 hkb.1)
      rw [e1] at p1
      rw [e2] at p2
      refine ⟨rfl, updG g i x, by simp [hw.lsize], (put_size _ _ _).trans hw.size, (put_defers _ _ _).trans hw.defers, fun t ht => ?_, fun j d hj hd => ?_, hclosed, hnclosed, ?_⟩
      · rw [put_ne (by rw [hck.hdst]; exact fun e => ht (dmem i t e))]
        exact hw.rest t ht
      · by_cases e : j = i
        · subst e
          rw [hck.hdst.trans hd, put_same (by rw [hw.size]; exact hsz d (dmem j d hd))]
          exact hv (by rw [hck.hdst, hd]; exact Option.some_ne_none d)
        · have hlj := (here_set hj).resolve_left e
          rw [put_ne (by rw [hck.hdst]; exact fun e2 => e (hck.hapart j (hin j hlj) d e2 hd).symm), hw.has j d hlj hd]
          unfold valOf
          rw [map_upd (hiu j hlj)]
      · have hYY : Y0.Perm Ys := (List.perm_append_left_iff _).1 (q1.symm.trans p1)
        rw [← List.append_assoc] at hR
        exact Hd.perm (List.Perm.append_right _ ((List.Perm.append_left _ hYY).trans p2.symm)) hR
  · rintro listed a w ⟨_, g, hw⟩ hr
    have hall := hold_allB hc hw.lsize hr
    have hlit := act_litG (a := a) (a0 := a0) S hw.size hw.defers (fun t ht => hw.rest t (fun h => by
      have := List.all_eq_true.1 hS _ h
      simp only at this
      rw [this] at ht; cases ht))
    rw [hlit]
    refine done _ w g (fun i d hd => hw.has i d (hall i ?_) hd) ?_
    · rcases Nat.lt_or_ge i l.toArray.size with h | h
      · exact h
      · rw [List.getD_eq_getElem?_getD, List.getElem?_eq_none (by omega)] at hd; cases hd
    · have hh := hw.hd
      have : lstB l.toArray.size listed = fun _ => true := by
        funext i
        unfold lstB
        rcases Nat.lt_or_ge i l.toArray.size with h | h
        · rw [hall i h]; rfl
        · rw [decide_eq_true h, Bool.or_true]
      rw [this] at hh
      exact hh

/-- An append of one number to a row held ahead. -/
theorem hold_appB {Q : Exit → Act → World → Prop} {uses : List (List Nat)} {b : Nat} {vals : List (List Gh → Value)} {R2 : List (List Gh → List Res)} {W : World} {Ss : List Res} {a : Act} {w : World} {g : Nat → Gh} {i : Nat} {o : Oper} {K : Act → World → Prop} {T E n bytes gx : Nat} {v : Value} {zs : List Int} {inf : TypeInfo} (d : Int)
    (ht : Try.prog.underlying T = some (.slice E)) (hi : Try.prog.info? E = some inf) (hz : inf.zero = some (.int .i64 0)) (hsize : inf.size = 1) (hby : inf.bytes = bytes) (hb8 : bytes ≤ 8)
    (s x : Operand) (ho : o.op = .call { callee := .builtin .append, args := #[s, x], argTypes := #[T, T] }) (h : Hd W w (RowR E 1 v n (nums .i64 zs) :: Ss)) (hs : a.eval s = v) (hx : a.eval x = .slice (some ⟨gx, 0, none⟩) 1 1) (hc : w.heap[gx]? = some (.cells #[.int .i64 d] E (0, 0))) (hn : n ≤ 1000)
    (hv : ∀ y : Gh, valOf uses vals (updG g i y) i = .slice y.1 (n + 1) y.2) (hR : ∀ y : Gh, (R2.getD b fun _ => []) ((uses.getD i []).map (updG g i y)) = [RowR E 1 (.slice y.1 (n + 1) y.2) (n + 1) (nums .i64 (zs ++ [d]))])
    (hK : ∀ x v w', (o.dst ≠ none → v = valOf uses vals (updG g i x) i) → Hd W w' ((R2.getD b fun _ => []) ((uses.getD i []).map (updG g i x)) ++ Ss) → K (a.put o.dst v) w') : o.wp Try.prog a w K Q := by
  refine wp_append_lies w s x T ho 0 E inf (.int .i64 0) 1 bytes ht hi hz hsize hby rfl (by decide) v n _ hs h.owns ⟨gx, 0, none⟩ 1 1 [.int .i64 d] hx rfl (World.news_of_block hc) (by simp [Value.oneCell']) (by decide) (by simp only [maxLen]; omega) ?_ (Nat.zero_le _) _ rfl ?_
  · have : (n + 1) * bytes ≤ (n + 1) * 8 := Nat.mul_le_mul_left _ hb8
    omega
  · intro g2 cap w' ho' hg hgg _
    refine hK (some ⟨g2, 0, none⟩, cap) _ w' (fun _ => (hv (some ⟨g2, 0, none⟩, cap)).symm) ?_
    rw [hR]
    have := h.grown ho' hg hgg
    rw [show nums .i64 (zs ++ [d]) = nums .i64 zs ++ [.int .i64 d] by simp [nums]]
    exact this

/-- An operation in a round, at the fence that lets all in. -/
theorem Oper.wpIn_of_wp {o : Oper} {a : Act} {w : World} {K : Act → World → Prop} {n r : Nat} (hd : ∀ c, o.op ≠ .defer c) (hr : ∀ row args w', (execOp a.eval o).run P w ≠ .ok (.row row args) w') (h : o.wp P a w K Q) : o.wpIn (Fence.wide.inRound r) n P a w K Q := by
  refine ⟨fun _ _ => trivial, ?_⟩
  rw [show (Fence.wide.inRound r).round = some r from rfl, Oper.semAt_some r a.eval o hd]
  unfold Oper.wp at h
  revert h hr
  generalize (execOp a.eval o).run P w = res
  intro hr h
  cases res with
  | ok x w' =>
    cases x <;> simp only [Oper.upon, Oper.uponIn] at h ⊢ <;> first | exact h | skip
    case enter f args => exact ⟨fun h => (by cases h), CallsIn.inRound r (callsIn_wide.2 h)⟩
    case row row args => exact absurd rfl (hr row args w')
  | halt x w' => cases x <;> simp only [Oper.upon, Oper.uponIn] at h ⊢ <;> exact h

theorem wpAnyIn_invB {ops : Array Oper} {I : Array Bool → Act → World → Prop} {n r : Nat} (hops : ∀ (i : Nat) (o : Oper), ops[i]? = some o → (∀ c, o.op ≠ .defer c) ∧ ∀ (a : Act) w row args w', (execOp a.eval o).run P w ≠ .ok (.row row args) w')
    (step : ∀ listed a w, I listed a w → ∀ i, i ∈ Region.ready .any ops listed → ∃ o, ops[i]? = some o ∧ Region.wanted o (yielded ops a.tmps) = true ∧ o.wp P a w (fun a' w' => I (listed.setIfInBounds i true) a' w') Q)
    (done : ∀ listed a w, I listed a w → Region.ready .any ops listed = [] → Q .normal a w) : ∀ (fuel : Nat) (listed : Array Bool) (a : Act) (w : World), unlisted listed ≤ fuel → I listed a w → wpAnyIn (Fence.wide.inRound r) n P .any ops Q fuel listed a w
  | 0, listed, a, w, hf, hI => by
    have hr : Region.ready .any ops listed = [] := by
      cases hr : Region.ready .any ops listed with
      | nil => rfl
      | cons i rs =>
        have h1 := (mem_ready.1 (by rw [hr]; exact List.mem_cons_self : i ∈ Region.ready .any ops listed)).1
        have := unlisted_set h1
        omega
    exact ⟨hr, done listed a w hI hr⟩
  | fuel + 1, listed, a, w, hf, hI => by
    refine ⟨done listed a w hI, fun i hi => ?_⟩
    have h1 := (mem_ready.1 hi).1
    have h2 := unlisted_set h1
    obtain ⟨o, ho, hwant, hwp⟩ := step listed a w hI i hi
    refine wpOpIn_mono (fun a' w' h => wpAnyIn_invB hops step done fuel _ a' w' (by omega) h) ?_
    unfold wpOpIn
    rw [ho]
    simp only [hwant, if_true]
    exact Oper.wpIn_of_wp (hops i o ho).1 ((hops i o ho).2 a w) hwp

theorem run_wpB {l : List Oper} {id : Nat} {a0 : Act} {w0 : World} (hm : P.follows .mixedOrders = true) (I : Array Bool → Act → World → Prop) (h0 : I (Array.replicate l.toArray.size false) a0 w0.drew)
    (step : ∀ listed a w, I listed a w → ∀ i, i ∈ Region.ready .any l.toArray listed → ∃ o, l.toArray[i]? = some o ∧ Region.wanted o (yielded l.toArray a.tmps) = true ∧ o.wp P a w (fun a' w' => I (listed.setIfInBounds i true) a' w') Q)
    (done : ∀ listed a w, I listed a w → Region.ready .any l.toArray listed = [] → Q .normal a w) : (Code.region id l.toArray true).wp P Q a0 w0 :=
  wp_region_any hm (wpAny_inv (I := I) (fun listed a w h i hi => by
    obtain ⟨o, ho, hw, hk⟩ := step listed a w h i hi
    exact wpOp_wanted ho hw hk) done _ _ _ _ (by simp [unlisted]) h0)
theorem run_wpInB {l : List Oper} {id n r : Nat} {a0 : Act} {w0 : World} (hm : P.follows .mixedOrders = true) (hops : ∀ (i : Nat) (o : Oper), l.toArray[i]? = some o → (∀ c, o.op ≠ .defer c) ∧ ∀ (a : Act) w row args w', (execOp a.eval o).run P w ≠ .ok (.row row args) w')
    (I : Array Bool → Act → World → Prop) (h0 : I (Array.replicate l.toArray.size false) a0 w0.drew)
    (step : ∀ listed a w, I listed a w → ∀ i, i ∈ Region.ready .any l.toArray listed → ∃ o, l.toArray[i]? = some o ∧ Region.wanted o (yielded l.toArray a.tmps) = true ∧ o.wp P a w (fun a' w' => I (listed.setIfInBounds i true) a' w') Q)
    (done : ∀ listed a w, I listed a w → Region.ready .any l.toArray listed = [] → Q .normal a w) : (Code.region id l.toArray true).wpIn (Fence.wide.inRound r) n P Q a0 w0 :=
  wpIn_region_any hm (wpAnyIn_invB hops step done _ _ _ _ (by simp [unlisted]) h0)
end
end Go.Proofs.Ytpcfmafokkffgaa
