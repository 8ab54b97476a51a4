/-
  A region that draws its order, of operations that read and operations that make blocks: in whatever order they come, each makes its block, and its value is what it is of these blocks. For every program, region and memory.
-/
import Derived.Test.YtpcfmafokkffgaaInv
import Derived.Test.YtpcfmafokkffgaaArgs
namespace Go.Proofs.Ytpcfmafokkffgaa
open Go.RowKit

/-- Things in another order. -/
theorem Hd.perm {W w : World} {Rs Ss : List Res} (p : Rs.Perm Ss) : Hd W w Rs → Hd W w Ss := by
  have key : ∀ {Rs Ss : List Res}, Rs.Perm Ss → ∀ u, Lies w u Rs → Lies w u Ss := by
    intro Rs Ss p
    induction p with
    | nil => exact fun _ h => h
    | cons x _ ih => exact fun u h => Lies.cons_mono (fun v => ih v) h
    | swap x y l => exact fun u h => h.swap
    | trans _ _ ih1 ih2 => exact fun u h => ih2 u (ih1 u h)
  exact fun h => ⟨h.below, key p _ h.lies⟩

/-- What a call holds, with what its callee was given. -/
theorem Hd.join {W w w' : World} {Rs Ss : List Res} (h : Hd W w Rs) (k : Hd w w' Ss) : Hd W w' (Ss ++ Rs) := by
  refine ⟨h.below.trans (k.below.mono h.below.size), ?_⟩
  have key : ∀ (Ss : List Res) (u v : Nat → Prop), (∀ i, i < w.heap.size → v i) → (∀ i, u i → v i) → (∀ i, u i → i < W.heap.size ∨ w.heap.size ≤ i) → Lies w' v Ss → Lies w' u (Ss ++ Rs) := by
    intro Ss
    induction Ss with
    | nil =>
      intro u v _ _ h3 _
      exact (h.lies.grow h3).keep fun i _ hi => k.below.block i hi
    | cons S Ss ih =>
      intro u v h1 h2 h3 hl
      obtain ⟨f, hS, hf, hd, hr⟩ := hl
      refine ⟨f, hS, hf, fun i hi hu => hd i hi (h2 i hu), ih _ _ (fun i hi => .inl (h1 i hi)) (fun i hi => hi.imp (h2 i) id) (fun i hi => ?_) hr⟩
      rcases hi with hi | hi
      · exact h3 i hi
      · refine .inr (Nat.le_of_not_lt fun hlt => hd i hi (h1 i hlt))
  refine key Ss _ _ (fun i hi => hi) (fun i hi => Nat.lt_of_lt_of_le hi h.below.size) (fun i hi => .inl hi) k.lies

section
variable (ops : Array Oper) (need uses : Nat → List Nat)

def dstOf (i : Nat) : Option Nat := (ops[i]?).bind (·.dst)
/-- What the rule asks of the region's text. -/
def checkOps : Bool :=
  (List.range ops.size).all fun i =>
    (match ops[i]? with
      | some o => decide (o.guard = none) && (need i).all (fun d => o.after.any fun e => e.on == d && Region.binds .any e) && o.after.all (fun e => !Region.binds .any e || decide (e.on < i))
      | none => false) &&
    (need i).all (fun d => decide (d < i)) &&
    (uses i).all (fun k => k == i || (need i).any fun d => (uses d).contains k) &&
    (List.range ops.size).all fun j => i == j || dstOf ops i != dstOf ops j || dstOf ops i == none

variable {ops need uses}

theorem check_at (h : checkOps ops need uses = true) {i : Nat} {o : Oper} (ho : ops[i]? = some o) : o.guard = none ∧ (∀ d ∈ need i, ∃ e ∈ o.after, e.on = d ∧ Region.binds .any e = true) ∧ (∀ e ∈ o.after, Region.binds .any e = true → e.on < i) ∧ (∀ d ∈ need i, d < i) ∧
    (∀ k ∈ uses i, k = i ∨ ∃ d ∈ need i, k ∈ uses d) ∧ (∀ j < ops.size, ∀ t, dstOf ops i = some t → dstOf ops j = some t → i = j) := by
  have hlt : i < ops.size := (Array.getElem?_eq_some_iff.1 ho).1
  unfold checkOps at h
  rw [List.all_eq_true] at h
  have hi := h i (List.mem_range.2 hlt)
  rw [ho] at hi
  simp only [Bool.and_eq_true, decide_eq_true_eq, List.all_eq_true, Array.all_eq_true', Array.any_eq_true', beq_iff_eq, Bool.or_eq_true, Bool.not_eq_true', bne_iff_ne, List.any_eq_true, List.contains_iff_mem, List.mem_range] at hi
  obtain ⟨⟨⟨⟨⟨h1, h2⟩, h3⟩, h4⟩, h5⟩, h6⟩ := hi
  refine ⟨h1, fun d hd => ?_, fun e he hb => ?_, h4, fun k hk => ?_, fun j hj t h7 h8 => ?_⟩
  · obtain ⟨e, he, h7, h8⟩ := h2 d hd
    exact ⟨e, he, h7, h8⟩
  · rcases h3 e he with h7 | h7
    · rw [hb] at h7; cases h7
    · exact h7
  · rcases h5 k hk with h7 | ⟨d, hd, h7⟩
    · exact .inl h7
    · exact .inr ⟨d, hd, by simpa using h7⟩
  · rcases h6 j hj with (h9 | h9) | h9
    · exact h9
    · exact absurd (h7.trans h8.symm) h9
    · rw [h9] at h7; cases h7

theorem ready_need (h : checkOps ops need uses = true) {listed : Array Bool} {i : Nat} (hi : i ∈ Region.ready .any ops listed) {d : Nat} (hd : d ∈ need i) : listed.getD d false = true := by
  obtain ⟨_, o, ho, hall⟩ := mem_ready.1 hi
  obtain ⟨e, he, rfl, hb⟩ := (check_at h ho).2.1 d hd
  exact hall e he hb

theorem all_here (h : checkOps ops need uses = true) {listed : Array Bool} (hs : listed.size = ops.size) (hr : Region.ready .any ops listed = []) : ∀ i, i < ops.size → listed.getD i false = true := by
  intro i
  induction i using Nat.strongRecOn with
  | _ i ih =>
    intro hi
    refine Classical.byContradiction fun hne => ?_
    have h1 : listed.getD i true = false := by
      have hlt : i < listed.size := by omega
      simp only [Array.getD_eq_getD_getElem?, Array.getElem?_eq_getElem hlt, Option.getD_some] at hne ⊢
      simpa using hne
    have hmem : i ∈ Region.ready .any ops listed := mem_ready.2 ⟨h1, ops[i], Array.getElem?_eq_getElem hi, fun e he hb => by
      have := (check_at h (Array.getElem?_eq_getElem hi)).2.2.1 e he hb
      exact ih e.on this (by omega)⟩
    rw [hr] at hmem
    cases hmem

theorem here_set {listed : Array Bool} {i j : Nat} (h : (listed.setIfInBounds i true).getD j false = true) : j = i ∨ listed.getD j false = true := by
  by_cases e : i = j
  · exact .inl e.symm
  · right
    simpa [Array.getElem?_setIfInBounds_ne e] using h
theorem here_mono {listed : Array Bool} {i j : Nat} (h : listed.getD j false = true) : (listed.setIfInBounds i true).getD j false = true := by
  by_cases e : i = j
  · subst e
    have hlt : i < listed.size := by
      rcases Nat.lt_or_ge i listed.size with h' | h'
      · exact h'
      · simp [Array.getElem?_eq_none h'] at h
    simp [hlt]
  · simpa [Array.getElem?_setIfInBounds_ne e] using h

theorem none_here (n i : Nat) : (Array.replicate n false).getD i false = false := by
  simp only [Array.getD_eq_getD_getElem?, Array.getElem?_replicate]
  split <;> rfl

/-- Another block for i. -/
def upd (g : Nat → Nat) (i x : Nat) : Nat → Nat := fun j => if j = i then x else g j

theorem put_same {a : Act} {d : Nat} {v : Value} (h : d < a.tmps.size) : (a.put (some d) v).eval (.tmp d) = v := by
  simp [Act.put, Act.eval, h]
theorem put_ne {a : Act} {d : Option Nat} {t : Nat} {v : Value} (h : d ≠ some t) : (a.put d v).eval (.tmp t) = a.eval (.tmp t) := by
  cases d with
  | none => rfl
  | some d =>
    have hne : d ≠ t := fun e => h (by rw [e])
    simp [Act.put, Act.eval, Array.getElem?_setIfInBounds_ne hne]
theorem put_size (a : Act) (d : Option Nat) (v : Value) : (a.put d v).tmps.size = a.tmps.size := by
  cases d <;> simp [Act.put]
theorem put_defers (a : Act) (d : Option Nat) (v : Value) : (a.put d v).defers = a.defers := by
  cases d <;> rfl

/-- What holds on the way. -/
structure Way (ops : Array Oper) (uses : Nat → List Nat) (val : (Nat → Nat) → Nat → Value) (R : (Nat → Nat) → Nat → List Res) (W w0 : World) (Rs : List Res) (a0 : Act) (listed : Array Bool) (a : Act) (w : World) (g : Nat → Nat) : Prop where
  lsize : listed.size = ops.size
  size : a.tmps.size = a0.tmps.size
  defers : a.defers = a0.defers
  rest : ∀ t : Nat, (∀ i, dstOf ops i ≠ some t) → a.eval (.tmp t) = a0.eval (.tmp t)
  has : ∀ i d, listed.getD i false = true → dstOf ops i = some d → a.eval (.tmp d) = val g i
  closed : ∀ i, listed.getD i false = true → ∀ k ∈ uses i, listed.getD k false = true
  below : Below w0.heap.size w0 w
  hd : Hd W w (((List.range ops.size).filter fun i => listed.getD i false).flatMap (R g) ++ Rs)

theorem perm_insert {R R' : Nat → List Res} (p p' : Nat → Bool) (i : Nat) (hp : p i = false) (hp' : ∀ j, p' j = (p j || j == i)) (hR : ∀ j, p j = true → R' j = R j) : ∀ l : List Nat, l.Nodup → i ∈ l → (R' i ++ (l.filter p).flatMap R).Perm ((l.filter p').flatMap R')
  | [], _, h => by simp at h
  | x :: l, hn, h => by
    have hx := (List.nodup_cons.1 hn).1
    have hl := (List.nodup_cons.1 hn).2
    by_cases e : x = i
    · subst e
      have h1 : p' x = true := by rw [hp']; simp
      rw [List.filter_cons_of_neg (by simp [hp]), List.filter_cons_of_pos h1, List.flatMap_cons]
      refine List.Perm.append_left _ ?_
      have : ∀ l : List Nat, x ∉ l → (l.filter p).flatMap R = (l.filter p').flatMap R' := by
        intro l
        induction l with
        | nil => intro _; rfl
        | cons y l ih =>
          intro hy
          have hyx : y ≠ x := fun e => hy (by simp [e])
          have h2 : p' y = p y := by rw [hp']; simp [hyx]
          cases hpy : p y with
          | true => rw [List.filter_cons_of_pos hpy, List.filter_cons_of_pos (by rw [h2, hpy]), List.flatMap_cons, List.flatMap_cons, hR y hpy, ih (fun h => hy (by simp [h]))]
          | false => rw [List.filter_cons_of_neg (by simp [hpy]), List.filter_cons_of_neg (by simp [h2, hpy]), ih (fun h => hy (by simp [h]))]
      rw [this l hx]
    · have hi : i ∈ l := by
        rcases List.mem_cons.1 h with h | h
        · exact absurd h.symm e
        · exact h
      have ih := perm_insert p p' i hp hp' hR l hl hi
      have h2 : p' x = p x := by rw [hp']; simp [e]
      cases hpx : p x with
      | true =>
        rw [List.filter_cons_of_pos hpx, List.filter_cons_of_pos (by rw [h2, hpx]), List.flatMap_cons, List.flatMap_cons, hR x hpx]
        rw [← List.append_assoc]
        exact ((List.perm_append_comm.append_right _).trans (by rw [List.append_assoc])).trans (List.Perm.append_left _ ih)
      | false => rw [List.filter_cons_of_neg (by simp [hpx]), List.filter_cons_of_neg (by simp [h2, hpx])]; exact ih

/-- THE RULE. -/
theorem wp_region_made {P : Program} {Q : Exit → Act → World → Prop} {id : Nat} {a0 : Act} {w0 W : World} {Rs : List Res} (need uses : Nat → List Nat) (val : (Nat → Nat) → Nat → Value) (R : (Nat → Nat) → Nat → List Res)
    (hm : P.follows .mixedOrders = true) (hc : checkOps ops need uses = true) (hsz : ∀ i d, dstOf ops i = some d → d < a0.tmps.size)
    (hval : ∀ i g g', (∀ k ∈ uses i, g k = g' k) → val g i = val g' i ∧ R g i = R g' i) (h0 : Hd W w0 Rs)
    (step : ∀ i o, ops[i]? = some o → ∀ (a : Act) (w : World) (g : Nat → Nat), (∀ d ∈ need i, ∀ s, dstOf ops d = some s → a.eval (.tmp s) = val g d) → (∀ t : Nat, (∀ i, dstOf ops i ≠ some t) → a.eval (.tmp t) = a0.eval (.tmp t)) → Below w0.heap.size w0 w →
      ∀ K : Act → World → Prop, (∀ x v w', v = val (upd g i x) i ∨ o.dst = none → Below w.heap.size w w' → (∀ Ss, Hd W w Ss → Hd W w' (R (upd g i x) i ++ Ss)) → K (a.put o.dst v) w') → o.wp P a w K Q)
    (done : ∀ (a : Act) (w : World) (g : Nat → Nat), a.tmps.size = a0.tmps.size → a.defers = a0.defers → (∀ t : Nat, (∀ i, dstOf ops i ≠ some t) → a.eval (.tmp t) = a0.eval (.tmp t)) → (∀ i d, dstOf ops i = some d → a.eval (.tmp d) = val g i) → Below w0.heap.size w0 w →
      Hd W w ((List.range ops.size).flatMap (R g) ++ Rs) → Q .normal a w) : (Code.region id ops true).wp P Q a0 w0 := by
  refine wp_region_inv (fun a0 listed a w => a0 = a0 ∧ ∃ g, Way ops uses val R W w0 Rs a0 listed a w g) hm ?_ ?_ ?_
  · refine ⟨rfl, fun _ => 0, by simp, rfl, rfl, fun _ _ => rfl, fun i d h => ?_, fun i h => ?_, (Below.refl _ _).drew, ?_⟩
    · rw [none_here] at h; cases h
    · rw [none_here] at h; cases h
    · have : ((List.range ops.size).filter fun i => (Array.replicate ops.size false).getD i false) = [] := by
        rw [List.filter_eq_nil_iff]
        intro i _
        rw [none_here]; exact Bool.false_ne_true
      rw [this]
      exact h0.still (Below.refl _ _).drew
  · rintro listed a w ⟨_, g, hw⟩ i hi
    obtain ⟨hl, o, ho, hall⟩ := mem_ready.1 hi
    have hck := check_at hc ho
    have hlt : i < ops.size := (Array.getElem?_eq_some_iff.1 ho).1
    have hdi : dstOf ops i = o.dst := by simp [dstOf, ho]
    have hli : listed.getD i false = false := by
      have : i < listed.size := by rw [hw.lsize]; exact hlt
      simp only [Array.getD_eq_getD_getElem?, Array.getElem?_eq_getElem this, Option.getD_some] at hl ⊢
      exact hl
    refine wpOp_plain ho hck.1 ?_
    refine step i o ho a w g (fun d hd s hs => hw.has d s (ready_need hc hi hd) hs) hw.rest hw.below _ ?_
    intro x v w' hv hb hR
    have huse : ∀ j, listed.getD j false = true → ∀ k ∈ uses j, g k = upd g i x k := fun j hj k hk => by
      have := hw.closed j hj k hk
      have hne : k ≠ i := fun e => by rw [e, hli] at this; cases this
      simp [upd, hne]
    refine ⟨rfl, upd g i x, by simp [hw.lsize], (put_size _ _ _).trans hw.size, (put_defers _ _ _).trans hw.defers, fun t ht => ?_, fun j d hj hd => ?_, fun j hj k hk => ?_, hw.below.trans (hb.mono hw.below.size), ?_⟩
    · rw [put_ne (by rw [← hdi]; exact ht i)]
      exact hw.rest t ht
    · by_cases e : j = i
      · subst e
        rw [hdi] at hd
        rw [hd, put_same (by rw [hw.size]; exact hsz j d (hdi.trans hd))]
        rcases hv with hv | hv
        · exact hv
        · rw [hv] at hd; cases hd
      · have hlj := (here_set hj).resolve_left e
        have hjs : j < ops.size := by
          rcases Nat.lt_or_ge j ops.size with h | h
          · exact h
          · rw [← hw.lsize] at h; simp [Array.getElem?_eq_none h] at hlj
        rw [put_ne (fun e2 => e (hck.2.2.2.2.2 j hjs d (hdi.trans e2) hd).symm), hw.has j d hlj hd]
        exact (hval j _ _ (huse j hlj)).1
    · rcases here_set hj with rfl | hlj
      · rcases hck.2.2.2.2.1 k hk with rfl | ⟨d, hd, hkd⟩
        · exact hj
        · exact here_mono (hw.closed d (ready_need hc hi hd) k hkd)
      · exact here_mono (hw.closed j hlj k hk)
    · have h1 := hR _ hw.hd
      rw [← List.append_assoc] at h1
      refine Hd.perm (List.Perm.append_right _ ?_) h1
      refine perm_insert (R := R g) (R' := R (upd g i x)) (fun j => listed.getD j false) (fun j => (listed.setIfInBounds i true).getD j false) i hli (fun j => ?_) (fun j hj => (hval j _ _ (huse j hj)).2.symm) _ List.nodup_range (List.mem_range.2 hlt)
      by_cases e : j = i
      · subst e
        have : j < listed.size := by rw [hw.lsize]; exact hlt
        simp [this]
      · simp only [Array.getD_eq_getD_getElem?, Array.getElem?_setIfInBounds_ne (Ne.symm e)]
        simp [e]
  · rintro listed a w ⟨_, g, hw⟩ hr
    have hall := all_here hc hw.lsize hr
    refine done a w g hw.size hw.defers hw.rest (fun i d hd => hw.has i d (hall i ?_) hd) hw.below ?_
    · rcases Nat.lt_or_ge i ops.size with h | h
      · exact h
      · simp [dstOf, Array.getElem?_eq_none h] at hd
    · have := hw.hd
      rw [List.filter_eq_self.2 (fun i hi => hall i (List.mem_range.1 hi))] at this
      exact this

theorem core_at {core : List (Option Nat × Op)} (hc : ops.toList.map (fun o => (o.dst, o.op)) = core) {i : Nat} {o : Oper} (ho : ops[i]? = some o) : core[i]? = some (o.dst, o.op) := by
  rw [← hc, List.getElem?_map, Array.getElem?_toList, ho]; rfl
theorem dst_core {core : List (Option Nat × Op)} (hc : ops.toList.map (fun o => (o.dst, o.op)) = core) (i : Nat) : dstOf ops i = (core[i]?).bind (·.1) := by
  rw [← hc, List.getElem?_map, Array.getElem?_toList, dstOf]
  cases ops[i]? <;> rfl
end

/-- A frame of which some slots are written anew. -/
def patchG (S : Nat → Bool) (f : Nat → Value) : Nat → List Value → List Value
  | _, [] => []
  | i, v :: l => (bif S i then f i else v) :: patchG S f (i + 1) l

theorem patchG_get (S : Nat → Bool) (f : Nat → Value) : ∀ (l : List Value) (i j : Nat), (patchG S f i l)[j]? = (l[j]?).map fun v => bif S (i + j) then f (i + j) else v
  | [], i, j => by simp [patchG]
  | v :: l, i, 0 => by simp [patchG]
  | v :: l, i, j + 1 => by
    simp only [patchG, List.getElem?_cons_succ, patchG_get S f l (i + 1) j]
    rw [show i + 1 + j = i + (j + 1) from by omega]

theorem act_litG {a a0 : Act} (S : Nat → Bool) (hs : a.tmps.size = a0.tmps.size) (hd : a.defers = a0.defers) (hr : ∀ t : Nat, S t = false → a.eval (.tmp t) = a0.eval (.tmp t)) :
    a = { tmps := (patchG S (fun i => a.eval (.tmp i)) 0 a0.tmps.toList).toArray, defers := a0.defers } := by
  obtain ⟨t, d⟩ := a
  obtain ⟨t0, d0⟩ := a0
  dsimp only at hs hd
  subst hd
  congr 1
  apply Array.ext_getElem?
  intro i
  simp only [List.getElem?_toArray, patchG_get, Nat.zero_add, Array.getElem?_toList]
  by_cases h : i < t.size
  · have h3 : i < t0.size := by omega
    simp only [Array.getElem?_eq_getElem h, Array.getElem?_eq_getElem h3, Option.map_some, Option.some.injEq]
    cases hS : S i with
    | true => simp [Act.eval, h]
    | false =>
      have := hr i hS
      simpa [Act.eval, h, h3] using this
  · have h3 : ¬ i < t0.size := by omega
    simp [h, h3]
end Go.Proofs.Ytpcfmafokkffgaa
