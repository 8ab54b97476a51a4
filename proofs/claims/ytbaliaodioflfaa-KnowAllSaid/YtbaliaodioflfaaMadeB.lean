/-
  A region that draws its order: first operations that read and operations that make blocks, in whatever order; then operations that come in the text's order. For every program, region and memory.
-/
import Derived.Test.YtbaliaodioflfaaMade
import Derived.StillTail
namespace Go.Proofs.Ytbaliaodioflfaa
open Go.RowKit

section
variable {ops : Array Oper}
theorem head_all {ops : Array Oper} {n : Nat} {listed : Array Bool} (inv : HeadInv .any ops n listed) (hn : n ≤ ops.size) (hall : ∀ i, i < n → listed.getD i false = true) : listed = (List.replicate n true ++ List.replicate (ops.size - n) false).toArray := by
  apply Array.ext_getElem?
  intro i
  have e : ∀ l : List Bool, l.toArray[i]? = l[i]? := fun l => by simp
  rw [e (List.replicate n true ++ List.replicate (ops.size - n) false), List.getElem?_append, List.length_replicate]
  by_cases h : i < n
  · rw [if_pos h, List.getElem?_replicate, if_pos h]
    have hs : i < listed.size := by rw [inv.size]; omega
    have := hall i h
    simp [hs] at this
    rw [Array.getElem?_eq_getElem hs, this]
  · rw [if_neg h, List.getElem?_replicate]
    by_cases h2 : i < ops.size
    · rw [if_pos (by omega)]
      have hs : i < listed.size := by rw [inv.size]; omega
      have := inv.tail i (by omega) h2
      simp [hs] at this
      rw [Array.getElem?_eq_getElem hs, this]
    · rw [if_neg (by omega), Array.getElem?_eq_none (by rw [inv.size]; omega)]

theorem wpAny_inv_tail {P : Program} {ops : Array Oper} {Q : Exit → Act → World → Prop} {I : Array Bool → Act → World → Prop} {need uses : Nat → List Nat} (n : Nat) (hck : checkOps ops need uses = true) (hs : Region.sinkB .any ops n = true) (hc : Region.chainB .any ops n = true) (hn : n < ops.size)
    (hseq : Region.seqB .any ops (ops.size - n) n (List.replicate n true ++ List.replicate (ops.size - n) false).toArray = true)
    (step : ∀ listed a w, I listed a w → ∀ i, i ∈ Region.ready .any ops listed → i < n → wpOp P ops Q i (fun a' w' => I (listed.setIfInBounds i true) a' w') a w)
    (done : ∀ listed a w, I listed a w → (∀ i, i < n → listed.getD i false = true) → wpList P ops Q (ops.toList.drop n) a w) :
    ∀ (k : Nat) (listed : Array Bool) (a : Act) (w : World), unlisted listed = k → HeadInv .any ops n listed → I listed a w → wpAny P .any ops Q k listed a w := by
  intro k
  induction k with
  | zero =>
    intro listed a w hk inv hI
    exfalso
    have h1 := inv.tail n (Nat.le_refl _) hn
    have := unlisted_set h1
    omega
  | succ k ih =>
    intro listed a w hk inv hI
    by_cases hall : ∀ i, i < n → listed.getD i false = true
    · have e := head_all inv (by omega) hall
      have hl : (ops.toList.drop n).length = ops.size - n := by simp
      have hu : unlisted listed = ops.size - n := by
        rw [e]; simp [unlisted, List.count_replicate]
      have hgo := wpAny_of_seq (P := P) (ops := ops) (md := .any) (Q' := Q) (ops.toList.drop n) n listed a w (fun j => by simp) (by rw [hl, e]; exact hseq) (done listed a w hI hall)
      rw [hl, ← hu, hk] at hgo
      exact hgo
    · obtain ⟨i, hi, hne⟩ : ∃ i, i < n ∧ ¬ listed.getD i false = true := by
        refine Classical.byContradiction fun h => hall fun i hi => Classical.byContradiction fun h2 => h ⟨i, hi, h2⟩
      have hun : listed.getD i true = false := by
        have : i < listed.size := by rw [inv.size]; omega
        simp only [Array.getD_eq_getD_getElem?, Array.getElem?_eq_getElem this, Option.getD_some] at hne ⊢
        simpa using hne
      refine ⟨fun h0 => ?_, fun j hj => ?_⟩
      · have := all_here hck inv.size h0 i (by omega)
        exact absurd this hne
      · have hjn : j < n := by
          rcases Nat.lt_or_ge j n with h | h
          · exact h
          · exact absurd hj (tail_waits hs hc hn inv _ i rfl hi hun j h)
        refine wpOp_mono (fun a' w' h => ih _ a' w' ?_ (inv.set hj hjn) h) (step listed a w hI j hj hjn)
        have := unlisted_set (mem_ready.1 hj).1
        omega

/-- THE RULE, where the operations from the n-th on come in the text's order. -/
theorem wp_region_made_tail {P : Program} {Q : Exit → Act → World → Prop} {id : Nat} {a0 : Act} {w0 W : World} {Rs : List Res} (n : Nat) (need uses : Nat → List Nat) (val : (Nat → Nat) → Nat → Value) (R : (Nat → Nat) → Nat → List Res)
    (hm : P.follows .mixedOrders = true) (hc : checkOps ops need uses = true) (hs : Region.sinkB .any ops n = true) (hch : Region.chainB .any ops n = true) (hn : n < ops.size)
    (hseq : Region.seqB .any ops (ops.size - n) n (List.replicate n true ++ List.replicate (ops.size - n) false).toArray = true) (hsz : ∀ i d, i < n → dstOf ops i = some d → d < a0.tmps.size)
    (hval : ∀ i g g', (∀ k ∈ uses i, g k = g' k) → val g i = val g' i ∧ R g i = R g' i) (h0 : Hd W w0 Rs)
    (step : ∀ i o, ops[i]? = some o → i < n → ∀ (a : Act) (w : World) (g : Nat → Nat), (∀ d ∈ need i, ∀ s, dstOf ops d = some s → a.eval (.tmp s) = val g d) → (∀ t : Nat, (∀ i, i < n → dstOf ops i ≠ some t) → a.eval (.tmp t) = a0.eval (.tmp t)) → Below w0.heap.size w0 w →
      ∀ K : Act → World → Prop, (∀ x v w', v = val (upd g i x) i ∨ o.dst = none → Below w.heap.size w w' → (∀ Ss, Hd W w Ss → Hd W w' (R (upd g i x) i ++ Ss)) → K (a.put o.dst v) w') → o.wp P a w K Q)
    (done : ∀ (a : Act) (w : World) (g : Nat → Nat), a.tmps.size = a0.tmps.size → a.defers = a0.defers → (∀ t : Nat, (∀ i, i < n → dstOf ops i ≠ some t) → a.eval (.tmp t) = a0.eval (.tmp t)) → (∀ i d, i < n → dstOf ops i = some d → a.eval (.tmp d) = val g i) → Below w0.heap.size w0 w →
      Hd W w ((List.range n).flatMap (R g) ++ Rs) → wpList P ops Q (ops.toList.drop n) a w) : (Code.region id ops true).wp P Q a0 w0 := by
  refine wp_region_any hm ?_
  have hu : unlisted (Array.replicate ops.size false) = ops.size := by simp [unlisted]
  have hgo := wpAny_inv_tail (P := P) (ops := ops) (Q := Q) (need := need) (uses := uses) (I := fun listed a w => HeadInv .any ops n listed ∧ ∃ g,
      a.tmps.size = a0.tmps.size ∧ a.defers = a0.defers ∧ (∀ t : Nat, (∀ i, i < n → dstOf ops i ≠ some t) → a.eval (.tmp t) = a0.eval (.tmp t)) ∧ (∀ i d, listed.getD i false = true → dstOf ops i = some d → a.eval (.tmp d) = val g i) ∧
      (∀ i, listed.getD i false = true → ∀ k ∈ uses i, listed.getD k false = true) ∧ Below w0.heap.size w0 w ∧ Hd W w (((List.range n).filter fun i => listed.getD i false).flatMap (R g) ++ Rs)) n hc hs hch hn hseq ?_ ?_ ops.size (Array.replicate ops.size false) a0 { w0 with drawn := w0.drawn + 1 } hu ?_ ?_
  · exact hgo
  · rintro listed a w ⟨inv, g, z1, z2, z3, z4, z5, z6, z7⟩ i hi hin
    obtain ⟨hl, o, ho, hall⟩ := mem_ready.1 hi
    have hck := check_at hc ho
    have hlt : i < ops.size := (Array.getElem?_eq_some_iff.1 ho).1
    have hdi : dstOf ops i = o.dst := by simp [dstOf, ho]
    have hli : listed.getD i false = false := getD_both hl
    refine wpOp_plain ho hck.1 ?_
    refine step i o ho hin a w g (fun d hd s hs => z4 d s (ready_need hc hi hd) hs) z3 z6 _ ?_
    intro x v w' hv hb hR
    have huse : ∀ j, listed.getD j false = true → ∀ k ∈ uses j, g k = upd g i x k := fun j hj k hk => by
      have := z5 j hj k hk
      have hne : k ≠ i := fun e => by rw [e, hli] at this; cases this
      simp [upd, hne]
    refine ⟨inv.set hi hin, upd g i x, (put_size _ _ _).trans z1, (put_defers _ _ _).trans z2, fun t ht => ?_, fun j d hj hd => ?_, fun j hj k hk => ?_, z6.trans (hb.mono z6.size), ?_⟩
    · rw [put_ne (by rw [← hdi]; exact ht i hin)]
      exact z3 t ht
    · by_cases e : j = i
      · subst e
        rw [hdi] at hd
        rw [hd, put_same (by rw [z1]; exact hsz j d hin (hdi.trans hd))]
        rcases hv with hv | hv
        · exact hv
        · rw [hv] at hd; cases hd
      · have hlj := (here_set hj).resolve_left e
        have hjs : j < ops.size := by
          rcases Nat.lt_or_ge j ops.size with h | h
          · exact h
          · rw [← inv.size] at h; simp [Array.getElem?_eq_none h] at hlj
        rw [put_ne (fun e2 => e (hck.2.2.2.2.2 j hjs d (hdi.trans e2) hd).symm), z4 j d hlj hd]
        exact (hval j _ _ (huse j hlj)).1
    · rcases here_set hj with rfl | hlj
      · rcases hck.2.2.2.2.1 k hk with rfl | ⟨d, hd, hkd⟩
        · exact hj
        · exact here_mono (z5 d (ready_need hc hi hd) k hkd)
      · exact here_mono (z5 j hlj k hk)
    · have h1 := hR _ z7
      rw [← List.append_assoc] at h1
      refine Hd.perm (List.Perm.append_right _ ?_) h1
      refine perm_insert (R := R g) (R' := R (upd g i x)) (fun j => listed.getD j false) (fun j => (listed.setIfInBounds i true).getD j false) i hli (fun j => ?_) (fun j hj => (hval j _ _ (huse j hj)).2.symm) _ List.nodup_range (List.mem_range.2 hin)
      by_cases e : j = i
      · subst e
        have : j < listed.size := by rw [inv.size]; exact hlt
        simp [this]
      · simp only [Array.getD_eq_getD_getElem?, Array.getElem?_setIfInBounds_ne (Ne.symm e)]
        simp [e]
  · rintro listed a w ⟨inv, g, z1, z2, z3, z4, z5, z6, z7⟩ hall
    refine done a w g z1 z2 z3 (fun i d hi hd => z4 i d (hall i hi) hd) z6 ?_
    rw [List.filter_eq_self.2 (fun i hi => hall i (List.mem_range.1 hi))] at z7
    exact z7
  · exact ⟨by simp, fun j oj _ hl => (by rw [none_here] at hl; cases hl), fun t _ ht => getD_in (by simpa using ht) (none_here _ _)⟩
  · refine ⟨⟨by simp, fun j oj _ hl => (by rw [none_here] at hl; cases hl), fun t _ ht => getD_in (by simpa using ht) (none_here _ _)⟩, fun _ => 0, rfl, rfl, fun _ _ => rfl, fun i d h => ?_, fun i h => ?_, (Below.refl _ _).drew, ?_⟩
    · rw [none_here] at h; cases h
    · rw [none_here] at h; cases h
    · have : ((List.range n).filter fun i => (Array.replicate ops.size false).getD i false) = [] := by
        rw [List.filter_eq_nil_iff]
        intro i _
        rw [none_here]; exact Bool.false_ne_true
      rw [this]
      exact h0.still (Below.refl _ _).drew

end
end Go.Proofs.Ytbaliaodioflfaa
