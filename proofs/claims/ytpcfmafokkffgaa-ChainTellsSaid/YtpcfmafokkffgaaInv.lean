/-
  A region that draws its order, by what holds on the way: whatever has been carried out so far, what is next keeps it. For every program, region and memory.
-/
import Derived.Test.YtpcfmafokkffgaaHeap
namespace Go.Proofs.Ytpcfmafokkffgaa
open Go.RowKit

section
variable {P : Program} {ops : Array Oper} {Q : Exit → Act → World → Prop}

def unlisted (listed : Array Bool) : Nat := listed.toList.count false

theorem unlisted_set {listed : Array Bool} {i : Nat} (h : listed.getD i true = false) : unlisted (listed.setIfInBounds i true) + 1 = unlisted listed := by
  obtain ⟨l⟩ := listed
  have hi : l[i]? = some false := by
    have h' : (l[i]?).getD true = false := by simpa using h
    cases hl : l[i]? with
    | none => rw [hl] at h'; cases h'
    | some x => rw [hl] at h'; simp only [Option.getD_some] at h'; rw [h']
  have key : ∀ (l : List Bool) (i : Nat), l[i]? = some false → (l.set i true).count false + 1 = l.count false := by
    intro l
    induction l with
    | nil => intro i h; simp at h
    | cons x l ih =>
      intro i h
      cases i with
      | zero =>
        simp only [List.getElem?_cons_zero, Option.some.injEq] at h
        subst h
        simp
      | succ i =>
        simp only [List.getElem?_cons_succ] at h
        have := ih i h
        simp only [List.set_cons_succ, List.count_cons]
        omega
  simpa [unlisted] using key l i hi

theorem wpAny_inv {I : Array Bool → Act → World → Prop} (step : ∀ listed a w, I listed a w → ∀ i, i ∈ Region.ready .any ops listed → wpOp P ops Q i (fun a' w' => I (listed.setIfInBounds i true) a' w') a w)
    (done : ∀ listed a w, I listed a w → Region.ready .any ops listed = [] → Q .normal a w) : ∀ (fuel : Nat) (listed : Array Bool) (a : Act) (w : World), unlisted listed ≤ fuel → I listed a w → wpAny P .any ops Q fuel listed a w
  | 0, listed, a, w, hf, hI => by
    have hr : Region.ready .any ops listed = [] := by
      cases hr : Region.ready .any ops listed with
      | nil => rfl
      | cons i rs =>
        have h1 := (mem_ready.1 (by rw [hr]; exact List.mem_cons_self : i ∈ Region.ready .any ops listed)).1
        have := unlisted_set h1
        omega
    exact ⟨hr, done listed a w hI hr⟩
  | fuel + 1, listed, a, w, hf, hI => by
    refine ⟨done listed a w hI, fun i hi => ?_⟩
    have h1 := (mem_ready.1 hi).1
    have h2 := unlisted_set h1
    exact wpOp_mono (fun a' w' h => wpAny_inv step done fuel _ a' w' (by omega) h) (step listed a w hI i hi)

/-- THE RULE: 'I': what holds of the operations that have come up, the frame and the world (its first argument is the frame at the region's beginning). -/
theorem wp_region_inv {id : Nat} {a : Act} {w : World} (I : Act → Array Bool → Act → World → Prop) (hm : P.follows .mixedOrders = true) (h0 : I a (Array.replicate ops.size false) a w.drew)
    (step : ∀ listed a' w', I a listed a' w' → ∀ i, i ∈ Region.ready .any ops listed → wpOp P ops Q i (fun a'' w'' => I a (listed.setIfInBounds i true) a'' w'') a' w')
    (done : ∀ listed a' w', I a listed a' w' → Region.ready .any ops listed = [] → Q .normal a' w') : (Code.region id ops true).wp P Q a w :=
  wp_region_any hm (wpAny_inv step done _ _ _ _ (by simp [unlisted]) h0)

/-- An operation without a guard. -/
theorem wpOp_plain {i : Nat} {o : Oper} {K : Act → World → Prop} {a : Act} {w : World} (ho : ops[i]? = some o) (hg : o.guard = none) (h : o.wp P a w K Q) : wpOp P ops Q i K a w := by
  unfold wpOp
  rw [ho]
  simp only [Region.wanted, hg, if_true]
  exact .inl h
end
end Go.Proofs.Ytpcfmafokkffgaa
