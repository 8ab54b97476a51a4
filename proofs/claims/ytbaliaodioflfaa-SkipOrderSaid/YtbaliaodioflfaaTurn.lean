/-
  A region that draws its order: operations that keep the world within a class, then one operation for which all of these wait, then operations that wait for it. One walk in the text's order serves every order. For every program, region and memory.
-/
import Derived.Test.YtbaliaodioflfaaHeap
import Derived.StillTail
namespace Go.Proofs.Ytbaliaodioflfaa
open Go.RowKit

section
variable {P : Program} {ops : Array Oper} {md : Region.Mode} {C : World → Prop}

/-- Each operation behind the n-th waits for one from the n-th on. -/
def laterB (md : Region.Mode) (ops : Array Oper) (n : Nat) : Bool :=
  (List.range ops.size).all fun t => decide (t ≤ n) || (List.range t).any fun j => decide (n ≤ j) && Region.waitsFor md ops t j

theorem stays {t j : Nat} {listed : Array Bool} (hw : Region.waitsFor md ops t j = true) (hj : listed.getD j true = false) : t ∉ Region.ready md ops listed := by
  intro hr
  obtain ⟨_, ot, hot, hall⟩ := mem_ready.1 hr
  obtain ⟨o', ho', e, he, hb, hon⟩ := Region.waitsFor_spec hw
  obtain rfl := Option.some.inj (ho'.symm.trans hot)
  have h2 := hall e he hb
  rw [hon, getD_both hj] at h2
  cases h2

theorem sink_stays {n : Nat} {listed : Array Bool} (hs : Region.sinkB md ops n = true) (hn : n < ops.size) (inv : HeadInv md ops n listed) : ∀ (d i : Nat), n ≤ i + d → i < n → listed.getD i true = false → n ∉ Region.ready md ops listed
  | 0, i, hd, hi, _ => by omega
  | d + 1, i, hd, hi, hun => by
    obtain ⟨j, hj, hj2⟩ := List.any_eq_true.1 (List.all_eq_true.1 hs i (List.mem_range.2 hi))
    simp only [Bool.and_eq_true, decide_eq_true_eq] at hj2
    have hjn := List.mem_range.1 hj
    by_cases hjt : j = n
    · subst hjt; exact stays hj2.2 hun
    · cases hl : listed.getD j true with
      | false => exact sink_stays hs hn inv d j (by omega) (by omega) hl
      | true =>
        exfalso
        obtain ⟨oj, hoj, e, he, hb, hon⟩ := Region.waitsFor_spec hj2.2
        have hjs : j < listed.size := by rw [inv.size]; omega
        have hl' : listed.getD j false = true := by simp [hjs] at hl ⊢; exact hl
        have := inv.closed j oj hoj hl' e he hb
        rw [hon, getD_both hun] at this
        cases this

theorem tail_stays {n : Nat} {listed : Array Bool} (hs : Region.sinkB md ops n = true) (hl : laterB md ops n = true) (hn : n < ops.size) (inv : HeadInv md ops n listed) {i : Nat} (hi : i < n) (hun : listed.getD i true = false) {t : Nat} (ht : n ≤ t) :
    t ∉ Region.ready md ops listed := by
  by_cases htn : t = n
  · subst htn; exact sink_stays hs hn inv t i (by omega) hi hun
  · intro hr
    have htl : t < ops.size := by obtain ⟨_, o, ho, _⟩ := mem_ready.1 hr; exact (Array.getElem?_eq_some_iff.1 ho).1
    have h1 := List.all_eq_true.1 hl t (List.mem_range.2 htl)
    simp only [Bool.or_eq_true, decide_eq_true_eq] at h1
    rcases h1 with h1 | h1
    · omega
    · obtain ⟨j, hj, hj2⟩ := List.any_eq_true.1 h1
      simp only [Bool.and_eq_true, decide_eq_true_eq] at hj2
      have := List.mem_range.1 hj
      exact stays hj2.2 (inv.tail j hj2.1 (by omega)) hr

/-- The first n operations in every order; then 'L'. -/
def headQ (P : Program) (md : Region.Mode) (ops : Array Oper) (C : World → Prop) (n : Nat) (L : Array Bool → Act → Prop) : Nat → Array Bool → Act → Prop
  | 0, listed, a => L listed a
  | f + 1, listed, a => Region.ready md ops listed ≠ [] ∧ ∀ i ∈ Region.ready md ops listed, i < n ∧ qOp P ops C i (headQ P md ops C n L f (listed.setIfInBounds i true)) a

theorem headQ_any {n g : Nat} {L : Array Bool → Act → Prop} {Q : Exit → Act → World → Prop} (hL : ∀ listed a w, C w → L listed a → wpAny P md ops Q g listed a w) :
    ∀ (f : Nat) (listed : Array Bool) (a : Act) (w : World), C w → headQ P md ops C n L f listed a → wpAny P md ops Q (f + g) listed a w
  | 0, listed, a, w, hw, h => by rw [Nat.zero_add]; exact hL _ _ _ hw h
  | f + 1, listed, a, w, hw, h => by
    rw [Nat.succ_add]
    exact ⟨fun h0 => absurd h0 h.1, fun i hi => wpOp_of_qOp hw (fun a' w' hw' h' => headQ_any hL f _ a' w' hw' h') (h.2 i hi).2⟩

theorem headQ_first {n i : Nat} {oi : Oper} {v : Value} {L : Array Bool → Act → Prop} (hi : ops[i]? = some oi) (hsel : Region.noSelect ops = true) (hs : Region.sinkB md ops n = true) (hl : laterB md ops n = true) (hn : n < ops.size) (hin : i < n)
    (hL : ∀ listed a, L listed a → ∀ j ∈ Region.ready md ops listed, n ≤ j) :
    ∀ (f : Nat) (listed : Array Bool) (a : Act), HeadInv md ops n listed →
      (∀ j oj, ops[j]? = some oj → j ≠ i → listed.getD j true = false → (∀ e ∈ oj.after, Region.binds md e = true → e.on ≠ i) → oi.apart ops oj = true) →
      i ∈ Region.ready md ops listed → YieldsIn P ops C oi v a →
      headQ P md ops C n L f (listed.setIfInBounds i true) (a.put oi.dst v) → headQ P md ops C n L (f + 1) listed a := by
  intro f
  induction f with
  | zero =>
    intro listed a inv _ hr hy H
    have hun := (mem_ready.1 hr).1
    refine ⟨List.ne_nil_of_mem hr, fun j hj => ?_⟩
    have hjn : j < n := Nat.lt_of_not_le fun h => tail_stays hs hl hn inv hin hun h hj
    by_cases hji : j = i
    · subst hji; exact ⟨hjn, hy.qOp hi H⟩
    · have := hL _ _ H j (ready_mono hj hji); omega
  | succ f ih =>
    intro listed a inv hap hr hy H
    have hun := (mem_ready.1 hr).1
    refine ⟨List.ne_nil_of_mem hr, fun j hj => ?_⟩
    have hjn : j < n := Nat.lt_of_not_le fun h => tail_stays hs hl hn inv hin hun h hj
    refine ⟨hjn, ?_⟩
    by_cases hji : j = i
    · subst hji; exact hy.qOp hi H
    obtain ⟨hjun, oj, hoj, hall⟩ := mem_ready.1 hj
    have hno : ∀ e ∈ oj.after, Region.binds md e = true → e.on ≠ i := fun e he hb heq => by
      have h1 := hall e he hb
      rw [heq, getD_both hun] at h1
      cases h1
    have h2 := qOp_put hoj (hap j oj hoj hji hjun hno) (fun cs b => Region.noSelect_spec hsel i oi cs b hi) (fun cs b => Region.noSelect_spec hsel j oj cs b hoj) hy (H.2 j (ready_mono hj hji)).2
    refine qOp_mono (fun a' h3 => ih (listed.setIfInBounds j true) a' (inv.set hj hjn) (fun k ok hk hki hkun hkno => hap k ok hk hki ?_ hkno) (ready_mono hr (Ne.symm hji)) h3.1 ?_) h2
    · by_cases hjk : j = k
      · subst hjk; exact hjun
      · rwa [getD_set_ne true hjk] at hkun
    · rw [Array.setIfInBounds_comm _ _ hji]
      exact h3.2

/-- In the text's order each of the first n can come up; then the n-th alone; then the others in the text's order. -/
def turnLex (md : Region.Mode) (ops : Array Oper) : Nat → Nat → Array Bool → Bool
  | 0, k, listed => decide (Region.ready md ops listed = [k]) && Region.lexFrom md ops (ops.size - (k + 1)) (k + 1) (listed.setIfInBounds k true)
  | f + 1, k, listed => (Region.ready md ops listed).contains k && Region.free md ops listed k && turnLex md ops f (k + 1) (listed.setIfInBounds k true)

def turnB (md : Region.Mode) (ops : Array Oper) (n : Nat) : Bool :=
  Region.noSelect ops && decide (n < ops.size) && Region.sinkB md ops n && laterB md ops n && turnLex md ops n 0 (Array.replicate ops.size false)

theorem headQ_lex {n : Nat} {R : Act → Prop} (hsel : Region.noSelect ops = true) (hs : Region.sinkB md ops n = true) (hl : laterB md ops n = true) (hn : n < ops.size) :
    ∀ (l : List Oper) (k : Nat) (listed : Array Bool) (a : Act), (∀ j, j < l.length → l[j]? = ops[k + j]?) → k + l.length = n → HeadInv md ops n listed → turnLex md ops l.length k listed = true → wpQuiet P ops C R l a →
      headQ P md ops C n (fun listed' a' => Region.ready md ops listed' = [n] ∧ Region.lexFrom md ops (ops.size - (n + 1)) (n + 1) (listed'.setIfInBounds n true) = true ∧ R a') l.length listed a
  | [], k, listed, a, _, hk, _, hB, h => by
    obtain rfl : k = n := by simpa using hk
    simp only [List.length_nil, turnLex, Bool.and_eq_true, decide_eq_true_eq] at hB
    exact ⟨hB.1, hB.2, h⟩
  | o :: l, k, listed, a, hops, hk, inv, hB, h => by
    have h0 : ops[k]? = some o := by simpa using (hops 0 (by simp)).symm
    simp only [List.length_cons, turnLex, Bool.and_eq_true] at hB
    obtain ⟨⟨hr, hf⟩, hB'⟩ := hB
    have hkn : k < n := by simp only [List.length_cons] at hk; omega
    have hr' : k ∈ Region.ready md ops listed := by simpa using hr
    have hq : qOp P ops C k (wpQuiet P ops C R l) a := by unfold qOp; simp only [h0]; exact h
    obtain ⟨v, hy, hK⟩ := yieldsIn_of_qOp h0 hq
    exact headQ_first h0 hsel hs hl hn hkn (fun listed' a' hL j hj => by rw [hL.1] at hj; have := List.mem_singleton.1 hj; omega) l.length listed a inv (Region.free_spec h0 hf) hr' hy
      (headQ_lex hsel hs hl hn l (k + 1) _ _ (fun j hj => by have := hops (j + 1) (by simp; omega); simpa [Nat.add_assoc, Nat.add_comm 1 j] using this) (by simp only [List.length_cons] at hk; omega) (inv.set hr' hkn) hB' hK)

theorem wp_turn_exit {o : Oper} {a : Act} {w : World} {R : Act → World → Prop} {Q : Exit → Act → World → Prop}
    (h : o.wp P a w (fun a' w' => R a' w') (fun e a' w' => e = .normal ∧ R a' w')) : o.wp P a w R Q := by
  unfold Oper.wp at *
  generalize (execOp a.eval o).run P w = r at *
  cases r with
  | ok n w' =>
    cases n <;> simp only [Oper.upon] at h ⊢ <;> first | exact h | skip
    case enter f args =>
      refine Calls.mono h fun e w'' he => ?_
      cases e with
      | returned v => exact he
      | panicked c => exact absurd he.1 (by simp)
      | outgrown => obtain ⟨_, _, he, _⟩ := he; exact absurd he (by simp)
  | halt x w' =>
    cases x <;> simp only [Oper.upon] at h ⊢
    case panic v => exact absurd h.1 (by simp)

/-- THE RULE. -/
theorem wp_region_turn {id : Nat} {Q : Exit → Act → World → Prop} {a : Act} {w : World} {l : List Oper} (n : Nat) (o : Oper) (hm : P.follows .mixedOrders = true) (hB : turnB .any l.toArray n = true) (ho : l[n]? = some o) (hg : o.guard = none) (hC : C { w with drawn := w.drawn + 1 })
    (h : wpQuiet P l.toArray C (fun a1 => ∀ w1, C w1 → ∀ K : Exit → Act → World → Prop,
        (∀ a2 w2, (∃ D : World → Prop, D w2 ∧ wpQuiet P l.toArray D (fun a3 => ∀ w3, D w3 → Q .normal a3 w3) (l.drop (n + 1)) a2) → K .normal a2 w2) → wpList P l.toArray K [o] a1 w1) (l.take n) a) :
    (Code.region id l.toArray true).wp P Q a w := by
  simp only [turnB, Bool.and_eq_true, decide_eq_true_eq] at hB
  obtain ⟨⟨⟨⟨hsel, hn⟩, hs⟩, hl⟩, hlex⟩ := hB
  have hn' : n < l.length := by simpa using hn
  have htl : (l.take n).length = n := by simp; omega
  have hsz : l.toArray.size - (n + 1) = (l.drop (n + 1)).length := by simp
  have inv0 : HeadInv .any l.toArray n (Array.replicate l.toArray.size false) :=
    ⟨by simp, fun j oj _ hl => (by rw [getD_replicate_false] at hl; cases hl), fun t _ ht => getD_in (by simpa using ht) (getD_replicate_false _ _)⟩
  have ho' : l.toArray[n]? = some o := by simpa using ho
  have H := headQ_lex (P := P) (C := C) (md := .any) (n := n) hsel hs hl hn (l.take n) 0 _ a (fun j hj => by
    have hj' : j < n := by rw [htl] at hj; exact hj
    simp [hj']) (by simpa using htl) inv0 (by rw [htl]; exact hlex) h
  refine wp_region_any hm ?_
  have := headQ_any (Q := Q) (g := (l.drop (n + 1)).length + 1) (fun listed a1 w1 hw1 hL => ?_) _ _ _ _ hC H
  · rw [htl, show n + ((l.drop (n + 1)).length + 1) = l.toArray.size by simp; omega] at this
    exact this
  · obtain ⟨hr, hx, hR⟩ := hL
    refine ⟨fun h0 => (by rw [hr] at h0; cases h0), fun i hi => ?_⟩
    rw [hr] at hi
    obtain rfl := List.mem_singleton.1 hi
    have hk := hR w1 hw1 (fun e a2 w2 => e = .normal ∧ (∃ D : World → Prop, D w2 ∧ wpQuiet P l.toArray D (fun a3 => ∀ w3, D w3 → Q .normal a3 w3) (l.drop (i + 1)) a2)) (fun a2 w2 h2 => ⟨rfl, h2⟩)
    have hwant : Region.wanted o (yielded l.toArray a1.tmps) = true := by simp [Region.wanted, hg]
    simp only [wpList, hwant, if_true] at hk
    unfold wpOp
    simp only [ho', hwant, if_true]
    rcases hk with hk | ⟨_, _, _, hk⟩
    · left
      refine Oper.wp_mono (fun a2 w2 h2 => ?_) (wp_turn_exit (Q := Q) (Oper.wp_mono (fun a2 w2 h2 => h2.2) hk))
      obtain ⟨D, hD, h3⟩ := h2
      refine wpAny_of_quiet (C := D) (Q := fun a3 => ∀ w3, D w3 → Q .normal a3 w3) (fun _ w3 hw3 h4 => h4 w3 hw3) _ _ _ _ hD ?_
      exact wpAnyQ_lex (C := D) (md := .any) hsel (l.drop (i + 1)) (i + 1) _ a2 (fun j => by simp [List.getElem?_drop]) (by rw [← hsz]; exact hx) h3
    · exact absurd hk.1 (by simp)
end
end Go.Proofs.Ytbaliaodioflfaa
