/-
  Things in memory, taken out of a list by their place. For every call.
-/
import Derived.Test.YtpcfmafokkffgaaHd2
import Derived.Test.YtpcfmafokkffgaaMade
namespace Go.Proofs.Ytpcfmafokkffgaa
open Go.RowKit

theorem Hd.nthk {W w : World} {k : Nat} {o : Obj} : ∀ (i : Nat) {Rs : List Res}, Hd W w Rs → Rs[i]? = some (Blk k o) → w.heap[k]? = some o
  | 0, A :: Rs, h, e => by
    simp only [List.getElem?_cons_zero, Option.some.injEq] at e
    subst e
    exact h.blk
  | i + 1, A :: Rs, h, e => Hd.nthk i h.drop (by simpa using e)
  | _, [], _, e => by simp at e
theorem perm_front {R : Res} : ∀ (l : List Res) (i : Nat), l[i]? = some R → l.Perm (R :: l.eraseIdx i)
  | [], i, h => by simp at h
  | x :: l, 0, h => by
    simp only [List.getElem?_cons_zero, Option.some.injEq] at h
    subst h
    exact List.Perm.refl _
  | x :: l, i + 1, h => ((perm_front l i (by simpa using h)).cons x).trans (List.Perm.swap _ _ _)
theorem Hd.front {W w : World} {Rs : List Res} {R : Res} (i : Nat) (h : Hd W w Rs) (e : Rs[i]? = some R) : Hd W w (R :: Rs.eraseIdx i) := Hd.perm (perm_front Rs i e) h
theorem Hd.back {W w : World} {Rs : List Res} {R : Res} (i : Nat) (h : Hd W w (R :: Rs)) {Ss : List Res} (e : R :: Ss.eraseIdx i = R :: Rs) (hi : Ss[i]? = some R := by rfl) : Hd W w Ss := by
  rw [← e] at h
  exact Hd.perm (perm_front Ss i hi).symm h
theorem Hd.dropEnd {W w : World} {Rs Ss : List Res} (h : Hd W w (Rs ++ Ss)) : Hd W w Rs := by
  have key : ∀ (Rs : List Res) (u : Nat → Prop), Lies w u (Rs ++ Ss) → Lies w u Rs := by
    intro Rs
    induction Rs with
    | nil => exact fun _ _ => trivial
    | cons x Rs ih => exact fun u h => Lies.cons_mono (fun v => ih v) h
  exact ⟨h.below, key Rs _ h.lies⟩
theorem blks_ne {W w : World} {Rs : List Res} {a b : Nat} {o p : Obj} (h : Hd W w (Blk a o :: Blk b p :: Rs)) : ¬ a = b := by
  intro e
  subst e
  obtain ⟨_, f, hf, _, _, g, hg, _, hd, _⟩ := h
  have hf' : f = fun j => if j = a then some o else none := hf
  have hg' : g = fun j => if j = a then some p else none := hg
  subst hf' hg'
  exact hd a (by simp) (.inr (by simp))
theorem Hd.boxk {W w : World} {Rs : List Res} {o : Obj} (k : Nat) (hk : w.heap.size = k) (h : Hd W w Rs) : Hd W (w.alloc o) (Blk k o :: Rs) := by subst hk; exact h.box o
theorem Hd.imp {W w : World} {A B : Res} {Rs : List Res} (h : ∀ f, A f → B f) (k : Hd W w (A :: Rs)) : Hd W w (B :: Rs) := by
  obtain ⟨hb, f, hA, hr⟩ := k
  exact ⟨hb, f, h f hA, hr⟩
theorem evc (a : Act) (c : Value) : a.eval (.const c) = c := rfl
end Go.Proofs.Ytpcfmafokkffgaa
