/-
  What a chain tells, plainly: a step of what is there already. For every store and every chain.
-/
import Derived.Test.YtpcfmafokkffgaaChainP
namespace Go.Proofs.Ytpcfmafokkffgaa
open Go.RowKit

theorem put_at {m i : Int} {L : List T} {t : T} (g : Good L) (hr : (L.length : Int) < m) (h : put m L t = (i, 0, L)) : At L i t := by
  by_cases hm : t.may L.length
  · obtain ⟨j, L', e, ha, _⟩ := put_ok g hm hr
    rw [h] at e
    simp only [Prod.mk.injEq, true_and] at e
    obtain ⟨rfl, rfl⟩ := e
    exact ha
  · unfold put at h
    rw [if_neg hm] at h
    simp at h
theorem steps15_step {m : Int} {n : Nat} {L : List T} {k e : Int} {ks : List Int} {ke : Int × Int} (h : steps15 m (n + 1) L k e = (ks, ke, 0, L)) :
    ∃ z zs d, ks = z :: zs ∧ put m L (keyT k 1) = (z, 0, L) ∧ next15 m L k e = ((d, e + 1), 0, L) ∧ put m L (keyT k 2) = (d, 0, L) ∧ steps15 m n L d (e + 1) = (zs, ke, 0, L) := by
  rw [steps15_succ] at h
  split at h
  · rename_i h0
    split at h
    · rename_i h1
      have hpre := steps15_pre m n (next15 m (put m L (keyT k 1)).2.2 k e).2.2 (next15 m (put m L (keyT k 1)).2.2 k e).1.1 (next15 m (put m L (keyT k 1)).2.2 k e).1.2
      obtain ⟨r, hr⟩ : ∃ r, steps15 m n (next15 m (put m L (keyT k 1)).2.2 k e).2.2 (next15 m (put m L (keyT k 1)).2.2 k e).1.1 (next15 m (put m L (keyT k 1)).2.2 k e).1.2 = r := ⟨_, rfl⟩
      rw [hr] at h hpre
      obtain ⟨rk, rl, re, rL⟩ := r
      simp only [Prod.mk.injEq] at h
      obtain ⟨rfl, rfl, rfl, rfl⟩ := h
      dsimp only at hpre
      have p1 := put_pre m rL (keyT k 1)
      have p2 := next15_pre m (put m rL (keyT k 1)).2.2 k e
      have e1 : rL = (put m rL (keyT k 1)).2.2 := p1.eq_of_length_le (p2.trans hpre).length_le
      have e2 : (put m rL (keyT k 1)).2.2 = (next15 m (put m rL (keyT k 1)).2.2 k e).2.2 := p2.eq_of_length_le (by have := hpre.length_le; have := p1.length_le; omega)
      rw [← e1] at e2 h1 hr
      rw [← e2] at hr
      have hq : put m rL (keyT k 1) = ((put m rL (keyT k 1)).1, 0, rL) := by
        rw [← h0]
        conv => lhs; rw [show put m rL (keyT k 1) = ((put m rL (keyT k 1)).1, (put m rL (keyT k 1)).2.1, (put m rL (keyT k 1)).2.2) from rfl, ← e1]
      have hn : next15 m rL k e = ((next15 m rL k e).1, 0, rL) := by
        rw [← h1]
        conv => lhs; rw [show next15 m rL k e = ((next15 m rL k e).1, (next15 m rL k e).2.1, (next15 m rL k e).2.2) from rfl, ← e2]
      obtain ⟨d, hd, hp⟩ : ∃ d, next15 m rL k e = ((d, e + 1), 0, rL) ∧ put m rL (keyT k 2) = (d, 0, rL) := by
        have hn2 := hn
        unfold next15 at hn2
        split at hn2
        · simp at hn2
        · rename_i he
          split at hn2
          · rename_i h2
            simp only [Prod.mk.injEq, true_and] at hn2
            refine ⟨(put m rL (keyT k 2)).1, ?_, ?_⟩
            · unfold next15
              rw [if_neg he, if_pos h2, hn2]
            · conv => lhs; rw [show put m rL (keyT k 2) = ((put m rL (keyT k 2)).1, (put m rL (keyT k 2)).2.1, (put m rL (keyT k 2)).2.2) from rfl, h2, hn2]
          · rename_i h2
            simp only [Prod.mk.injEq] at hn2
            exact absurd hn2.2.1 h2
      rw [hd] at hr
      exact ⟨_, _, d, rfl, hq, hd, hp, hr⟩
    · rename_i h1
      simp only [Prod.mk.injEq] at h
      exact absurd h.2.2.1 h1
  · rename_i h0
    simp only [Prod.mk.injEq] at h
    exact absurd h.2.2.1 h0
/-- A step's names are new. -/
theorem step_new {m k z d : Int} {L : List T} {prev : List Int} (g : Good L) (hr : (L.length : Int) < m) (hz : put m L (keyT k 1) = (z, 0, L)) (hd : put m L (keyT k 2) = (d, 0, L)) (hp : ∀ y ∈ prev, ∃ k', k' < k ∧ At L y (keyT k' 1)) :
    d ≠ z ∧ k < d ∧ (∀ y ∈ prev, y ≠ z) ∧ ∀ y ∈ prev ++ [z], ∃ k', k' < d ∧ At L y (keyT k' 1) := by
  have az := put_at g hr hz
  have aD := put_at g hr hd
  have hkd : k < d := (aD.part g (p := k) (by simp [keyT, T.parts, many])).2
  refine ⟨fun e => ?_, hkd, fun y hy e => ?_, fun y hy => ?_⟩
  · subst e
    have := aD.same az
    simp [keyT] at this
  · subst e
    obtain ⟨k', hk, ha⟩ := hp y hy
    have := ha.same az
    simp only [keyT, T.mk.injEq] at this
    omega
  · rcases List.mem_append.1 hy with h | h
    · obtain ⟨k', hk, ha⟩ := hp y h
      exact ⟨k', by omega, ha⟩
    · simp only [List.mem_singleton] at h
      subst h
      exact ⟨k, hkd, az⟩
end Go.Proofs.Ytpcfmafokkffgaa
