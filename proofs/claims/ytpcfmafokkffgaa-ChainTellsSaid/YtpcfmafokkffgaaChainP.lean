/-
  What a chain tells, plainly: it stays when more is put. For every store and every chain.
-/
import Derived.Test.YtpcfmafokkffgaaChainE
namespace Go.Proofs.Ytpcfmafokkffgaa
open Go.RowKit

theorem find_app {t : T} : ∀ {L : List T} {M : List T} {i : Nat}, find t L = some i → find t (L ++ M) = some i
  | [], _, _, h => by simp [find] at h
  | u :: L, M, i, h => by
    simp only [find, List.cons_append] at h ⊢
    split at h
    · rename_i e; rw [if_pos e]; exact h
    · rename_i e
      rw [if_neg e]
      cases hf : find t L with
      | none => rw [hf] at h; simp at h
      | some j => rw [hf] at h; rw [find_app hf]; exact h
theorem find_next {t : T} : ∀ {L : List T} {M : List T}, find t L = none → find t (L ++ t :: M) = some L.length
  | [], _, _ => by simp [find]
  | u :: L, M, h => by
    simp only [find, List.cons_append] at h ⊢
    split at h
    · cases h
    · rename_i e
      rw [if_neg e]
      cases hf : find t L with
      | some j => rw [hf] at h; simp at h
      | none => rw [find_next hf]; simp
theorem may_mono {t : T} {a b : Int} (h : t.may a) (hab : a ≤ b) : t.may b :=
  ⟨h.1, h.2.1, h.2.2.1, h.2.2.2.1, h.2.2.2.2.1, fun p hp => ⟨(h.2.2.2.2.2 p hp).1, by have := (h.2.2.2.2.2 p hp).2; omega⟩⟩
theorem put_pre (m : Int) (L : List T) (t : T) : L <+: (put m L t).2.2 := by
  unfold put
  split
  · split
    · exact List.prefix_refl _
    · split
      · exact List.prefix_refl _
      · exact List.prefix_append _ _
  · exact List.prefix_refl _
theorem put_stays {m i : Int} {L L1 L2 : List T} {t : T} (h : put m L t = (i, 0, L1)) (hp : L1 <+: L2) : put m L2 t = (i, 0, L2) := by
  unfold put at h
  split at h
  · rename_i hm
    split at h
    · rename_i j hf
      simp only [Prod.mk.injEq, true_and] at h
      obtain ⟨rfl, rfl⟩ := h
      obtain ⟨M, rfl⟩ := hp
      unfold put
      rw [if_pos (may_mono hm (by simp; omega)), find_app hf]
    · rename_i hf
      split at h
      · simp at h
      · simp only [Prod.mk.injEq, true_and] at h
        obtain ⟨rfl, rfl⟩ := h
        obtain ⟨M, rfl⟩ := hp
        unfold put
        rw [if_pos (may_mono hm (by simp; omega)), List.append_assoc, List.singleton_append, find_next hf]
  · simp at h
theorem next15_pre (m : Int) (L : List T) (k e : Int) : L <+: (next15 m L k e).2.2 := by
  unfold next15
  split
  · exact List.prefix_refl _
  · split <;> exact put_pre _ _ _
theorem next15_stays {m k e : Int} {L L1 L2 : List T} {d : Int × Int} (h : next15 m L k e = (d, 0, L1)) (hp : L1 <+: L2) : next15 m L2 k e = (d, 0, L2) := by
  unfold next15 at h
  split at h
  · simp at h
  · rename_i he
    split at h
    · rename_i h0
      simp only [Prod.mk.injEq, true_and] at h
      obtain ⟨rfl, rfl⟩ := h
      have hq : put m L (keyT k 2) = ((put m L (keyT k 2)).1, 0, (put m L (keyT k 2)).2.2) := by rw [← h0]
      have := put_stays hq hp
      unfold next15
      rw [if_neg he, this]
      simp
    · rename_i h0
      simp only [Prod.mk.injEq] at h
      exact absurd h.2.1 h0
theorem steps15_pre (m : Int) : ∀ (n : Nat) (L : List T) (k e : Int), L <+: (steps15 m n L k e).2.2.2
  | 0, L, k, e => List.prefix_refl _
  | n + 1, L, k, e => by
    rw [steps15_succ]
    split
    · split
      · exact ((put_pre m L (keyT k 1)).trans (next15_pre m _ k e)).trans (steps15_pre m n _ _ _)
      · exact (put_pre m L (keyT k 1)).trans (next15_pre m _ k e)
    · exact put_pre _ _ _
theorem steps15_stays (m : Int) : ∀ (n : Nat) {L L1 L2 : List T} {k e : Int} {ks : List Int} {ke : Int × Int}, steps15 m n L k e = (ks, ke, 0, L1) → L1 <+: L2 → steps15 m n L2 k e = (ks, ke, 0, L2)
  | 0, L, L1, L2, k, e, ks, ke, h, hp => by
    simp only [steps15, Prod.mk.injEq] at h
    obtain ⟨rfl, rfl, _, rfl⟩ := h
    rfl
  | n + 1, L, L1, L2, k, e, ks, ke, h, hp => by
    rw [steps15_succ] at h
    split at h
    · rename_i h0
      split at h
      · rename_i h1
        have hpre := steps15_pre m n (next15 m (put m L (keyT k 1)).2.2 k e).2.2 (next15 m (put m L (keyT k 1)).2.2 k e).1.1 (next15 m (put m L (keyT k 1)).2.2 k e).1.2
        obtain ⟨r, hr⟩ : ∃ r, steps15 m n (next15 m (put m L (keyT k 1)).2.2 k e).2.2 (next15 m (put m L (keyT k 1)).2.2 k e).1.1 (next15 m (put m L (keyT k 1)).2.2 k e).1.2 = r := ⟨_, rfl⟩
        rw [hr] at h hpre
        obtain ⟨rk, rl, re, rL⟩ := r
        simp only [Prod.mk.injEq] at h
        obtain ⟨rfl, rfl, rfl, rfl⟩ := h
        dsimp only at hpre
        have hq : put m L (keyT k 1) = ((put m L (keyT k 1)).1, 0, (put m L (keyT k 1)).2.2) := by rw [← h0]
        have hn : next15 m (put m L (keyT k 1)).2.2 k e = ((next15 m (put m L (keyT k 1)).2.2 k e).1, 0, (next15 m (put m L (keyT k 1)).2.2 k e).2.2) := by rw [← h1]
        have e1 := put_stays hq (((next15_pre m _ k e).trans hpre).trans hp)
        have e2 := next15_stays hn (hpre.trans hp)
        have e3 := steps15_stays m n hr hp
        rw [steps15_succ, e1]
        dsimp only
        rw [if_pos rfl, e2]
        dsimp only
        rw [if_pos rfl, e3]
      · rename_i h1
        simp only [Prod.mk.injEq] at h
        exact absurd h.2.2.1 h1
    · rename_i h0
      simp only [Prod.mk.injEq] at h
      exact absurd h.2.2.1 h0
theorem put_ok15 {m : Int} {L : List T} {t : T} (hm : t.may L.length) (hl : (L.length : Int) < m) : ∃ i, put m L t = (i, 0, (put m L t).2.2) ∧ 1 ≤ i ∧ i ≤ ((put m L t).2.2.length : Int) ∧ (put m L t).2.2.length ≤ L.length + 1 := by
  unfold put
  rw [if_pos hm]
  cases hf : find t L with
  | some j =>
    have hj : j < L.length := (List.getElem?_eq_some_iff.1 (find_some hf)).1
    exact ⟨(j : Int) + 1, rfl, by omega, by dsimp only; omega, by dsimp only; omega⟩
  | none =>
    dsimp only
    rw [if_neg (by omega)]
    exact ⟨(L.length : Int) + 1, rfl, by omega, by simp, by simp⟩
theorem steps15_ok (m : Int) : ∀ (n : Nat) (L : List T) (k e : Int), 1 ≤ k → k ≤ L.length → 0 ≤ e → e + n ≤ 1000 → (L.length : Int) + 2 * n ≤ m →
    ∃ ks dk L', steps15 m n L k e = (ks, (dk, e + n), 0, L') ∧ ks.length = n ∧ (L'.length : Int) ≤ L.length + 2 * n
  | 0, L, k, e, _, _, _, _, _ => ⟨[], k, L, by simp [steps15], rfl, by omega⟩
  | n + 1, L, k, e, hk, hkl, he, hen, hm => by
    obtain ⟨i, h1, h1a, h1b, h1c⟩ := put_ok15 (m := m) (L := L) (t := keyT k 1) (may_key.2 ⟨hk, hkl⟩) (by omega)
    obtain ⟨L1, hL1⟩ : ∃ L1, (put m L (keyT k 1)).2.2 = L1 := ⟨_, rfl⟩
    have hpre := put_pre m L (keyT k 1)
    rw [hL1] at h1 h1b h1c hpre
    have hle := hpre.length_le
    obtain ⟨i2, h2, h2a, h2b, h2c⟩ := put_ok15 (m := m) (L := L1) (t := keyT k 2) (may_key.2 ⟨hk, by omega⟩) (by omega)
    obtain ⟨L2, hL2⟩ : ∃ L2, (put m L1 (keyT k 2)).2.2 = L2 := ⟨_, rfl⟩
    rw [hL2] at h2 h2b h2c
    obtain ⟨ks, dk, L3, h3, h3a, h3b⟩ := steps15_ok m n L2 i2 (e + 1) h2a h2b (by omega) (by omega) (by omega)
    refine ⟨i :: ks, dk, L3, ?_, by simp [h3a], by omega⟩
    have hn : next15 m L1 k e = ((i2, e + 1), 0, L2) := by
      unfold next15
      rw [if_neg (by omega), h2]
      rfl
    rw [steps15_succ, h1]
    dsimp only
    rw [if_pos rfl, hn]
    dsimp only
    rw [if_pos rfl, h3, show e + 1 + (n : Int) = e + ((n + 1 : Nat) : Int) by omega]
theorem to15_at {m : Int} {L : List T} {k e : Int} {N : Nat} (hN : N ≤ 4) {ks : List Int} {ke : Int × Int} {L' : List T} (h : steps15 m N L k e = (ks, ke, 0, L')) : to15 m L k e (e + N) = (ke, ks, 0, L') := by
  unfold to15
  rw [if_neg (by omega), if_neg (by omega), show (e + (N : Int) - e).toNat = N by omega, h]
  rfl

def sl1 : List T := (put 200 [] ⟨2, ⟨#[]⟩, 9, 0, 0, 0⟩).2.2
theorem stays15 (x0 : Int) (N : Nat) (h0 : 0 ≤ x0) (h1 : x0 ≤ 900) (hN : N ≤ 4) : ∃ dk ks L3 i L4, to15 200 sl1 1 x0 (x0 + N) = ((dk, x0 + N), ks, 0, L3) ∧ ks.length = N ∧ put 200 L3 (keyT 1 1) = (i, 0, L4) ∧
    ∀ L5, L4 <+: L5 → to15 200 L5 1 x0 (x0 + N) = ((dk, x0 + N), ks, 0, L5) ∧ put 200 L5 (keyT 1 1) = (i, 0, L5) := by
  have hl : sl1.length = 1 := by decide +kernel
  obtain ⟨ks, dk, L3, h2, h3, h4⟩ := steps15_ok 200 N sl1 1 x0 (by omega) (by omega) h0 (by omega) (by omega)
  have hp := steps15_pre 200 N sl1 1 x0
  rw [h2] at hp
  dsimp only at hp
  have hle := hp.length_le
  obtain ⟨i, h5, _⟩ := put_ok15 (m := 200) (L := L3) (t := keyT 1 1) (may_key.2 ⟨by omega, by omega⟩) (by omega)
  exact ⟨dk, ks, L3, i, _, to15_at hN h2, h3, h5, fun L5 h6 => ⟨to15_at hN (steps15_stays 200 N h2 ((put_pre _ _ _).trans h6)), put_stays h5 h6⟩⟩
end Go.Proofs.Ytpcfmafokkffgaa
