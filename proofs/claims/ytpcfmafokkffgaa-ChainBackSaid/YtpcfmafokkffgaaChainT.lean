/-
  What one can make who knows a chain, plainly: all later ones, and none that was. For every chain that begins with a Nonce.
-/
import Derived.Test.YtpcfmafokkffgaaChainR
import Derived.Test.YtpcfmafokkffgaaKnowU
namespace Go.Proofs.Ytpcfmafokkffgaa
open Go.RowKit

/-- A chain, i steps behind its Nonce: the chains' keys, and the epochs' keys, so far; and nothing else is in the store. -/
structure BackSt (L : List T) (i : Nat) (c : Int) (chains keys : List Int) : Prop where
  good : Good L
  lc : chains.length = i
  lk : keys.length = i
  lv : ∀ (j : Nat) (x : Int), (chains ++ [c])[j]? = some x → Lv L j x
  nx : ∀ (j : Nat) (x y : Int), (chains ++ [c])[j]? = some x → (chains ++ [c])[j + 1]? = some y → At L y (keyT x 2)
  ky : ∀ (j : Nat) (x z : Int), chains[j]? = some x → keys[j]? = some z → At L z (keyT x 1)
  all : ∀ (x : Int) (t : T), At L x t → (∃ n, t = nonT n) ∨ (∃ q l j, t = keyT q l ∧ Lv L j q ∧ (l = 1 ∨ l = 2))

theorem at_put {m : Int} {L L' : List T} {t : T} {a : Int} (h : put m L t = (a, 0, L')) (ha : At L' a t) : ∀ (x : Int) (u : T), At L' x u → At L x u ∨ u = t := by
  intro x u hx
  have hp := put_ext m L t
  rw [h] at hp
  unfold put at h
  split at h
  · split at h
    · simp only [Prod.mk.injEq, true_and] at h
      obtain ⟨_, rfl⟩ := h
      exact .inl hx
    · split at h
      · simp at h
      · simp only [Prod.mk.injEq, true_and] at h
        obtain ⟨_, rfl⟩ := h
        by_cases hl : x ≤ L.length
        · refine .inl ⟨hx.lo, hl, ?_⟩
          have := hx.is
          rwa [List.getElem?_append_left (by have := hx.lo; omega)] at this
        · have h1 := hx.hi
          simp only [List.length_append, List.length_cons, List.length_nil] at h1
          have := hx.is
          rw [List.getElem?_append_right (by omega), show (x - 1).toNat - L.length = 0 by omega] at this
          simp only [List.getElem?_cons_zero, Option.some.injEq] at this
          exact .inr this.symm
  · simp at h

theorem back_start {m : Int} (n : Int) (hm : 1 ≤ m) : ∃ L, put m [] (nonT n) = (1, 0, L) ∧ BackSt L 0 1 [] [] ∧ L.length = 1 := by
  have e : put m [] (nonT n) = (1, 0, [nonT n]) := by
    unfold put
    rw [if_pos (may_non _)]
    simp [find]; omega
  refine ⟨[nonT n], e, ⟨?_, rfl, rfl, ?_, ?_, ?_, ?_⟩, rfl⟩
  · have := Good.put m (nonT n) good_nil
    rwa [e] at this
  · intro j x hj
    cases j with
    | zero => simp at hj; subst hj; exact ⟨n, by omega, by simp, rfl⟩
    | succ j => simp at hj
  · intro j x y _ hj
    simp at hj
  · intro j x z hj
    simp at hj
  · intro x t hx
    have h1 := hx.lo
    have h2 := hx.hi
    simp only [List.length_cons, List.length_nil] at h2
    have h3 := hx.is
    rw [show (x - 1).toNat = 0 by omega] at h3
    simp only [List.getElem?_cons_zero, Option.some.injEq] at h3
    exact .inl ⟨n, h3.symm⟩

theorem back_step {L : List T} {i : Nat} {c m : Int} {chains keys : List Int} (h : BackSt L i c chains keys) (hr : (L.length : Int) + 2 ≤ m) :
    ∃ a u L1 L2, put m L (keyT c 1) = (a, 0, L1) ∧ put m L1 (keyT c 2) = (u, 0, L2) ∧ BackSt L2 (i + 1) u (chains ++ [c]) (keys ++ [a]) ∧ L2.length ≤ L.length + 2 := by
  have lvc : Lv L i c := h.lv i c (by rw [List.getElem?_append_right (by rw [h.lc]; exact Nat.le_refl _), h.lc]; simp)
  obtain ⟨hc1, hc2⟩ := lvc.inn
  obtain ⟨a, L1, p1, a1, e1, g1, l1⟩ := put_ok (m := m) (L := L) (t := keyT c 1) h.good (may_key.2 ⟨hc1, hc2⟩) (by omega)
  have t1 := e1.len
  obtain ⟨u, L2, p2, a2, e2, g2, l2⟩ := put_ok (m := m) (L := L1) (t := keyT c 2) g1 (may_key.2 ⟨hc1, by omega⟩) (by omega)
  have t2 := e2.len
  have f2 : Ext L L2 := e1.trans e2
  refine ⟨a, u, L1, L2, p1, p2, ⟨g2, by simp [h.lc], by simp [h.lk], ?_, ?_, ?_, ?_⟩, by omega⟩
  · intro j x hj
    rw [List.getElem?_append] at hj
    split at hj
    · exact (h.lv j x hj).ext f2
    · rename_i hlt
      simp only [List.length_append, List.length_cons, List.length_nil, h.lc] at hlt hj
      obtain rfl : j = i + 1 := by
        have := (List.getElem?_eq_some_iff.1 hj).1
        simp at this; omega
      simp at hj
      subst hj
      exact ⟨c, lvc.ext f2, a2⟩
  · intro j x y hx hy
    rw [List.getElem?_append] at hx hy
    split at hy
    · rename_i hlt
      rw [if_pos (by omega)] at hx
      exact (h.nx j x y hx hy).ext f2
    · rename_i hlt
      simp only [List.length_append, List.length_cons, List.length_nil, h.lc] at hlt hy hx
      obtain rfl : j = i := by
        have := (List.getElem?_eq_some_iff.1 hy).1
        simp at this; omega
      simp at hy
      subst hy
      rw [if_pos (by omega), List.getElem?_append_right (by rw [h.lc]; exact Nat.le_refl _), h.lc] at hx
      simp at hx
      subst hx
      exact a2
  · intro j x z hx hz
    rw [List.getElem?_append] at hx hz
    split at hx
    · rename_i hlt
      rw [if_pos (by rw [h.lk, ← h.lc]; exact hlt)] at hz
      exact (h.ky j x z hx hz).ext f2
    · rename_i hlt
      rw [if_neg (by rw [h.lk, ← h.lc]; exact hlt)] at hz
      rw [h.lk] at hz
      rw [h.lc] at hx hlt
      obtain rfl : j = i := by
        have := (List.getElem?_eq_some_iff.1 hx).1
        simp at this; omega
      simp at hx hz
      subst hx; subst hz
      exact a1.ext e2
  · intro x t hx
    rcases at_put p2 a2 x t hx with hx | rfl
    · rcases at_put p1 a1 x t hx with hx | rfl
      · rcases h.all x t hx with hn | ⟨q, l, j, e, hq, hl⟩
        · exact .inl hn
        · exact .inr ⟨q, l, j, e, hq.ext f2, hl⟩
      · exact .inr ⟨c, 1, i, rfl, lvc.ext f2, .inl rfl⟩
    · exact .inr ⟨c, 2, i, rfl, lvc.ext f2, .inr rfl⟩

open Classical in
/-- What is known of a chain at step k: all behind it. -/
noncomputable def later (L : List T) (k : Nat) (x : Int) : Bool := decide ((∃ j, k ≤ j ∧ Lv L j x) ∨ ∃ j q, k ≤ j ∧ Lv L j q ∧ At L x (keyT q 1))

theorem later_iff {L : List T} {k : Nat} {x : Int} : later L k x = true ↔ ((∃ j, k ≤ j ∧ Lv L j x) ∨ ∃ j q, k ≤ j ∧ Lv L j q ∧ At L x (keyT q 1)) := by simp [later]
theorem later_lv {L : List T} {k j : Nat} {x : Int} (h : Lv L j x) : later L k x = true ↔ k ≤ j := by
  rw [later_iff]
  constructor
  · rintro (⟨j', h1, h2⟩ | ⟨j', q, _, _, h2⟩)
    · rw [h.uniq h2]; exact h1
    · exact absurd h2 h.notKey
  · exact fun hj => .inl ⟨j, hj, h⟩
theorem later_key {L : List T} {k j : Nat} {x q : Int} (h : Lv L j q) (hx : At L x (keyT q 1)) : later L k x = true ↔ k ≤ j := by
  rw [later_iff]
  constructor
  · rintro (⟨j', h1, h2⟩ | ⟨j', q', h1, h3, h2⟩)
    · exact absurd hx h2.notKey
    · have := keyT_inj.1 (hx.same h2)
      subst this
      rw [h.uniq h3]; exact h1
  · exact fun hj => .inr ⟨j, q, hj, h, hx⟩

theorem later_clo {L : List T} {i k : Nat} {c : Int} {chains keys : List Int} (h : BackSt L i c chains keys) (dh kem : Bool) : ∀ x t, At L x t → CloAt L dh kem (later L k) x t := by
  intro x t hx
  rcases h.all x t hx with ⟨n, rfl⟩ | ⟨q, l, j, rfl, hq, hl⟩
  · exact ⟨fun hm => by simp [mkB, nonT] at hm, fun _ hk => by simp [nonT] at hk, fun _ hk => by simp [nonT] at hk, fun _ hk => by simp [nonT] at hk⟩
  · refine ⟨fun hm => ?_, fun _ hk => by simp [keyT] at hk, fun _ hk => by simp [keyT] at hk, fun _ hk => by simp [keyT] at hk⟩
    have hm' : later L k q = true := by simpa [mkB, keyT] using hm
    have hj := (later_lv hq).1 hm'
    rcases hl with rfl | rfl
    · exact (later_key hq hx).2 hj
    · exact (later_lv (j := j + 1) ⟨q, hq, hx⟩).2 (by omega)

/-- Who knows the chain of step k can make the later ones, and no other one. -/
theorem back_der {L : List T} {i k : Nat} {c ck : Int} {chains keys : List Int} {dh kem : Bool} (h : BackSt L i c chains keys) (hk : chains[k]? = some ck) :
    (∀ j x, chains[j]? = some x → (x ∈ allOf L dh kem (fun y => y ∈ [ck]) ↔ k ≤ j)) ∧ ∀ j x, keys[j]? = some x → (x ∈ allOf L dh kem (fun y => y ∈ [ck]) ↔ k ≤ j) := by
  have hki : k < i := by rw [← h.lc]; exact (List.getElem?_eq_some_iff.1 hk).1
  have old : ∀ {j : Nat} {x : Int}, chains[j]? = some x → (chains ++ [c])[j]? = some x := fun {j x} hj => by
    rw [List.getElem?_append_left (List.getElem?_eq_some_iff.1 hj).1]; exact hj
  have hlk := h.lv k ck (old hk)
  have hno : ∀ x, Der L dh kem (fun y => y ∈ [ck]) x → later L k x = true := fun x hx =>
    der_of_clo (later_clo h dh kem) (fun y hy => by simp only [List.mem_singleton] at hy; subst hy; exact (later_lv hlk).2 (Nat.le_refl _)) hx
  have hyes : ∀ n x, chains[k + n]? = some x → Der L dh kem (fun y => y ∈ [ck]) x := by
    intro n
    induction n with
    | zero =>
      intro x hx
      rw [Nat.add_zero, hk] at hx
      simp only [Option.some.injEq] at hx
      subst hx
      exact .known _ (by simp)
    | succ n ih =>
      intro x hx
      have hlt := (List.getElem?_eq_some_iff.1 hx).1
      have hp : chains[k + n]? = some (chains[k + n]'(by omega)) := List.getElem?_eq_getElem (by omega)
      have hd := ih _ hp
      have hat := h.nx (k + n) _ x (old hp) (old hx)
      exact .make x _ (fun y => decide (y = chains[k + n]'(by omega))) (fun y hy => by have := of_decide_eq_true hy; subst this; exact hd) hat (by simp [mkB, keyT])
  refine ⟨fun j x hj => ?_, fun j x hj => ?_⟩
  · have hl := h.lv j x (old hj)
    rw [mem_allOf]
    constructor
    · exact fun ⟨_, hd⟩ => (later_lv hl).1 (hno x hd)
    · intro hkj
      refine ⟨hl.inn, hyes (j - k) x ?_⟩
      rw [show k + (j - k) = j by omega]; exact hj
  · have hjl : j < chains.length := by rw [h.lc, ← h.lk]; exact (List.getElem?_eq_some_iff.1 hj).1
    have hp : chains[j]? = some (chains[j]'hjl) := List.getElem?_eq_getElem hjl
    have hat := h.ky j _ x hp hj
    have hl := h.lv j _ (old hp)
    rw [mem_allOf]
    constructor
    · exact fun ⟨_, hd⟩ => (later_key hl hat).1 (hno x hd)
    · intro hkj
      refine ⟨⟨hat.lo, hat.hi⟩, ?_⟩
      have hd := hyes (j - k) (chains[j]'hjl) (by rw [show k + (j - k) = j by omega]; exact hp)
      exact .make x _ (fun y => decide (y = chains[j]'hjl)) (fun y hy => by have := of_decide_eq_true hy; subst this; exact hd) hat (by simp [mkB, keyT])
end Go.Proofs.Ytpcfmafokkffgaa
