/-
  Layer 6 over a store with room. For every store with room, and every names that are there.
-/
import Derived.Test.YtbaliaodioflfaaKdfB
namespace Go.Proofs.Ytbaliaodioflfaa
open Go.RowKit

/-- x is derived of k so often. -/
def Chained (L : List T) (n : Int) : Nat → Int → Int → Prop
  | 0, k, x => x = k
  | t + 1, k, x => ∃ y, At L y (keyT k n) ∧ Chained L n t y x

theorem Chained.ext {L L' : List T} {n : Int} (e : Ext L L') : ∀ {t : Nat} {k x : Int}, Chained L n t k x → Chained L' n t k x
  | 0, _, _, h => h
  | _ + 1, _, _, ⟨y, h1, h2⟩ => ⟨y, h1.ext e, h2.ext e⟩
theorem Chained.name {L : List T} {n : Int} (g : Good L) : ∀ {t : Nat} {k x y : Int}, Chained L n t k x → Chained L n t k y → x = y
  | 0, _, _, _, h, h' => h.trans h'.symm
  | _ + 1, _, _, _, ⟨y, h1, h2⟩, ⟨y', h1', h2'⟩ => by
    obtain rfl := h1.name g h1'
    exact h2.name g h2'
theorem Chained.split {L : List T} {n : Int} : ∀ {a b : Nat} {k x : Int}, Chained L n (a + b) k x → ∃ y, Chained L n a k y ∧ Chained L n b y x
  | 0, b, k, x, h => ⟨k, rfl, by rwa [Nat.zero_add] at h⟩
  | a + 1, b, k, x, h => by
    rw [show a + 1 + b = (a + b) + 1 by omega] at h
    obtain ⟨y, h1, h2⟩ := h
    obtain ⟨z, h3, h4⟩ := h2.split
    exact ⟨z, ⟨y, h1, h3⟩, h4⟩
theorem Chained.le {L : List T} {n : Int} (g : Good L) : ∀ {t : Nat} {k x : Int}, Chained L n t k x → k + t ≤ x
  | 0, _, _, h => by have : _ = _ := h; omega
  | t + 1, k, x, ⟨y, h1, h2⟩ => by
    have h3 := h1.part g (p := k) (by simp [keyT, T.parts, many])
    have h4 := h2.le g
    omega
theorem Chained.inn {L : List T} {n : Int} : ∀ {t : Nat} {k x : Int}, In L k → Chained L n t k x → In L x
  | 0, _, _, hk, h => by have : _ = _ := h; rw [this]; exact hk
  | _ + 1, _, _, _, ⟨_, h1, h2⟩ => h2.inn h1.inn

/-- A chain that finds room. -/
theorem chainN_ok {m n : Int} : ∀ (t : Nat) {L : List T} {k : Int}, Good L → In L k → (L.length : Int) + t ≤ m → ∃ x L', chainN m n t L k = (x, 0, L') ∧ Chained L' n t k x ∧ Ext L L' ∧ Good L' ∧ L'.length ≤ L.length + t
  | 0, L, k, g, _, _ => ⟨k, L, rfl, rfl, Ext.refl L, g, by omega⟩
  | t + 1, L, k, g, hk, hr => by
    obtain ⟨i, L1, h1, h2, h3, h4, h5⟩ := put_ok (m := m) (t := keyT k n) g (may_key.2 ⟨hk.lo, hk.hi⟩) (by omega)
    obtain ⟨x, L2, q1, q2, q3, q4, q5⟩ := chainN_ok (m := m) (n := n) t (L := L1) (k := i) h4 h2.inn (by omega)
    refine ⟨x, L2, ?_, ⟨i, h2.ext q3, q2⟩, h3.trans q3, q4, by omega⟩
    rw [chainN, h1]
    simp only [if_true]
    exact q1
/-- A chain that is there. -/
theorem chainN_known {m n : Int} : ∀ (t : Nat) {L : List T} {k x : Int}, Good L → Chained L n t k x → chainN m n t L k = (x, 0, L)
  | 0, L, k, x, _, h => by have : x = k := h; rw [this]; rfl
  | t + 1, L, k, x, g, ⟨y, h1, h2⟩ => by
    rw [chainN, put_known g h1]
    simp only [if_true]
    exact chainN_known t g h2

section
variable {W w : World} {b : Nat} {L : List T} {m : Int} {N : Nat} {Rs : List Res}

theorem hash_room {x y : Int} (h : Room W w b L m N Rs) (hN : (N : Int) < m) (hx : In L x) (hy : In L y) :
    Calls Try.prog 69 #[.pointer (some ⟨b, 0, none⟩), .int .i64 x, .int .i64 y] w (Named W b L m N Rs (hasT x y)) :=
  named_of h rfl (may_has.2 ⟨⟨hx.lo, hx.hi⟩, hy.lo, hy.hi⟩) hN (hash_calls x y h.hd)
theorem hash_known {x y p : Int} (h : Room W w b L m N Rs) (hp : At L p (hasT x y)) :
    Calls Try.prog 69 #[.pointer (some ⟨b, 0, none⟩), .int .i64 x, .int .i64 y] w (Known W b L m N Rs p) := known_of h rfl hp (hash_calls x y h.hd)
theorem derive_room {k n : Int} (h : Room W w b L m N Rs) (hN : (N : Int) < m) (hx : In L k) :
    Calls Try.prog 97 #[.pointer (some ⟨b, 0, none⟩), .int .i64 k, .int .u64 n] w (Named W b L m N Rs (keyT k n)) :=
  named_of h rfl (may_key.2 ⟨hx.lo, hx.hi⟩) hN (derive_calls k n h.hd)
theorem derive_known {k n p : Int} (h : Room W w b L m N Rs) (hp : At L p (keyT k n)) :
    Calls Try.prog 97 #[.pointer (some ⟨b, 0, none⟩), .int .i64 k, .int .u64 n] w (Known W b L m N Rs p) := known_of h rfl hp (derive_calls k n h.hd)

/-- What Mix leaves. -/
def Mixed (W : World) (b : Nat) (L : List T) (m : Int) (N : Nat) (Rs : List Res) (k i : Int) (e : Ending) (w' : World) : Prop :=
  ∃ p q h L', e = .returned (.tuple #[.int .i64 p, .int .i64 q, .int .i64 0]) ∧ At L' p (keyT h 1) ∧ At L' q (keyT h 2) ∧ At L' h (hasT k i) ∧ Ext L L' ∧ Room W w' b L' m N Rs
def Known2' (W : World) (b : Nat) (L : List T) (m : Int) (N : Nat) (Rs : List Res) (p q : Int) (e : Ending) (w' : World) : Prop :=
  e = .returned (.tuple #[.int .i64 p, .int .i64 q, .int .i64 0]) ∧ Room W w' b L m N Rs

theorem mix_room {k i : Int} (h : Room W w b L m N Rs) (hN : (N : Int) + 2 < m) (hk : In L k) (hi : In L i) :
    Calls Try.prog 71 #[.pointer (some ⟨b, 0, none⟩), .int .i64 k, .int .i64 i] w (Mixed W b L m (N + 3) Rs k i) := by
  have hl := h.len
  obtain ⟨x, L1, h1, ha1, he1, hg1, hl1⟩ := put_ok (m := m) (t := hasT k i) h.good (may_has.2 ⟨⟨hk.lo, hk.hi⟩, hi.lo, hi.hi⟩) (by omega)
  obtain ⟨y, L2, h2, ha2, he2, hg2, hl2⟩ := put_ok (m := m) (t := keyT x 1) hg1 (may_key.2 ⟨ha1.lo, ha1.hi⟩) (by omega)
  have hx2 := ha1.ext he2
  obtain ⟨z, L3, h3, ha3, he3, hg3, hl3⟩ := put_ok (m := m) (t := keyT x 2) hg2 (may_key.2 ⟨hx2.lo, hx2.hi⟩) (by omega)
  have := mix_calls k i h.hd
  have e : mix6 m L k i = (y, z, 0, L3) := by simp [mix6, h1, h2, h3]
  rw [e] at this
  exact this.mono fun e w' ⟨e1, e2⟩ => ⟨y, z, x, L3, e1, ha2.ext he3, ha3, (ha1.ext he2).ext he3, (he1.trans he2).trans he3, e2, hg3, by omega⟩
theorem mix_known {k i x y z : Int} (h : Room W w b L m N Rs) (hx : At L x (hasT k i)) (hy : At L y (keyT x 1)) (hz : At L z (keyT x 2)) :
    Calls Try.prog 71 #[.pointer (some ⟨b, 0, none⟩), .int .i64 k, .int .i64 i] w (Known2' W b L m N Rs y z) := by
  have := mix_calls k i h.hd
  have e : mix6 m L k i = (y, z, 0, L) := by simp [mix6, put_known h.good hx, put_known h.good hy, put_known h.good hz]
  rw [e] at this
  exact this.mono fun e w' ⟨e1, e2⟩ => ⟨e1, e2, h.good, h.len⟩

/-- What a chain leaves. -/
def Chains (W : World) (b : Nat) (L : List T) (m : Int) (N : Nat) (Rs : List Res) (n : Int) (t : Nat) (k : Int) (e : Ending) (w' : World) : Prop :=
  ∃ p L', e = .returned (.tuple #[.int .i64 p, .int .i64 0]) ∧ Chained L' n t k p ∧ Ext L L' ∧ Room W w' b L' m N Rs

theorem has_inj {x y z u : Int} : hasT x y = hasT z u ↔ x = z ∧ y = u := by simp [hasT]
theorem key_inj {x y z u : Int} : keyT x y = keyT z u ↔ y = u ∧ x = z := by simp [keyT]
theorem at_ne {L : List T} {i j : Int} {t u : T} (h : At L i t) (k : At L j u) (hk : t ≠ u) : (i != j) = true := by
  rw [bne_iff_ne]; intro e; subst e; exact hk (h.same k)
end
end Go.Proofs.Ytbaliaodioflfaa
