/-
  Layer 7 over a store with room. For every store with room, and every names that are there.
-/
import Derived.Test.YtbaliaodioflfaaSymB
import Derived.Test.YtbaliaodioflfaaKdfRoom
import Derived.Test.YtbaliaodioflfaaAeadRoom
namespace Go.Proofs.Ytbaliaodioflfaa
open Go.RowKit

theorem Room.re {W w w' : World} {b : Nat} {L : List T} {m : Int} {N : Nat} {Rs Ss : List Res} (h : Room W w b L m N Rs) (f : Hd W w' (Sto b L m :: Ss)) : Room W w' b L m N Ss := ⟨f, h.good, h.len⟩

theorem Hd.nth {W w : World} {k : Nat} {o : Obj} : ∀ (i : Nat) {Rs : List Res}, Hd W w Rs → Rs[i]? = some (Blk k o) → w.heap[k]? = some o
  | 0, A :: Rs, h, e => by
    have e2 : A = Blk k o := by simpa using e
    subst e2
    exact h.blk
  | i + 1, A :: Rs, h, e => Hd.nth i h.drop (by simpa using e)
  | _, [], _, e => by simp at e

theorem eq_Sy (x y : Sy) (w : World) : (binOp .eql 25 (.agg #[.int .i64 x.ck, .int .i64 x.k, .int .i64 x.h, .int .u64 x.n]) (.agg #[.int .i64 y.ck, .int .i64 y.k, .int .i64 y.h, .int .u64 y.n])).run Try.prog w = .ok (.bool (decide (x = y))) w := by
  obtain ⟨a, b, c, d⟩ := x
  obtain ⟨a', b', c', d'⟩ := y
  have e : (Op.equalIn 10000 25 (.agg #[.int .i64 a, .int .i64 b, .int .i64 c, .int .u64 d]) (.agg #[.int .i64 a', .int .i64 b', .int .i64 c', .int .u64 d'])).run Try.prog w = .ok (decide ((⟨a, b, c, d⟩ : Sy) = ⟨a', b', c', d'⟩)) w := by
    go_simp
    by_cases h1 : a = a' <;> by_cases h2 : b = b' <;> by_cases h3 : c = c' <;> by_cases h4 : d = d' <;> simp [h1, h2, h3, h4]
  rw [run_eql_struct, e]
  rfl

section
variable {W w : World} {b : Nat} {L : List T} {m : Int} {N : Nat} {Rs : List Res}

def Begun (W : World) (b : Nat) (L : List T) (m : Int) (N : Nat) (Rs : List Res) (s : ByteArray) (e : Ending) (w' : World) : Prop :=
  ∃ p L', e = .returned (.tuple #[.agg #[.int .i64 p, .int .i64 0, .int .i64 p, .int .u64 0], .int .i64 0]) ∧ At L' p (txtT s) ∧ Ext L L' ∧ Room W w' b L' m (N + 1) Rs
theorem sbegin_room {s : ByteArray} (h : Room W w b L m N Rs) (hN : (N : Int) < m) (hs : s.size ≤ 1000) :
    Calls Try.prog 24 #[.pointer (some ⟨b, 0, none⟩), .string s] w (Begun W b L m N Rs s) := by
  have hl := h.len
  obtain ⟨p, L1, h1, ha1, he1, hg1, hl1⟩ := put_ok (m := m) (t := txtT s) h.good (may_txt s hs) (by omega)
  have := sbegin_calls s h.hd
  have e : sBegin m L s = (⟨p, 0, p, 0⟩, 0, L1) := by simp [sBegin, h1]
  rw [e] at this
  exact this.mono fun e w' ⟨e1, e2⟩ => ⟨p, L1, e1, ha1, he1, e2, hg1, by omega⟩

def Said7 (W : World) (b : Nat) (L : List T) (m : Int) (N : Nat) (Rs : List Res) (ck k h n x : Int) (e : Ending) (w' : World) : Prop :=
  ∃ p L', e = .returned (.tuple #[.agg #[.int .i64 ck, .int .i64 k, .int .i64 p, .int .u64 n], .int .i64 0]) ∧ At L' p (hasT h x) ∧ Ext L L' ∧ Room W w' b L' m (N + 1) Rs
theorem shash_room {ck k h n x : Int} (hr : Room W w b L m N Rs) (hN : (N : Int) < m) (hh : In L h) (hx : In L x) :
    Calls Try.prog 27 #[.agg #[.int .i64 ck, .int .i64 k, .int .i64 h, .int .u64 n], .pointer (some ⟨b, 0, none⟩), .int .i64 x] w (Said7 W b L m N Rs ck k h n x) := by
  have hl := hr.len
  obtain ⟨p, L1, h1, ha1, he1, hg1, hl1⟩ := put_ok (m := m) (t := hasT h x) hr.good (may_has.2 ⟨⟨hh.lo, hh.hi⟩, hx.lo, hx.hi⟩) (by omega)
  have := shash_calls ck k h n x hr.hd
  have e : sHash m L ⟨ck, k, h, n⟩ x = (⟨ck, k, p, n⟩, 0, L1) := by simp [sHash, h1]
  rw [e] at this
  exact this.mono fun e w' ⟨e1, e2⟩ => ⟨p, L1, e1, ha1, he1, e2, hg1, by omega⟩

def Mixed7 (W : World) (b : Nat) (L : List T) (m : Int) (N : Nat) (Rs : List Res) (ck h x : Int) (e : Ending) (w' : World) : Prop :=
  ∃ p q g L', e = .returned (.tuple #[.agg #[.int .i64 p, .int .i64 q, .int .i64 h, .int .u64 0], .int .i64 0]) ∧ At L' p (keyT g 1) ∧ At L' q (keyT g 2) ∧ At L' g (hasT ck x) ∧ Ext L L' ∧ Room W w' b L' m N Rs
theorem mix6_ok {k i : Int} (h : Good L) (hN : (L.length : Int) + 2 < m) (hk : In L k) (hi : In L i) :
    ∃ y z x L3, mix6 m L k i = (y, z, 0, L3) ∧ At L3 y (keyT x 1) ∧ At L3 z (keyT x 2) ∧ At L3 x (hasT k i) ∧ Ext L L3 ∧ Good L3 ∧ L3.length ≤ L.length + 3 := by
  obtain ⟨x, L1, h1, ha1, he1, hg1, hl1⟩ := put_ok (m := m) (t := hasT k i) h (may_has.2 ⟨⟨hk.lo, hk.hi⟩, hi.lo, hi.hi⟩) (by omega)
  obtain ⟨y, L2, h2, ha2, he2, hg2, hl2⟩ := put_ok (m := m) (t := keyT x 1) hg1 (may_key.2 ⟨ha1.lo, ha1.hi⟩) (by omega)
  have hx2 := ha1.ext he2
  obtain ⟨z, L3, h3, ha3, he3, hg3, hl3⟩ := put_ok (m := m) (t := keyT x 2) hg2 (may_key.2 ⟨hx2.lo, hx2.hi⟩) (by omega)
  exact ⟨y, z, x, L3, by simp [mix6, h1, h2, h3], ha2.ext he3, ha3, hx2.ext he3, (he1.trans he2).trans he3, hg3, by omega⟩
theorem smix_room {ck k h n x : Int} (hr : Room W w b L m N Rs) (hN : (N : Int) + 2 < m) (hk : In L ck) (hx : In L x) :
    Calls Try.prog 29 #[.agg #[.int .i64 ck, .int .i64 k, .int .i64 h, .int .u64 n], .pointer (some ⟨b, 0, none⟩), .int .i64 x] w (Mixed7 W b L m (N + 3) Rs ck h x) := by
  have hl := hr.len
  obtain ⟨y, z, g, L3, h1, ha, hb, hc, he, hg, hl3⟩ := mix6_ok (m := m) hr.good (by omega) hk hx
  have := smix_calls ck k h n x hr.hd
  have e : sMix m L ⟨ck, k, h, n⟩ x = (⟨y, z, h, 0⟩, 0, L3) := by simp [sMix, h1]
  rw [e] at this
  exact this.mono fun e w' ⟨e1, e2⟩ => ⟨y, z, g, L3, e1, ha, hb, hc, he, e2, hg, by omega⟩

def Sealed7 (W : World) (b : Nat) (L : List T) (m : Int) (N : Nat) (Rs : List Res) (ck k h n n' x : Int) (e : Ending) (w' : World) : Prop :=
  ∃ c p L', e = .returned (.tuple #[.agg #[.int .i64 ck, .int .i64 k, .int .i64 p, .int .u64 n'], .int .i64 c, .int .i64 0]) ∧ At L' c (seaT k n h x) ∧ At L' p (hasT h c) ∧ Ext L L' ∧ Room W w' b L' m N Rs
theorem sseal_room {ck k h n x : Int} (n' : Int) (hn' : n + 1 = n') (h0 : 0 ≤ n) (h1 : n < 18446744073709551615) (hr : Room W w b L m N Rs) (hN : (N : Int) + 1 < m) (hk : In L k) (hh : In L h) (hx : In L x) :
    Calls Try.prog 31 #[.agg #[.int .i64 ck, .int .i64 k, .int .i64 h, .int .u64 n], .pointer (some ⟨b, 0, none⟩), .int .i64 x] w (Sealed7 W b L m (N + 2) Rs ck k h n n' x) := by
  subst hn'
  have hl := hr.len
  have hk0 := hk.lo
  obtain ⟨c, L1, g1, ha1, he1, hg1, hl1⟩ := put_ok (m := m) (t := seaT k n h x) hr.good (may_sea.2 ⟨⟨hk.lo, hk.hi⟩, ⟨hh.lo, hh.hi⟩, hx.lo, hx.hi⟩) (by omega)
  have hh1 := hh.ext he1
  obtain ⟨p, L2, g2, ha2, he2, hg2, hl2⟩ := put_ok (m := m) (t := hasT h c) hg1 (may_has.2 ⟨⟨hh1.lo, hh1.hi⟩, ha1.lo, ha1.hi⟩) (by omega)
  have := sseal_calls ck k h n x h0 (by omega) hr.hd
  have hrd : Sy.ready ⟨ck, k, h, n⟩ = true := ready_iff.2 ⟨by omega, by omega⟩
  have e : sSeal m L ⟨ck, k, h, n⟩ x = (⟨ck, k, p, n + 1⟩, c, 0, L2) := by simp [sSeal, hrd, g1, sSaid, g2]
  rw [e] at this
  exact this.mono fun e w' ⟨e1, e2⟩ => ⟨c, p, L2, e1, ha1.ext he2, ha2, he1.trans he2, e2, hg2, by omega⟩

/-- An answer of a state, a name and what is wrong, that changes nothing. -/
def Told7 (W : World) (b : Nat) (L : List T) (m : Int) (N : Nat) (Rs : List Res) (ck k h n x f : Int) (e : Ending) (w' : World) : Prop :=
  e = .returned (.tuple #[.agg #[.int .i64 ck, .int .i64 k, .int .i64 h, .int .u64 n], .int .i64 x, .int .i64 f]) ∧ Room W w' b L m N Rs
theorem sopen_known {ck k h n y z p : Int} (n' : Int) (hn' : n + 1 = n') (h0 : 0 ≤ n) (h1 : n < 18446744073709551615) (hr : Room W w b L m N Rs) (hk : In L k) (hh : In L h) (hz : At L z (seaT k n h y)) (hp : At L p (hasT h z)) :
    Calls Try.prog 33 #[.agg #[.int .i64 ck, .int .i64 k, .int .i64 h, .int .u64 n], .pointer (some ⟨b, 0, none⟩), .int .i64 z] w (Told7 W b L m N Rs ck k p n' y 0) := by
  subst hn'
  have hk0 := hk.lo
  have := sopen_calls ck k h n z h0 (by omega) hr.hd
  have hrd : Sy.ready ⟨ck, k, h, n⟩ = true := ready_iff.2 ⟨by omega, by omega⟩
  have e5 : open5 L k n h z = (y, 0) := by unfold open5; rw [if_pos ⟨hk.getB, hh.getB, hz.getT.2⟩, hz.getT.1]; exact if_pos rfl
  have e : sOpen m L ⟨ck, k, h, n⟩ z = (⟨ck, k, p, n + 1⟩, y, 0, L) := by simp [sOpen, hrd, e5, sSaid, put_known hr.good hp]
  rw [e] at this
  exact this.mono fun e w' ⟨e1, e2⟩ => ⟨e1, e2, hr.good, hr.len⟩
theorem sopen_room {ck k h n y z : Int} (n' : Int) (hn' : n + 1 = n') (h0 : 0 ≤ n) (h1 : n < 18446744073709551615) (hr : Room W w b L m N Rs) (hN : (N : Int) < m) (hk : In L k) (hh : In L h) (hz : At L z (seaT k n h y)) :
    Calls Try.prog 33 #[.agg #[.int .i64 ck, .int .i64 k, .int .i64 h, .int .u64 n], .pointer (some ⟨b, 0, none⟩), .int .i64 z] w
      fun e w' => ∃ p L', e = .returned (.tuple #[.agg #[.int .i64 ck, .int .i64 k, .int .i64 p, .int .u64 n'], .int .i64 y, .int .i64 0]) ∧ At L' p (hasT h z) ∧ Ext L L' ∧ Room W w' b L' m (N + 1) Rs := by
  subst hn'
  have hl := hr.len
  have hk0 := hk.lo
  obtain ⟨p, L1, g1, ha1, he1, hg1, hl1⟩ := put_ok (m := m) (t := hasT h z) hr.good (may_has.2 ⟨⟨hh.lo, hh.hi⟩, hz.lo, hz.hi⟩) (by omega)
  have := sopen_calls ck k h n z h0 (by omega) hr.hd
  have hrd : Sy.ready ⟨ck, k, h, n⟩ = true := ready_iff.2 ⟨by omega, by omega⟩
  have e5 : open5 L k n h z = (y, 0) := by unfold open5; rw [if_pos ⟨hk.getB, hh.getB, hz.getT.2⟩, hz.getT.1]; exact if_pos rfl
  have e : sOpen m L ⟨ck, k, h, n⟩ z = (⟨ck, k, p, n + 1⟩, y, 0, L1) := by simp [sOpen, hrd, e5, sSaid, g1]
  rw [e] at this
  exact this.mono fun e w' ⟨e1, e2⟩ => ⟨p, L1, e1, ha1, he1, e2, hg1, by omega⟩
theorem sopen_bad {ck k h n z : Int} {t : T} (h0 : 0 ≤ n) (h1 : n < 18446744073709551615) (hr : Room W w b L m N Rs) (hk : In L k) (hh : In L h) (hz : At L z t) (hn : ¬ (t.k = 10 ∧ t.a = k ∧ t.n = n ∧ t.b = h)) :
    Calls Try.prog 33 #[.agg #[.int .i64 ck, .int .i64 k, .int .i64 h, .int .u64 n], .pointer (some ⟨b, 0, none⟩), .int .i64 z] w (Told7 W b L m N Rs 0 0 0 0 0 9) := by
  have hk0 := hk.lo
  have := sopen_calls ck k h n z h0 (by omega) hr.hd
  have hrd : Sy.ready ⟨ck, k, h, n⟩ = true := ready_iff.2 ⟨by omega, by omega⟩
  have e5 : open5 L k n h z = (0, 9) := by rw [open5_eq hr.good, if_pos ⟨hk.getB, hh.getB, hz.getT.2⟩, hz.getT.1, if_neg hn]
  have e : sOpen m L ⟨ck, k, h, n⟩ z = (⟨0, 0, 0, 0⟩, 0, 9, L) := by simp [sOpen, hrd, e5, Sy.zero]
  rw [e] at this
  exact this.mono fun e w' ⟨e1, e2⟩ => ⟨e1, e2, hr.good, hr.len⟩

def Split7 (W : World) (b : Nat) (L : List T) (m : Int) (N : Nat) (Rs : List Res) (ck : Int) (e : Ending) (w' : World) : Prop :=
  ∃ p q g t L', e = .returned (.tuple #[.int .i64 p, .int .i64 q, .int .i64 0]) ∧ At L' p (keyT g 1) ∧ At L' q (keyT g 2) ∧ At L' g (hasT ck t) ∧ At L' t (txtT ⟨#[]⟩) ∧ Ext L L' ∧ Room W w' b L' m N Rs
theorem ssplit_room {ck k h n : Int} (hr : Room W w b L m N Rs) (hN : (N : Int) + 3 < m) (hk : In L ck) :
    Calls Try.prog 35 #[.agg #[.int .i64 ck, .int .i64 k, .int .i64 h, .int .u64 n], .pointer (some ⟨b, 0, none⟩)] w (Split7 W b L m (N + 4) Rs ck) := by
  have hl := hr.len
  obtain ⟨t, L1, g1, ha1, he1, hg1, hl1⟩ := put_ok (m := m) (t := txtT ⟨#[]⟩) hr.good (may_txt _ (by decide)) (by omega)
  obtain ⟨y, z, g, L3, h1, ha, hb, hc, he, hg, hl3⟩ := mix6_ok (m := m) hg1 (by omega) (hk.ext he1) ha1.inn
  have := ssplit_calls ck k h n hr.hd
  have e : sSplit m L ⟨ck, k, h, n⟩ = (y, z, 0, L3) := by simp [sSplit, g1, h1]
  rw [e] at this
  exact this.mono fun e w' ⟨e1, e2⟩ => ⟨y, z, g, t, L3, e1, ha, hb, hc, ha1.ext he, he1.trans he, e2, hg, by omega⟩
theorem ssplit_known {ck k h n p q g t : Int} (hr : Room W w b L m N Rs) (hp : At L p (keyT g 1)) (hq : At L q (keyT g 2)) (hg : At L g (hasT ck t)) (ht : At L t (txtT ⟨#[]⟩)) :
    Calls Try.prog 35 #[.agg #[.int .i64 ck, .int .i64 k, .int .i64 h, .int .u64 n], .pointer (some ⟨b, 0, none⟩)] w fun e w' => e = .returned (.tuple #[.int .i64 p, .int .i64 q, .int .i64 0]) ∧ Room W w' b L m N Rs := by
  have := ssplit_calls ck k h n hr.hd
  have e : sSplit m L ⟨ck, k, h, n⟩ = (p, q, 0, L) := by simp [sSplit, put_known hr.good ht, mix6, put_known hr.good hg, put_known hr.good hp, put_known hr.good hq]
  rw [e] at this
  exact this.mono fun e w' ⟨e1, e2⟩ => ⟨e1, e2, hr.good, hr.len⟩
end
end Go.Proofs.Ytbaliaodioflfaa
