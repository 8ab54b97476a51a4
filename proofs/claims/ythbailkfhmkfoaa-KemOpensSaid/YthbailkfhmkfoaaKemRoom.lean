/-
  Layer 4 over a store with room. For every store with room, and every names that are there.
-/
import Derived.Test.YthbailkfhmkfoaaKem
namespace Go.Proofs.Ythbailkfhmkfoaa
open Go.RowKit

section
variable {W w : World} {b : Nat} {L : List T} {m : Int} {N : Nat} {Rs : List Res}

theorem kpub_room {x : Int} (h : Room W w b L m N Rs) (hN : (N : Int) < m) (hx : In L x) :
    Calls Try.prog 27 #[.pointer (some ⟨b, 0, none⟩), .int .i64 x] w (Named W b L m N Rs (kpuT x)) :=
  named_of h rfl (may_kpu.2 ⟨hx.lo, hx.hi⟩) hN (kpub_calls x h.hd)

/-- What a call that names two terms leaves. -/
def Named2 (W : World) (b : Nat) (L : List T) (m : Int) (N : Nat) (Rs : List Res) (t u : T) (e : Ending) (w' : World) : Prop :=
  ∃ p q L', e = .returned (.tuple #[.int .i64 p, .int .i64 q, .int .i64 0]) ∧ At L' p t ∧ At L' q u ∧ Ext L L' ∧ Room W w' b L' m N Rs
/-- A call that changes nothing and tells two known names. -/
def Known2 (W : World) (b : Nat) (L : List T) (m : Int) (N : Nat) (Rs : List Res) (p q : Int) (e : Ending) (w' : World) : Prop :=
  e = .returned (.tuple #[.int .i64 p, .int .i64 q, .int .i64 0]) ∧ Room W w' b L m N Rs
/-- A call that changes nothing and tells what is wrong. -/
def Wrong (W : World) (b : Nat) (L : List T) (m : Int) (N : Nat) (Rs : List Res) (x : Int) (e : Ending) (w' : World) : Prop :=
  e = .returned (.tuple #[.int .i64 0, .int .i64 x]) ∧ Room W w' b L m N Rs

theorem wrap_is {p d k : Int} (hp : At L p (kpuT k)) (hd : In L d) : wrap4 m L p d =
    if (put m L (boxT k d)).2.1 = 0 then
      if (put m (put m L (boxT k d)).2.2 (kemT k d)).2.1 = 0 then
        ((put m L (boxT k d)).1, (put m (put m L (boxT k d)).2.2 (kemT k d)).1, 0, (put m (put m L (boxT k d)).2.2 (kemT k d)).2.2)
      else (0, 0, (put m (put m L (boxT k d)).2.2 (kemT k d)).2.1, (put m (put m L (boxT k d)).2.2 (kemT k d)).2.2)
    else (0, 0, (put m L (boxT k d)).2.1, (put m L (boxT k d)).2.2) := by
  unfold wrap4
  rw [hp.getT.1]
  rw [if_pos ⟨rfl, hd.getB⟩]
  rfl

theorem wrap_room {p d k : Int} (h : Room W w b L m N Rs) (hN : (N : Int) + 1 < m) (hp : At L p (kpuT k)) (hd : In L d) :
    Calls Try.prog 29 #[.pointer (some ⟨b, 0, none⟩), .int .i64 p, .int .i64 d] w (Named2 W b L m (N + 2) Rs (boxT k d) (kemT k d)) := by
  have hk := hp.part h.good (p := k) (by simp [kpuT, T.parts, many])
  have hl := h.len
  obtain ⟨i, L1, h1, ha1, he1, hg1, hl1⟩ := put_ok (m := m) (t := boxT k d) h.good (may_box.2 ⟨⟨hk.1, by have := hp.hi; omega⟩, hd.lo, hd.hi⟩) (by omega)
  obtain ⟨j, L2, h2, ha2, he2, hg2, hl2⟩ := put_ok (m := m) (t := kemT k d) hg1 (may_kem.2 ⟨⟨hk.1, by have := hp.hi; have := he1.len; omega⟩, hd.lo, by have := hd.hi; have := he1.len; omega⟩) (by omega)
  have := wrap_calls p d h.hd
  rw [wrap_is hp hd, h1] at this
  simp only [if_true] at this
  rw [h2] at this
  simp only [if_true] at this
  exact this.mono fun e w' ⟨e1, e2⟩ => ⟨i, j, L2, e1, ha1.ext he2, ha2, he1.trans he2, e2, hg2, by omega⟩

theorem wrap_known {p d k a c : Int} (h : Room W w b L m N Rs) (hp : At L p (kpuT k)) (hd : In L d) (ha : At L a (boxT k d)) (hc : At L c (kemT k d)) :
    Calls Try.prog 29 #[.pointer (some ⟨b, 0, none⟩), .int .i64 p, .int .i64 d] w (Known2 W b L m N Rs a c) := by
  have := wrap_calls p d h.hd
  rw [wrap_is hp hd, put_known h.good ha] at this
  simp only [if_true] at this
  rw [put_known h.good hc] at this
  simp only [if_true] at this
  exact this.mono fun e w' ⟨e1, e2⟩ => ⟨e1, e2, h.good, h.len⟩

theorem kopen_is {s x d : Int} (hs : In L s) (hx : At L x (boxT s d)) : open4 m L s x = put m L (kemT s d) := by
  unfold open4
  rw [if_pos ⟨hs.getB, hx.getT.2⟩, hx.getT.1, if_pos ⟨rfl, rfl⟩]; rfl

theorem kopen_room {s x d : Int} (h : Room W w b L m N Rs) (hN : (N : Int) < m) (hs : In L s) (hx : At L x (boxT s d)) :
    Calls Try.prog 31 #[.pointer (some ⟨b, 0, none⟩), .int .i64 s, .int .i64 x] w (Named W b L m N Rs (kemT s d)) := by
  have hd := hx.part h.good (p := d) (by simp [boxT, T.parts, many])
  exact named_of h (kopen_is hs hx) (may_kem.2 ⟨⟨hs.lo, hs.hi⟩, hd.1, by have := hx.hi; omega⟩) hN (kopen_calls s x h.hd)
theorem kopen_known {s x d y : Int} (h : Room W w b L m N Rs) (hs : In L s) (hx : At L x (boxT s d)) (hy : At L y (kemT s d)) :
    Calls Try.prog 31 #[.pointer (some ⟨b, 0, none⟩), .int .i64 s, .int .i64 x] w (Known W b L m N Rs y) :=
  known_of h (kopen_is hs hx) hy (kopen_calls s x h.hd)
theorem kopen_bad {s x : Int} {t : T} (h : Room W w b L m N Rs) (hs : In L s) (hx : At L x t) (hn : ¬ (t.k = 6 ∧ t.a = s)) :
    Calls Try.prog 31 #[.pointer (some ⟨b, 0, none⟩), .int .i64 s, .int .i64 x] w (Wrong W b L m N Rs 10) := by
  have e : open4 m L s x = (0, 10, L) := by
    unfold open4
    rw [if_pos ⟨hs.getB, hx.getT.2⟩, hx.getT.1, if_neg hn]
  have := kopen_calls s x h.hd
  rw [e] at this
  exact this.mono fun e w' ⟨e1, e2⟩ => ⟨e1, e2, h.good, h.len⟩

theorem box_inj {x y z u : Int} : boxT x y = boxT z u ↔ x = z ∧ y = u := by simp [boxT]
theorem kem_inj {x y z u : Int} : kemT x y = kemT z u ↔ x = z ∧ y = u := by simp [kemT]
end
end Go.Proofs.Ythbailkfhmkfoaa
