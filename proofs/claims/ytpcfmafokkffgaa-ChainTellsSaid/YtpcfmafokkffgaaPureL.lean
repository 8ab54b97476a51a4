/-
  What the layers 4, 5, 6 and 15 answer, as plain functions of plain stores. For every store.
-/
import Derived.Test.YtpcfmafokkffgaaPureB
namespace Go.Proofs.Ytpcfmafokkffgaa

/-- What is wrapped. -/
def wrap4 (m : Int) (L : List T) (p d : Int) : Int × Int × Int × List T :=
  if (getT L p).k = 5 ∧ getB L d = true then
    if (put m L (boxT (getT L p).a d)).2.1 = 0 then
      if (put m (put m L (boxT (getT L p).a d)).2.2 (kemT (getT L p).a d)).2.1 = 0 then
        ((put m L (boxT (getT L p).a d)).1, (put m (put m L (boxT (getT L p).a d)).2.2 (kemT (getT L p).a d)).1, 0, (put m (put m L (boxT (getT L p).a d)).2.2 (kemT (getT L p).a d)).2.2)
      else (0, 0, (put m (put m L (boxT (getT L p).a d)).2.2 (kemT (getT L p).a d)).2.1, (put m (put m L (boxT (getT L p).a d)).2.2 (kemT (getT L p).a d)).2.2)
    else (0, 0, (put m L (boxT (getT L p).a d)).2.1, (put m L (boxT (getT L p).a d)).2.2)
  else (0, 0, 1, L)

/-- What was wrapped, opened. -/
def open4 (m : Int) (L : List T) (s x : Int) : Int × Int × List T :=
  if getB L s = true ∧ getB L x = true then
    if (getT L x).k = 6 ∧ (getT L x).a = s then put m L (kemT s (getT L x).b) else (0, 10, L)
  else (0, 1, L)

/-- Both keys that come of a key and what is mixed in. -/
def mix6 (m : Int) (L : List T) (k i : Int) : Int × Int × Int × List T :=
  if (put m L (hasT k i)).2.1 = 0 then
    if (put m (put m L (hasT k i)).2.2 (keyT (put m L (hasT k i)).1 1)).2.1 = 0 then
      if (put m (put m (put m L (hasT k i)).2.2 (keyT (put m L (hasT k i)).1 1)).2.2 (keyT (put m L (hasT k i)).1 2)).2.1 = 0 then
        ((put m (put m L (hasT k i)).2.2 (keyT (put m L (hasT k i)).1 1)).1, (put m (put m (put m L (hasT k i)).2.2 (keyT (put m L (hasT k i)).1 1)).2.2 (keyT (put m L (hasT k i)).1 2)).1, 0,
          (put m (put m (put m L (hasT k i)).2.2 (keyT (put m L (hasT k i)).1 1)).2.2 (keyT (put m L (hasT k i)).1 2)).2.2)
      else (0, 0, (put m (put m (put m L (hasT k i)).2.2 (keyT (put m L (hasT k i)).1 1)).2.2 (keyT (put m L (hasT k i)).1 2)).2.1, (put m (put m (put m L (hasT k i)).2.2 (keyT (put m L (hasT k i)).1 1)).2.2 (keyT (put m L (hasT k i)).1 2)).2.2)
    else (0, 0, (put m (put m L (hasT k i)).2.2 (keyT (put m L (hasT k i)).1 1)).2.1, (put m (put m L (hasT k i)).2.2 (keyT (put m L (hasT k i)).1 1)).2.2)
  else (0, 0, (put m L (hasT k i)).2.1, (put m L (hasT k i)).2.2)

/-- Derived so often. -/
def chainN (m n : Int) : Nat → List T → Int → Int × Int × List T
  | 0, L, k => (k, 0, L)
  | r + 1, L, k => if (put m L (keyT k n)).2.1 = 0 then chainN m n r (put m L (keyT k n)).2.2 (put m L (keyT k n)).1 else (0, (put m L (keyT k n)).2.1, (put m L (keyT k n)).2.2)
def chain6 (m : Int) (L : List T) (k n times : Int) : Int × Int × List T :=
  if getB L k = true ∧ 0 ≤ times ∧ times ≤ 1000 then chainN m n times.toNat L k else (0, 1, L)

/-- What was sealed. -/
def open5 (L : List T) (k n b s : Int) : Int × Int :=
  if getB L k = true ∧ getB L b = true ∧ getB L s = true then
    if getT L s = seaT k n b (getT L s).c then ((getT L s).c, 0) else (0, 9)
  else (0, 1)
def text5 (m : Int) (L : List T) (k n b : Int) (s : ByteArray) : Int × Int × List T :=
  if getB L k = true ∧ getB L b = true then
    if (put m L (txtT s)).2.1 = 0 then put m (put m L (txtT s)).2.2 (seaT k n b (put m L (txtT s)).1) else (0, (put m L (txtT s)).2.1, (put m L (txtT s)).2.2)
  else (0, 1, L)
def read5 (L : List T) (k n b s : Int) : ByteArray × Int :=
  if (open5 L k n b s).2 = 0 then
    if (getT L (open5 L k n b s).1).k = 1 then ((getT L (open5 L k n b s).1).s, 0) else (⟨#[]⟩, 9)
  else (⟨#[]⟩, (open5 L k n b s).2)

/-- What a store of good terms holds of a seal. -/
theorem sea_iff {L : List T} {k n b s : Int} (g : Good L) : getT L s = seaT k n b (getT L s).c ↔ (getT L s).k = 10 ∧ (getT L s).a = k ∧ (getT L s).n = n ∧ (getT L s).b = b := by
  constructor
  · intro h
    rw [h]
    exact ⟨rfl, rfl, rfl, rfl⟩
  · rintro ⟨h1, h2, h3, h4⟩
    by_cases hs : 1 ≤ s ∧ s ≤ L.length
    · have ha := at_getT hs.1 hs.2
      have hm := (ha.may g).2.2.1
      generalize getT L s = t at *
      obtain ⟨tk, ts, tn, ta, tb, tc⟩ := t
      simp only at h1 h2 h3 h4
      subst h1 h2 h3 h4
      have := congrArg T.s hm
      simp only [T.only] at this
      rw [if_neg (by decide)] at this
      rw [this]; rfl
    · have hz : getT L s = zeroT := by
        unfold getT get
        split
        · rw [List.getElem?_eq_none (by omega)]; rfl
        · rfl
      rw [hz] at h1
      exact absurd h1 (by decide)
end Go.Proofs.Ytpcfmafokkffgaa
