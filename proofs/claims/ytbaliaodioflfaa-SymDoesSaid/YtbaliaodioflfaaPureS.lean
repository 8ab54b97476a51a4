/-
  What layer 7 answers, as plain functions of plain stores. For every store and every state.
-/
import Derived.Test.YtbaliaodioflfaaPureL
namespace Go.Proofs.Ytbaliaodioflfaa

/-- A handshake's state. -/
structure Sy where
  ck : Int
  k : Int
  h : Int
  n : Int

def Sy.zero : Sy := ⟨0, 0, 0, 0⟩

theorem Sy.ext' {x y : Sy} (h1 : x.ck = y.ck) (h2 : x.k = y.k) (h3 : x.h = y.h) (h4 : x.n = y.n) : x = y := by
  cases x; cases y; simp_all

instance : DecidableEq Sy := fun x y =>
  if h : x.ck = y.ck ∧ x.k = y.k ∧ x.h = y.h ∧ x.n = y.n then isTrue (Sy.ext' h.1 h.2.1 h.2.2.1 h.2.2.2)
  else isFalse fun e => h (by subst e; exact ⟨rfl, rfl, rfl, rfl⟩)

def sBegin (m : Int) (L : List T) (s : ByteArray) : Sy × Int × List T :=
  if (put m L (txtT s)).2.1 = 0 then (⟨(put m L (txtT s)).1, 0, (put m L (txtT s)).1, 0⟩, 0, (put m L (txtT s)).2.2) else (Sy.zero, (put m L (txtT s)).2.1, (put m L (txtT s)).2.2)
def sHash (m : Int) (L : List T) (y : Sy) (x : Int) : Sy × Int × List T :=
  if (put m L (hasT y.h x)).2.1 = 0 then (⟨y.ck, y.k, (put m L (hasT y.h x)).1, y.n⟩, 0, (put m L (hasT y.h x)).2.2) else (Sy.zero, (put m L (hasT y.h x)).2.1, (put m L (hasT y.h x)).2.2)
def sMix (m : Int) (L : List T) (y : Sy) (x : Int) : Sy × Int × List T :=
  if (mix6 m L y.ck x).2.2.1 = 0 then (⟨(mix6 m L y.ck x).1, (mix6 m L y.ck x).2.1, y.h, 0⟩, 0, (mix6 m L y.ck x).2.2.2) else (Sy.zero, (mix6 m L y.ck x).2.2.1, (mix6 m L y.ck x).2.2.2)
/-- Can something be sealed? -/
def Sy.ready (y : Sy) : Bool := y.k != 0 && y.n != 18446744073709551615
/-- The answer p, with x said more. -/
def sSaid (m : Int) (L : List T) (y : Sy) (x p : Int) : Sy × Int × Int × List T :=
  if (put m L (hasT y.h x)).2.1 = 0 then (⟨y.ck, y.k, (put m L (hasT y.h x)).1, y.n + 1⟩, p, 0, (put m L (hasT y.h x)).2.2) else (Sy.zero, 0, (put m L (hasT y.h x)).2.1, (put m L (hasT y.h x)).2.2)
def sSeal (m : Int) (L : List T) (y : Sy) (x : Int) : Sy × Int × Int × List T :=
  if y.ready = true then
    if (put m L (seaT y.k y.n y.h x)).2.1 = 0 then sSaid m (put m L (seaT y.k y.n y.h x)).2.2 y (put m L (seaT y.k y.n y.h x)).1 (put m L (seaT y.k y.n y.h x)).1
    else (Sy.zero, 0, (put m L (seaT y.k y.n y.h x)).2.1, (put m L (seaT y.k y.n y.h x)).2.2)
  else (Sy.zero, 0, 7, L)
def sOpen (m : Int) (L : List T) (y : Sy) (x : Int) : Sy × Int × Int × List T :=
  if y.ready = true then
    if (open5 L y.k y.n y.h x).2 = 0 then sSaid m L y x (open5 L y.k y.n y.h x).1 else (Sy.zero, 0, (open5 L y.k y.n y.h x).2, L)
  else (Sy.zero, 0, 7, L)
def sSplit (m : Int) (L : List T) (y : Sy) : Int × Int × Int × List T :=
  if (put m L (txtT ⟨#[]⟩)).2.1 = 0 then mix6 m (put m L (txtT ⟨#[]⟩)).2.2 y.ck (put m L (txtT ⟨#[]⟩)).1 else (0, 0, (put m L (txtT ⟨#[]⟩)).2.1, (put m L (txtT ⟨#[]⟩)).2.2)
end Go.Proofs.Ytbaliaodioflfaa
