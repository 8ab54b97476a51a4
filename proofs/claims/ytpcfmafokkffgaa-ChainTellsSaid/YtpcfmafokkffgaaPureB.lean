/-
  Laws on plain stores of terms: names, stores that grow, puts that find room. For every list of terms; each law's own conditions alone.
-/
import Derived.Test.YtpcfmafokkffgaaPure
namespace Go.Proofs.Ytpcfmafokkffgaa

/-- i is the name of t. -/
structure At (L : List T) (i : Int) (t : T) : Prop where
  lo : 1 ≤ i
  hi : i ≤ L.length
  is : L[(i - 1).toNat]? = some t

/-- L' is L and more. -/
def Ext (L L' : List T) : Prop := ∃ M, L' = L ++ M

theorem Ext.refl (L : List T) : Ext L L := ⟨[], by simp⟩
theorem Ext.trans {A B C : List T} (h : Ext A B) (k : Ext B C) : Ext A C := by
  obtain ⟨M, rfl⟩ := h; obtain ⟨N, rfl⟩ := k; exact ⟨M ++ N, by simp⟩
theorem Ext.len {A B : List T} (h : Ext A B) : A.length ≤ B.length := by
  obtain ⟨M, rfl⟩ := h; simp

theorem At.ext {L L' : List T} {i : Int} {t : T} (h : At L i t) (e : Ext L L') : At L' i t := by
  obtain ⟨M, rfl⟩ := e
  refine ⟨h.lo, by have := h.hi; simp; omega, ?_⟩
  rw [List.getElem?_append_left (by have := h.hi; have := h.lo; omega)]
  exact h.is
theorem At.same {L : List T} {i : Int} {t u : T} (h : At L i t) (k : At L i u) : t = u := Option.some.inj (h.is.symm.trans k.is)
theorem At.name {L : List T} {i j : Int} {t : T} (g : Good L) (h : At L i t) (k : At L j t) : i = j := by
  have := g.nodup _ _ t h.is k.is
  have := h.lo; have := k.lo; omega
theorem At.may {L : List T} {i : Int} {t : T} (g : Good L) (h : At L i t) : t.may L.length :=
  T.may_mono (g.may _ _ h.is) (by have := h.hi; have := h.lo; omega)
theorem At.getT {L : List T} {i : Int} {t : T} (h : At L i t) : getT L i = t ∧ getB L i = true := by
  simp only [Go.Proofs.Ytpcfmafokkffgaa.getT, getB, get, if_pos h.lo, h.is]
  exact ⟨rfl, rfl⟩
theorem at_of {L : List T} {i : Int} (h1 : 1 ≤ i) (h2 : i ≤ L.length) : ∃ t, At L i t :=
  ⟨L[(i - 1).toNat]'(by omega), h1, h2, List.getElem?_eq_getElem (by omega)⟩
theorem at_getT {L : List T} {i : Int} (h1 : 1 ≤ i) (h2 : i ≤ L.length) : At L i (getT L i) := by
  obtain ⟨t, h⟩ := at_of h1 h2
  rw [h.getT.1]; exact h

theorem find_at {t : T} {L : List T} {i : Nat} (h : find t L = some i) : At L ((i : Int) + 1) t :=
  ⟨by omega, by have := find_lt h; omega, by rw [show ((i : Int) + 1 - 1).toNat = i by omega]; exact find_some h⟩

/-- What a put leaves. -/
theorem put_ext (m : Int) (L : List T) (t : T) : Ext L (put m L t).2.2 := by
  unfold put
  split
  · cases find t L with
    | some i => exact Ext.refl L
    | none => simp only []; split; exact Ext.refl L; exact ⟨[t], rfl⟩
  · exact Ext.refl L

/-- A put that finds room. -/
theorem put_ok {m : Int} {L : List T} {t : T} (g : Good L) (hm : t.may L.length) (hr : (L.length : Int) < m) :
    ∃ i L', put m L t = (i, 0, L') ∧ At L' i t ∧ Ext L L' ∧ Good L' ∧ L'.length ≤ L.length + 1 := by
  cases hf : find t L with
  | some i => exact ⟨i + 1, L, by simp [put, hm, hf], find_at hf, Ext.refl L, g, by omega⟩
  | none =>
    have hp : put m L t = ((L.length : Int) + 1, 0, L ++ [t]) := by simp only [put, hm, if_true, hf]; rw [if_neg (by omega)]
    refine ⟨L.length + 1, L ++ [t], hp, ⟨by omega, by simp, by simp⟩, ⟨[t], rfl⟩, ?_, by simp⟩
    have := Good.put m t g
    rwa [hp] at this

/-- A put of what is there. -/
theorem put_known {m : Int} {L : List T} {i : Int} {t : T} (g : Good L) (h : At L i t) : put m L t = (i, 0, L) := by
  have hm := h.may g
  cases hf : find t L with
  | none => exact absurd (List.mem_of_getElem? h.is) (find_none.1 hf)
  | some j =>
    have := (find_at hf).name g h
    simp only [put, hm, if_true, hf]
    rw [this]

theorem put_bad {m : Int} {L : List T} {t : T} (h : ¬ t.may L.length) : put m L t = (0, 1, L) := by simp [put, h]

/-- A put that finds none. -/
theorem putp_full {m : Int} {L : List T} {t : T} (hm : t.may L.length) (hn : t ∉ L) (hr : m ≤ L.length) : put m L t = (0, 4, L) := by
  simp [put, hm, find_none.2 hn, hr]
theorem putp_new {m : Int} {L : List T} {t : T} (hm : t.may L.length) (hn : t ∉ L) (hr : (L.length : Int) < m) : put m L t = ((L.length : Int) + 1, 0, L ++ [t]) := by
  simp only [put, hm, if_true, find_none.2 hn]; rw [if_neg (by omega)]

theorem at_snoc (L : List T) (t : T) : At (L ++ [t]) ((L.length : Int) + 1) t := ⟨by omega, by simp, by simp⟩

/-- The terms that the layers make. -/
def txtT (s : ByteArray) : T := ⟨1, s, 0, 0, 0, 0⟩
def nonT (n : Int) : T := ⟨2, ⟨#[]⟩, n, 0, 0, 0⟩
def pubT (a : Int) : T := ⟨3, ⟨#[]⟩, 0, a, 0, 0⟩
def shaT (a b : Int) : T := ⟨4, ⟨#[]⟩, 0, a, b, 0⟩
def kpuT (a : Int) : T := ⟨5, ⟨#[]⟩, 0, a, 0, 0⟩
def boxT (a b : Int) : T := ⟨6, ⟨#[]⟩, 0, a, b, 0⟩
def kemT (a b : Int) : T := ⟨7, ⟨#[]⟩, 0, a, b, 0⟩
def hasT (a b : Int) : T := ⟨8, ⟨#[]⟩, 0, a, b, 0⟩
def keyT (a n : Int) : T := ⟨9, ⟨#[]⟩, n, a, 0, 0⟩
def seaT (a n b c : Int) : T := ⟨10, ⟨#[]⟩, n, a, b, c⟩
def paiT (a b : Int) : T := ⟨11, ⟨#[]⟩, 0, a, b, 0⟩

section
variable {len a b c n : Int}
theorem may_txt (s : ByteArray) (h : s.size ≤ 1000) : (txtT s).may len := by simp [txtT, T.may, T.only, many, T.parts, h]
theorem may_non (n : Int) : (nonT n).may len := by simp [nonT, T.may, T.only, many, T.parts]; decide
theorem may_pub : (pubT a).may len ↔ 1 ≤ a ∧ a ≤ len := by
  have : (⟨#[]⟩ : ByteArray).size ≤ 1000 := by decide
  simp [pubT, T.may, T.only, many, T.parts, this]
theorem may_sha : (shaT a b).may len ↔ (1 ≤ a ∧ a ≤ len) ∧ (1 ≤ b ∧ b ≤ len) ∧ a ≤ b := by
  have : (⟨#[]⟩ : ByteArray).size ≤ 1000 := by decide
  simp [shaT, T.may, T.only, many, T.parts, this]; omega
theorem may_kpu : (kpuT a).may len ↔ 1 ≤ a ∧ a ≤ len := by
  have : (⟨#[]⟩ : ByteArray).size ≤ 1000 := by decide
  simp [kpuT, T.may, T.only, many, T.parts, this]
theorem may_box : (boxT a b).may len ↔ (1 ≤ a ∧ a ≤ len) ∧ (1 ≤ b ∧ b ≤ len) := by
  have : (⟨#[]⟩ : ByteArray).size ≤ 1000 := by decide
  simp [boxT, T.may, T.only, many, T.parts, this]
theorem may_kem : (kemT a b).may len ↔ (1 ≤ a ∧ a ≤ len) ∧ (1 ≤ b ∧ b ≤ len) := by
  have : (⟨#[]⟩ : ByteArray).size ≤ 1000 := by decide
  simp [kemT, T.may, T.only, many, T.parts, this]
theorem may_has : (hasT a b).may len ↔ (1 ≤ a ∧ a ≤ len) ∧ (1 ≤ b ∧ b ≤ len) := by
  have : (⟨#[]⟩ : ByteArray).size ≤ 1000 := by decide
  simp [hasT, T.may, T.only, many, T.parts, this]
theorem may_key : (keyT a n).may len ↔ 1 ≤ a ∧ a ≤ len := by
  have : (⟨#[]⟩ : ByteArray).size ≤ 1000 := by decide
  simp [keyT, T.may, T.only, many, T.parts, this]
theorem may_sea : (seaT a n b c).may len ↔ (1 ≤ a ∧ a ≤ len) ∧ (1 ≤ b ∧ b ≤ len) ∧ (1 ≤ c ∧ c ≤ len) := by
  have : (⟨#[]⟩ : ByteArray).size ≤ 1000 := by decide
  simp [seaT, T.may, T.only, many, T.parts, this]
theorem may_pai : (paiT a b).may len ↔ (1 ≤ a ∧ a ≤ len) ∧ (1 ≤ b ∧ b ≤ len) := by
  have : (⟨#[]⟩ : ByteArray).size ≤ 1000 := by decide
  simp [paiT, T.may, T.only, many, T.parts, this]
end

/-- The parts of a term that is there are there ahead of it. -/
theorem At.part {L : List T} {i p : Int} {t : T} (g : Good L) (h : At L i t) (hp : p ∈ t.parts) : 1 ≤ p ∧ p < i := by
  have := (g.may _ _ h.is).2.2.2.2.2 p hp
  have := h.lo
  omega
end Go.Proofs.Ytpcfmafokkffgaa
