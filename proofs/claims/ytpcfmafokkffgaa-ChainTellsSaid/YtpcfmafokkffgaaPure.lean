/-
  Terms, and a store of terms, as plain data: which term may be put, its name, what is there, how deep it is. Plain definitions and laws, for every list of terms; no condition beyond each law's own.
-/
namespace Go.Proofs.Ytpcfmafokkffgaa

structure T where
  k : Int
  s : ByteArray
  n : Int
  a : Int
  b : Int
  c : Int

theorem T.ext' {x y : T} (h1 : x.k = y.k) (h2 : x.s = y.s) (h3 : x.n = y.n) (h4 : x.a = y.a) (h5 : x.b = y.b) (h6 : x.c = y.c) : x = y := by
  cases x; cases y; simp_all

instance : DecidableEq T := fun x y =>
  if h : x.k = y.k ∧ x.s = y.s ∧ x.n = y.n ∧ x.a = y.a ∧ x.b = y.b ∧ x.c = y.c then
    isTrue (T.ext' h.1 h.2.1 h.2.2.1 h.2.2.2.1 h.2.2.2.2.1 h.2.2.2.2.2)
  else isFalse fun e => h (by subst e; exact ⟨rfl, rfl, rfl, rfl, rfl, rfl⟩)

def zeroT : T := ⟨0, ⟨#[]⟩, 0, 0, 0, 0⟩

/-- How many parts a kind has. -/
def many (k : Int) : Nat :=
  if k = 3 ∨ k = 5 ∨ k = 9 then 1 else if k = 4 ∨ k = 6 ∨ k = 7 ∨ k = 8 ∨ k = 11 then 2 else if k = 10 then 3 else 0

def T.parts (t : T) : List Int := [t.a, t.b, t.c].take (many t.k)

theorem many_le (k : Int) : many k ≤ 3 := by unfold many; split <;> (try split) <;> (try split) <;> omega

theorem parts_length (t : T) : t.parts.length = many t.k := by
  have := many_le t.k
  simp only [T.parts, List.length_take, List.length_cons, List.length_nil]
  omega

/-- A term with what its kind has alone. -/
def T.only (t : T) : T :=
  { k := t.k, s := if t.k = 1 then t.s else ⟨#[]⟩, n := if t.k = 2 ∨ t.k = 9 ∨ t.k = 10 then t.n else 0,
    a := if 1 ≤ many t.k then t.a else 0, b := if 2 ≤ many t.k then t.b else 0, c := if 3 ≤ many t.k then t.c else 0 }

/-- May a term be, where there are so many? -/
def T.may (len : Int) (t : T) : Prop :=
  1 ≤ t.k ∧ t.k ≤ 11 ∧ t = t.only ∧ t.s.size ≤ 1000 ∧ ¬ (t.k = 4 ∧ t.b < t.a) ∧ ∀ p ∈ t.parts, 1 ≤ p ∧ p ≤ len

instance (len : Int) (t : T) : Decidable (t.may len) := by unfold T.may; exact inferInstance

/-- The place of a term. -/
def find (t : T) : List T → Option Nat
  | [] => none
  | u :: L => if u = t then some 0 else (find t L).map (· + 1)

theorem find_some {t : T} : ∀ {L : List T} {i : Nat}, find t L = some i → L[i]? = some t
  | [], _, h => by simp [find] at h
  | u :: L, i, h => by
    simp only [find] at h
    split at h
    · rename_i e
      simp only [Option.some.injEq] at h
      subst h; subst e; rfl
    · cases hf : find t L with
      | none => simp [hf] at h
      | some j =>
        simp only [hf, Option.map_some, Option.some.injEq] at h
        subst h
        simpa using find_some hf

theorem find_none {t : T} : ∀ {L : List T}, find t L = none ↔ t ∉ L
  | [] => by simp [find]
  | u :: L => by
    have ih := @find_none t L
    simp only [find]
    split
    · rename_i e; simp [e]
    · rename_i e
      simp only [Option.map_eq_none_iff, ih, List.mem_cons, not_or]
      exact ⟨fun h => ⟨fun e' => e e'.symm, h⟩, fun h => h.2⟩

theorem find_append {t : T} : ∀ {L M : List T} {i : Nat}, find t L = some i → find t (L ++ M) = some i
  | [], _, _, h => by simp [find] at h
  | u :: L, M, i, h => by
    simp only [find, List.cons_append] at h ⊢
    split
    · rename_i e; simpa [e] using h
    · rename_i e
      rw [if_neg e] at h
      cases hf : find t L with
      | none => simp [hf] at h
      | some j => rw [find_append hf]; simpa [hf] using h

theorem find_lt {t : T} {L : List T} {i : Nat} (h : find t L = some i) : i < L.length :=
  (List.getElem?_eq_some_iff.1 (find_some h)).1

/-- What is put, with room for m: the name; what is wrong; the terms then. -/
def put (m : Int) (L : List T) (t : T) : Int × Int × List T :=
  if t.may L.length then
    match find t L with
    | some i => ((i : Int) + 1, 0, L)
    | none => if m ≤ L.length then (0, 4, L) else ((L.length : Int) + 1, 0, L ++ [t])
  else (0, 1, L)

/-- The term of a name. -/
def get (L : List T) (x : Int) : Option T := if 1 ≤ x then L[(x - 1).toNat]? else none
def getT (L : List T) (x : Int) : T := (get L x).getD zeroT
def getB (L : List T) (x : Int) : Bool := (get L x).isSome

/-- How deep a term is, of parts that are so deep. -/
def deepest (ds : List Int) (ps : List Int) : Int := ps.foldl (fun m p => max m (ds.getD p.toNat 0)) 0
/-- How deep the terms are, behind 0. -/
def depths (L : List T) : List Int := L.foldl (fun ds t => ds ++ [deepest ds t.parts + 1]) [0]
def depth (L : List T) (x : Int) : Int := if 1 ≤ x ∧ x ≤ L.length then (depths L).getD x.toNat 0 else 0

theorem depths_snoc (L : List T) (t : T) : depths (L ++ [t]) = depths L ++ [deepest (depths L) t.parts + 1] := by
  simp [depths, List.foldl_append]

theorem depths_length (L : List T) : (depths L).length = L.length + 1 := by
  have h : ∀ (L : List T) (ds : List Int), (L.foldl (fun ds t => ds ++ [deepest ds t.parts + 1]) ds).length = ds.length + L.length := by
    intro L
    induction L with
    | nil => intro ds; simp
    | cons t L ih => intro ds; simp only [List.foldl_cons, ih, List.length_append, List.length_cons, List.length_nil]; omega
  rw [depths, h]; simp; omega

/-- A store as puts make it: each term may be where it came, none twice. -/
structure Good (L : List T) : Prop where
  may : ∀ (i : Nat) (t : T), L[i]? = some t → t.may i
  nodup : ∀ (i j : Nat) (t : T), L[i]? = some t → L[j]? = some t → i = j

theorem good_nil : Good [] := ⟨fun i t h => by simp at h, fun i j t h => by simp at h⟩

theorem T.may_mono {t : T} {m n : Int} (h : t.may m) (hmn : m ≤ n) : t.may n :=
  ⟨h.1, h.2.1, h.2.2.1, h.2.2.2.1, h.2.2.2.2.1, fun p hp => ⟨(h.2.2.2.2.2 p hp).1, Int.le_trans (h.2.2.2.2.2 p hp).2 hmn⟩⟩

theorem Good.snoc {L : List T} {t : T} (h : Good L) (hm : t.may L.length) (hn : t ∉ L) : Good (L ++ [t]) := by
  refine ⟨fun i u hi => ?_, fun i j u hi hj => ?_⟩
  · rw [List.getElem?_append] at hi
    split at hi
    · exact h.may i u hi
    · rename_i hlt
      have : i - L.length = 0 := by
        have := (List.getElem?_eq_some_iff.1 hi).1
        simp at this; omega
      simp only [this, List.getElem?_cons_zero, Option.some.injEq] at hi
      rw [← hi]
      exact T.may_mono hm (by omega)
  · have key : ∀ i, (L ++ [t])[i]? = some u → (i < L.length ∧ L[i]? = some u) ∨ (i = L.length ∧ u = t) := by
      intro i hi
      rw [List.getElem?_append] at hi
      split at hi
      · rename_i hlt; exact .inl ⟨hlt, hi⟩
      · rename_i hlt
        have h0 : i - L.length = 0 := by
          have := (List.getElem?_eq_some_iff.1 hi).1
          simp at this; omega
        simp only [h0, List.getElem?_cons_zero, Option.some.injEq] at hi
        exact .inr ⟨by omega, hi.symm⟩
    rcases key i hi with ⟨h1, h2⟩ | ⟨h1, h2⟩ <;> rcases key j hj with ⟨h3, h4⟩ | ⟨h3, h4⟩
    · exact h.nodup i j u h2 h4
    · subst h4; exact absurd (List.mem_of_getElem? h2) hn
    · subst h2; exact absurd (List.mem_of_getElem? h4) hn
    · omega

theorem Good.put {L : List T} (m : Int) (t : T) (h : Good L) : Good (put m L t).2.2 := by
  unfold Go.Proofs.Ytpcfmafokkffgaa.put
  split
  · rename_i hm
    cases hf : find t L with
    | some i => exact h
    | none =>
      simp only []
      split
      · exact h
      · exact h.snoc hm (find_none.1 hf)
  · exact h

end Go.Proofs.Ytpcfmafokkffgaa
