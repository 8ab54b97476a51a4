/-
  A cache of epochs, as plain data: what is put, got and dropped, and that the program's way and the document's are one. For every cache that rises.
-/
import Derived.Test.YtbaliaodioflfaaPure
namespace Go.Proofs.Ytbaliaodioflfaa

/-- An epoch that is kept: its number, its key, and its window. -/
structure En where
  ep : Int
  key : Int
  nx : Int
  bt : Int

theorem En.ext' {x y : En} (h1 : x.ep = y.ep) (h2 : x.key = y.key) (h3 : x.nx = y.nx) (h4 : x.bt = y.bt) : x = y := by
  cases x; cases y; simp_all

instance : DecidableEq En := fun x y =>
  if h : x.ep = y.ep ∧ x.key = y.key ∧ x.nx = y.nx ∧ x.bt = y.bt then isTrue (En.ext' h.1 h.2.1 h.2.2.1 h.2.2.2)
  else isFalse fun e => h (by subst e; exact ⟨rfl, rfl, rfl, rfl⟩)

def En.zero : En := ⟨0, 0, 0, 0⟩

/-- Rising. -/
def Rises (es : List En) : Prop := es.Pairwise fun x y => x.ep < y.ep

/-- Where an epoch is, or would be. -/
def lowOf (n : Int) : List En → Nat
  | [] => 0
  | e :: es => if e.ep < n then lowOf n es + 1 else 0
/-- Is it there? -/
def isAt (es : List En) (n : Int) : Bool := decide ((es[lowOf n es]?).map (·.ep) = some n)

def kPut (es : List En) (e : En) : List En × En × Bool :=
  if isAt es e.ep = true then (es.set (lowOf e.ep es) e, En.zero, false)
  else if es.length + 1 ≤ 4 then (es.take (lowOf e.ep es) ++ e :: es.drop (lowOf e.ep es), En.zero, false)
  else ((es.take (lowOf e.ep es) ++ e :: es.drop (lowOf e.ep es)).drop 1, (es.take (lowOf e.ep es) ++ e :: es.drop (lowOf e.ep es)).getD 0 En.zero, true)
def kGet (es : List En) (n : Int) : En × Bool := if isAt es n = true then (es.getD (lowOf n es) En.zero, true) else (En.zero, false)
def kDrop (es : List En) (n : Int) : List En := if isAt es n = true then es.eraseIdx (lowOf n es) else es
def kKeys (es : List En) : List Int := es.map (·.key)

theorem lowOf_le (n : Int) : ∀ es : List En, lowOf n es ≤ es.length
  | [] => Nat.le_refl _
  | e :: es => by
    simp only [lowOf]
    split
    · have := lowOf_le n es; simp; omega
    · simp

/-- The document's. -/
def below (es : List En) (n : Int) : List En := es.filter fun x => decide (x.ep < n)
def above (es : List En) (n : Int) : List En := es.filter fun x => decide (n < x.ep)
def without (es : List En) (n : Int) : List En := es.filter fun x => decide (x.ep ≠ n)
def rGet (es : List En) (n : Int) : En × Bool := match es.find? fun x => decide (x.ep = n) with
  | some x => (x, true)
  | none => (En.zero, false)

theorem Rises.tail {e : En} {es : List En} (h : Rises (e :: es)) : Rises es := (List.pairwise_cons.1 h).2
theorem Rises.head {e : En} {es : List En} (h : Rises (e :: es)) : ∀ x ∈ es, e.ep < x.ep := (List.pairwise_cons.1 h).1

theorem above_all {n : Int} : ∀ {es : List En}, (∀ x ∈ es, n < x.ep) → below es n = [] ∧ above es n = es ∧ without es n = es ∧ es.find? (fun x => decide (x.ep = n)) = none ∧ lowOf n es = 0
  | [], _ => ⟨rfl, rfl, rfl, rfl, rfl⟩
  | e :: es, h => by
    have h1 := h e (by simp)
    obtain ⟨a, b, c, d, _⟩ := above_all (es := es) fun x hx => h x (by simp [hx])
    refine ⟨?_, ?_, ?_, ?_, ?_⟩
    · simp only [below, List.filter_cons] at a ⊢
      rw [if_neg (by simp; omega), a]
    · simp only [above, List.filter_cons] at b ⊢
      rw [if_pos (by simp; omega), b]
    · simp only [without, List.filter_cons] at c ⊢
      rw [if_pos (by simp; omega), c]
    · simp only [List.find?_cons]
      rw [show decide (e.ep = n) = false by simp; omega]
      exact d
    · simp only [lowOf]; rw [if_neg (by omega)]

/-- The three parts of a cache that rises. -/
theorem parts_of (n : Int) : ∀ {es : List En}, Rises es →
    lowOf n es = (below es n).length ∧ ((isAt es n = true ∧ ∃ x, x.ep = n ∧ es = below es n ++ x :: above es n ∧ es.find? (fun x => decide (x.ep = n)) = some x) ∨ (isAt es n = false ∧ es = below es n ++ above es n ∧ es.find? (fun x => decide (x.ep = n)) = none)) ∧ without es n = below es n ++ above es n
  | [], _ => ⟨rfl, .inr ⟨by simp [isAt], rfl, rfl⟩, rfl⟩
  | e :: es, h => by
    have hh := h.head
    obtain ⟨i1, i2, i3⟩ := parts_of n h.tail
    rcases Int.lt_trichotomy e.ep n with hlt | heq | hgt
    · have eb : below (e :: es) n = e :: below es n := by simp only [below, List.filter_cons]; rw [if_pos (by simpa using hlt)]
      have ea : above (e :: es) n = above es n := by simp only [above, List.filter_cons]; rw [if_neg (by simp; omega)]
      have ew : without (e :: es) n = e :: without es n := by simp only [without, List.filter_cons]; rw [if_pos (by simp; omega)]
      have el : lowOf n (e :: es) = lowOf n es + 1 := by simp only [lowOf]; rw [if_pos hlt]
      have ei : isAt (e :: es) n = isAt es n := by simp only [isAt, el, List.getElem?_cons_succ]
      have ef : (e :: es).find? (fun x => decide (x.ep = n)) = es.find? (fun x => decide (x.ep = n)) := by
        simp only [List.find?_cons]; rw [show decide (e.ep = n) = false by simp; omega]
      rw [eb, ea, ew, el, ei, ef]
      refine ⟨by simp [i1], ?_, by rw [i3]; rfl⟩
      rcases i2 with ⟨j1, x, j2, j3, j4⟩ | ⟨j1, j2, j3⟩
      · exact .inl ⟨j1, x, j2, by rw [List.cons_append, ← j3], j4⟩
      · exact .inr ⟨j1, by rw [List.cons_append, ← j2], j3⟩
    · obtain ⟨a, b, c, _, d⟩ := above_all (n := n) (es := es) fun x hx => by have := hh x hx; omega
      have eb : below (e :: es) n = [] := by simp only [below, List.filter_cons] at a ⊢; rw [if_neg (by simp; omega), a]
      have ea : above (e :: es) n = es := by simp only [above, List.filter_cons] at b ⊢; rw [if_neg (by simp; omega), b]
      have ew : without (e :: es) n = es := by simp only [without, List.filter_cons] at c ⊢; rw [if_neg (by simp; omega), c]
      have el : lowOf n (e :: es) = 0 := by simp only [lowOf]; rw [if_neg (by omega)]
      rw [eb, ea, ew, el]
      refine ⟨rfl, .inl ⟨by simp [isAt, el, heq], e, heq, rfl, ?_⟩, rfl⟩
      simp only [List.find?_cons]; rw [show decide (e.ep = n) = true by simpa using heq]
    · obtain ⟨a, b, c, d, f⟩ := above_all (n := n) (es := e :: es) fun x hx => by
        rcases List.mem_cons.1 hx with rfl | hx
        · exact hgt
        · have := hh x hx; omega
      rw [a, b, c, d, f]
      refine ⟨rfl, .inr ⟨?_, rfl, rfl⟩, rfl⟩
      simp [isAt, f]; omega

theorem kGet_eq {es : List En} (h : Rises es) (n : Int) : kGet es n = rGet es n := by
  obtain ⟨h1, h2, _⟩ := parts_of n h
  unfold kGet rGet
  rcases h2 with ⟨j1, x, j2, j3, j4⟩ | ⟨j1, _, j3⟩
  · rw [if_pos j1, j4, h1]
    dsimp only
    congr 1
    rw [List.getD_eq_getElem?_getD]
    generalize below es n = A at j3 h1 ⊢
    generalize above es n = B at j3
    subst j3
    simp
  · rw [if_neg (by simp [j1]), j3]

theorem kDrop_eq {es : List En} (h : Rises es) (n : Int) : kDrop es n = without es n := by
  obtain ⟨h1, h2, h3⟩ := parts_of n h
  unfold kDrop
  rcases h2 with ⟨j1, x, j2, j3, j4⟩ | ⟨j1, j2, _⟩
  · rw [if_pos j1, h3, h1]
    generalize below es n = A at j3 h1 h3 ⊢
    generalize above es n = B at j3 h3 ⊢
    subst j3
    rw [List.eraseIdx_append_of_length_le (Nat.le_refl _)]
    simp
  · rw [if_neg (by simp [j1]), h3, ← j2]

/-- With one more. -/
def ins (es : List En) (e : En) : List En := below es e.ep ++ e :: above es e.ep
def rPut (es : List En) (e : En) : List En × En × Bool :=
  if (ins es e).length ≤ 4 then (ins es e, En.zero, false) else ((ins es e).drop 1, (ins es e).getD 0 En.zero, true)

theorem kPut_eq {es : List En} (h : Rises es) (h4 : es.length ≤ 4) (e : En) : kPut es e = rPut es e := by
  obtain ⟨h1, h2, h3⟩ := parts_of e.ep h
  unfold kPut rPut
  rcases h2 with ⟨j1, x, j2, j3, j4⟩ | ⟨j1, j2, _⟩
  · have hl : (ins es e).length = es.length := by
      conv => rhs; rw [j3]
      simp [ins]
    rw [if_pos j1, if_pos (by omega)]
    congr 1
    rw [h1]
    unfold ins
    generalize below es e.ep = A at j3 h1 h3 ⊢
    generalize above es e.ep = B at j3 h3 ⊢
    subst j3
    rw [List.set_append_right _ _ (Nat.le_refl _)]
    simp
  · have hl : (ins es e).length = es.length + 1 := by
      conv => rhs; rw [j2]
      simp [ins]; omega
    have e1 : es.take (lowOf e.ep es) ++ e :: es.drop (lowOf e.ep es) = ins es e := by
      rw [h1]
      have t1 : es.take (below es e.ep).length = below es e.ep := by
        conv => lhs; arg 2; rw [j2]
        rw [List.take_append_of_le_length (Nat.le_refl _), List.take_length]
      have t2 : es.drop (below es e.ep).length = above es e.ep := by
        conv => lhs; arg 2; rw [j2]
        rw [List.drop_append_of_le_length (Nat.le_refl _), List.drop_length, List.nil_append]
      rw [t1, t2]; rfl
    rw [if_neg (by simp [j1]), e1, hl]

theorem mem_below {es : List En} {n : Int} {x : En} : x ∈ below es n ↔ x ∈ es ∧ x.ep < n := by simp [below]
theorem mem_above {es : List En} {n : Int} {x : En} : x ∈ above es n ↔ x ∈ es ∧ n < x.ep := by simp [above]
theorem mem_ins {es : List En} {e x : En} : x ∈ ins es e ↔ x = e ∨ (x ∈ es ∧ x.ep ≠ e.ep) := by
  simp only [ins, List.mem_append, List.mem_cons, mem_below, mem_above]
  constructor
  · rintro (⟨h, h1⟩ | rfl | ⟨h, h1⟩)
    · exact .inr ⟨h, by omega⟩
    · exact .inl rfl
    · exact .inr ⟨h, by omega⟩
  · rintro (rfl | ⟨h, h1⟩)
    · exact .inr (.inl rfl)
    · rcases Int.lt_or_gt_of_ne h1 with h2 | h2
      · exact .inl ⟨h, h2⟩
      · exact .inr (.inr ⟨h, h2⟩)
theorem ins_rises {es : List En} (h : Rises es) (e : En) : Rises (ins es e) := by
  unfold ins Rises
  rw [List.pairwise_append]
  refine ⟨List.Pairwise.filter _ h, ?_, fun x hx y hy => ?_⟩
  · rw [List.pairwise_cons]
    exact ⟨fun x hx => (mem_above.1 hx).2, List.Pairwise.filter _ h⟩
  · have h1 := (mem_below.1 hx).2
    rcases List.mem_cons.1 hy with rfl | hy
    · exact h1
    · have := (mem_above.1 hy).2; omega
theorem without_rises {es : List En} (h : Rises es) (n : Int) : Rises (without es n) := List.Pairwise.filter _ h
theorem rPut_rises {es : List En} (h : Rises es) (e : En) : Rises (rPut es e).1 := by
  unfold rPut; split
  · exact ins_rises h e
  · exact List.Pairwise.drop (ins_rises h e)
theorem ins_length {es : List En} (h : Rises es) (e : En) : (ins es e).length ≤ es.length + 1 ∧ es.length ≤ (ins es e).length := by
  obtain ⟨h1, h2, h3⟩ := parts_of e.ep h
  rcases h2 with ⟨j1, x, j2, j3, j4⟩ | ⟨j1, j2, _⟩
  · have : (ins es e).length = es.length := by
      conv => rhs; rw [j3]
      simp [ins]
    omega
  · have : (ins es e).length = es.length + 1 := by
      conv => rhs; rw [j2]
      simp [ins]; omega
    omega
theorem rPut_length {es : List En} (h : Rises es) (h4 : es.length ≤ 4) (e : En) : (rPut es e).1.length ≤ 4 := by
  have := ins_length h e
  unfold rPut; split
  · assumption
  · simp; omega
theorem kPut_rises {es : List En} (h : Rises es) (h4 : es.length ≤ 4) (e : En) : Rises (kPut es e).1 := by rw [kPut_eq h h4]; exact rPut_rises h e
theorem kPut_length {es : List En} (h : Rises es) (h4 : es.length ≤ 4) (e : En) : (kPut es e).1.length ≤ 4 := by rw [kPut_eq h h4]; exact rPut_length h h4 e
theorem kDrop_rises {es : List En} (h : Rises es) (n : Int) : Rises (kDrop es n) := by rw [kDrop_eq h]; exact without_rises h n
theorem kDrop_length (es : List En) (n : Int) : (kDrop es n).length ≤ es.length := by
  unfold kDrop; split
  · rw [List.length_eraseIdx]; split <;> omega
  · exact Nat.le_refl _
end Go.Proofs.Ytbaliaodioflfaa
