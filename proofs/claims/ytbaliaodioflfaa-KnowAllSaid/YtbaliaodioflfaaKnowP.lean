/-
  What one can make who knows some terms: the least closed set, and that whoever reckons it step by step ends there. For every list of terms.
-/
import Derived.Test.YtbaliaodioflfaaPureB
namespace Go.Proofs.Ytbaliaodioflfaa

/-- A term's name, or 0. -/
def nm (L : List T) (t : T) : Int := match find t L with
  | some i => (i : Int) + 1
  | none => 0

/-- Can a term be made at once of what S has? -/
def mkB (L : List T) (dh kem : Bool) (S : Int → Bool) (t : T) : Bool :=
  if t.k = 1 then true
  else if t.k = 3 ∨ t.k = 5 ∨ t.k = 9 then S t.a
  else if t.k = 8 ∨ t.k = 11 then S t.a && S t.b
  else if t.k = 10 then (S t.a && S t.b) && S t.c
  else if t.k = 4 then (S t.a && (S t.b || S (nm L (pubT t.b)))) || (S t.b && (S t.a || S (nm L (pubT t.a)))) || (dh && S (nm L (pubT t.a)) && S (nm L (pubT t.b)))
  else if t.k = 6 then S t.b && (S t.a || S (nm L (kpuT t.a)))
  else if t.k = 7 then (S t.b && (S t.a || S (nm L (kpuT t.a)))) || (S (nm L (boxT t.a t.b)) && (kem || S t.a))
  else false

/-- What can be made. -/
inductive Der (L : List T) (dh kem : Bool) (K : Int → Prop) : Int → Prop
  | known (x : Int) : K x → Der L dh kem K x
  | make (x : Int) (t : T) (S : Int → Bool) : (∀ y, S y = true → Der L dh kem K y) → At L x t → mkB L dh kem S t = true → Der L dh kem K x
  | fst (y : Int) (t : T) : Der L dh kem K y → At L y t → t.k = 11 → Der L dh kem K t.a
  | snd (y : Int) (t : T) : Der L dh kem K y → At L y t → t.k = 11 → Der L dh kem K t.b
  | out (y : Int) (t : T) : Der L dh kem K y → At L y t → t.k = 10 → Der L dh kem K t.a → Der L dh kem K t.c

/-- Nothing more can be made of x. -/
structure CloAt (L : List T) (dh kem : Bool) (S : Int → Bool) (x : Int) (t : T) : Prop where
  make : mkB L dh kem S t = true → S x = true
  fst : S x = true → t.k = 11 → S t.a = true
  snd : S x = true → t.k = 11 → S t.b = true
  out : S x = true → t.k = 10 → S t.a = true → S t.c = true

theorem mkB_mono {L : List T} {dh kem dh' kem' : Bool} {S S' : Int → Bool} {t : T} (hd : dh = true → dh' = true) (hk : kem = true → kem' = true) (h : ∀ x, S x = true → S' x = true) (hm : mkB L dh kem S t = true) : mkB L dh' kem' S' t = true := by
  unfold mkB at hm ⊢
  repeat' split
  all_goals simp_all
  all_goals grind

theorem der_of_clo {L : List T} {dh kem : Bool} {K : Int → Prop} {S : Int → Bool} (c : ∀ x t, At L x t → CloAt L dh kem S x t) (hK : ∀ x, K x → S x = true) {x : Int} (h : Der L dh kem K x) : S x = true := by
  induction h with
  | known x h => exact hK x h
  | make x t S' _ hat hm ih => exact (c x t hat).make (mkB_mono id id ih hm)
  | fst y t _ hat hk ih => exact (c y t hat).fst ih hk
  | snd y t _ hat hk ih => exact (c y t hat).snd ih hk
  | out y t _ hat hk _ ih1 ih2 => exact (c y t hat).out ih1 hk ih2

theorem Der.mono {L : List T} {dh kem dh' kem' : Bool} {K K' : Int → Prop} (hd : dh = true → dh' = true) (hk : kem = true → kem' = true) (h : ∀ x, K x → Der L dh' kem' K' x) {x : Int} (hx : Der L dh kem K x) : Der L dh' kem' K' x := by
  induction hx with
  | known x hx => exact h x hx
  | make x t S _ hat hm ih => exact .make x t S ih hat (mkB_mono hd hk (fun _ h => h) hm)
  | fst y t _ hat hk ih => exact .fst y t ih hat hk
  | snd y t _ hat hk ih => exact .snd y t ih hat hk
  | out y t _ hat hk _ ih1 ih2 => exact .out y t ih1 hat hk ih2

theorem Der.name {L : List T} {dh kem : Bool} {K : Int → Prop} (g : Good L) (hK : ∀ x, K x → 1 ≤ x ∧ x ≤ L.length) {x : Int} (h : Der L dh kem K x) : 1 ≤ x ∧ x ≤ L.length := by
  have part : ∀ {y : Int} {t : T}, At L y t → ∀ p ∈ t.parts, 1 ≤ p ∧ p ≤ L.length := fun hat => (hat.may g).2.2.2.2.2
  induction h with
  | known x h => exact hK x h
  | make x t S _ hat hm _ => exact ⟨hat.lo, hat.hi⟩
  | fst y t _ hat hk _ => exact part hat _ (by simp [T.parts, many, hk])
  | snd y t _ hat hk _ => exact part hat _ (by simp [T.parts, many, hk])
  | out y t _ hat hk _ _ _ => exact part hat _ (by simp [T.parts, many, hk])

/-- A set of names as a row of marks. -/
def on (cs : List Bool) (x : Int) : Bool := cs.getD x.toNat false
def lrn (cs : List Bool) (x : Int) : List Bool := cs.set x.toNat true

theorem lrn_length (cs : List Bool) (x : Int) : (lrn cs x).length = cs.length := by simp [lrn]
theorem on_lrn {cs : List Bool} {x y : Int} (hx : 0 ≤ x) (hl : x < cs.length) (hy : 0 ≤ y) : on (lrn cs x) y = (on cs y || decide (x = y)) := by
  unfold on lrn
  simp only [List.getD_eq_getElem?_getD, List.getElem?_set]
  by_cases e : x = y
  · subst e
    rw [if_pos rfl, if_pos (by omega)]
    simp
  · rw [if_neg (by omega)]
    simp [e]
theorem on_lrn_mono (cs : List Bool) (x y : Int) (h : on cs y = true) : on (lrn cs x) y = true := by
  unfold on lrn at *
  simp only [List.getD_eq_getElem?_getD, List.getElem?_set] at *
  split
  · split
    · rfl
    · rename_i h1 h2
      rw [← h1, List.getElem?_eq_none (by omega)] at h
      simp at h
  · exact h

/-- How many marks. -/
def cnt (cs : List Bool) : Nat := cs.countP id
theorem cnt_le (cs : List Bool) : cnt cs ≤ cs.length := List.countP_le_length

theorem cnt_set : ∀ (cs : List Bool) (n : Nat), cnt cs ≤ cnt (cs.set n true) ∧ (n < cs.length → cs.getD n false = false → cnt cs < cnt (cs.set n true))
  | [], n => by simp [cnt]
  | c :: cs, 0 => by
    cases c <;> simp [cnt]
  | c :: cs, n + 1 => by
    have ih := cnt_set cs n
    simp only [cnt] at ih
    constructor
    · simp only [List.set_cons_succ, cnt, List.countP_cons]
      have := ih.1
      omega
    · intro h1 h2
      simp only [List.set_cons_succ, cnt, List.countP_cons]
      have := ih.2 (by simpa using h1) (by simpa using h2)
      omega
theorem cnt_lrn (cs : List Bool) (x : Int) : cnt cs ≤ cnt (lrn cs x) := (cnt_set cs _).1
theorem cnt_lrn_new {cs : List Bool} {x : Int} (hx : 0 ≤ x) (hl : x < cs.length) (h : on cs x = false) : cnt cs < cnt (lrn cs x) := (cnt_set cs _).2 (by omega) h

/-- What can be made taken apart. -/
def apt (cs : List Bool) (t : T) : Bool × List Bool :=
  if t.k = 11 then (!on cs t.a || !on (lrn cs t.a) t.b, lrn (lrn cs t.a) t.b)
  else if t.k = 10 ∧ on cs t.a = true then (!on cs t.c, lrn cs t.c)
  else (false, cs)

/-- A look at one name. -/
def visit (L : List T) (dh kem : Bool) (cs : List Bool) (x : Int) (t : T) : Bool × List Bool :=
  if on cs x = false ∧ mkB L dh kem (on cs) t = true then (true, if on (lrn cs x) x = true then (apt (lrn cs x) t).2 else lrn cs x)
  else if on cs x = true then apt cs t else (false, cs)

/-- Marks that say of names alone what can be made. -/
structure Marks (L : List T) (dh kem : Bool) (K : Int → Prop) (cs : List Bool) : Prop where
  len : cs.length = L.length + 1
  zero : on cs 0 = false
  der : ∀ x, on cs x = true → Der L dh kem K x
  knows : ∀ x, K x → on cs x = true

section
variable {L : List T} {dh kem : Bool} {K : Int → Prop} {cs : List Bool} {x : Int} {t : T}

theorem Marks.lrn (h : Marks L dh kem K cs) (hx : 1 ≤ x) (hl : x ≤ L.length) (hd : Der L dh kem K x) : Marks L dh kem K (lrn cs x) := by
  have hlen := h.len
  refine ⟨by rw [lrn_length, h.len], ?_, fun y hy => ?_, fun y hy => on_lrn_mono _ _ _ (h.knows y hy)⟩
  · rw [on_lrn (by omega) (by omega) (by omega), h.zero]
    simp; omega
  · by_cases h0 : 0 ≤ y
    · rw [on_lrn (by omega) (by omega) h0] at hy
      simp only [Bool.or_eq_true, decide_eq_true_eq] at hy
      rcases hy with hy | rfl
      · exact h.der y hy
      · exact hd
    · have e : y.toNat = (0 : Int).toNat := by omega
      have hy2 : on (Go.Proofs.Ytbaliaodioflfaa.lrn cs x) 0 = true := by unfold on at hy ⊢; rw [← e]; exact hy
      rw [on_lrn (by omega) (by omega) (by omega), h.zero] at hy2
      simp at hy2
      omega

theorem parts_in (g : Good L) (hat : At L x t) {p : Int} (hp : p ∈ t.parts) : 1 ≤ p ∧ p ≤ L.length := (hat.may g).2.2.2.2.2 p hp

theorem apt_marks (g : Good L) (h : Marks L dh kem K cs) (hat : At L x t) (hx : on cs x = true) : Marks L dh kem K (apt cs t).2 := by
  have hd := h.der x hx
  unfold apt
  split
  · rename_i hk
    have pa := parts_in g hat (p := t.a) (by simp [T.parts, many, hk])
    have pb := parts_in g hat (p := t.b) (by simp [T.parts, many, hk])
    exact (h.lrn pa.1 pa.2 (.fst x t hd hat hk)).lrn pb.1 pb.2 (.snd x t hd hat hk)
  · split
    · rename_i hk
      have pc := parts_in g hat (p := t.c) (by simp [T.parts, many, hk.1])
      exact h.lrn pc.1 pc.2 (.out x t hd hat hk.1 (h.der _ hk.2))
    · exact h

theorem apt_cnt (cs : List Bool) (t : T) : cnt cs ≤ cnt (apt cs t).2 := by
  unfold apt
  split
  · exact Nat.le_trans (cnt_lrn _ _) (cnt_lrn _ _)
  · split
    · exact cnt_lrn _ _
    · exact Nat.le_refl _

theorem set_same : ∀ (cs : List Bool) (n : Nat), cs.getD n false = true → cs.set n true = cs
  | [], _, h => by simp at h
  | c :: cs, 0, h => by simp at h; simp [h]
  | c :: cs, n + 1, h => by simp at h; simp; exact set_same cs n (by simpa using h)
theorem lrn_same (h : on cs x = true) : Go.Proofs.Ytbaliaodioflfaa.lrn cs x = cs := set_same _ _ h

theorem apt_false (h : (apt cs t).1 = false) : (apt cs t).2 = cs := by
  unfold apt at h ⊢
  split at h
  · simp only [Bool.or_eq_false_iff, Bool.not_eq_false'] at h
    rw [if_pos ‹_›]
    dsimp only
    rw [lrn_same h.2, lrn_same h.1]
  · rw [if_neg ‹_›]
    split at h
    · simp only [Bool.not_eq_false'] at h
      rw [if_pos ‹_›]
      exact lrn_same h
    · rw [if_neg ‹_›]

theorem apt_true (g : Good L) (hlen : cs.length = L.length + 1) (hat : At L x t) (h : (apt cs t).1 = true) : cnt cs < cnt (apt cs t).2 := by
  unfold apt at h ⊢
  split at h
  · rename_i hk
    have pa := parts_in g hat (p := t.a) (by simp [T.parts, many, hk])
    have pb := parts_in g hat (p := t.b) (by simp [T.parts, many, hk])
    rw [if_pos hk]
    simp only [Bool.or_eq_true, Bool.not_eq_true'] at h
    rcases h with h | h
    · exact Nat.lt_of_lt_of_le (cnt_lrn_new (by omega) (by omega) h) (cnt_lrn _ _)
    · exact Nat.lt_of_le_of_lt (cnt_lrn _ _) (cnt_lrn_new (by omega) (by rw [lrn_length]; omega) h)
  · rename_i hk
    rw [if_neg hk]
    split at h
    · rename_i hk2
      have pc := parts_in g hat (p := t.c) (by simp [T.parts, many, hk2.1])
      rw [if_pos hk2]
      simp only [Bool.not_eq_true'] at h
      exact cnt_lrn_new (by omega) (by omega) h
    · cases h

theorem visit_marks (g : Good L) (h : Marks L dh kem K cs) (hat : At L x t) : Marks L dh kem K (visit L dh kem cs x t).2 := by
  have h1 := hat.lo
  have h2 := hat.hi
  unfold visit
  split
  · rename_i hm
    have hl := h.lrn h1 h2 (.make x t (on cs) h.der hat hm.2)
    dsimp only
    split
    · exact apt_marks g hl hat ‹_›
    · exact hl
  · split
    · exact apt_marks g h hat ‹_›
    · exact h

theorem visit_false (h : (visit L dh kem cs x t).1 = false) : (visit L dh kem cs x t).2 = cs ∧ CloAt L dh kem (on cs) x t := by
  unfold visit at h ⊢
  split at h
  · cases h
  · rename_i hm
    rw [if_neg hm]
    split at h
    · rename_i hx
      rw [if_pos hx]
      have e := apt_false h
      refine ⟨e, fun _ => hx, fun _ hk => ?_, fun _ hk => ?_, fun _ hk ha => ?_⟩
      · unfold apt at h
        rw [if_pos hk] at h
        simp only [Bool.or_eq_false_iff, Bool.not_eq_false'] at h
        exact h.1
      · unfold apt at h
        rw [if_pos hk] at h
        simp only [Bool.or_eq_false_iff, Bool.not_eq_false'] at h
        rw [lrn_same h.1] at h
        exact h.2
      · unfold apt at h
        rw [if_neg (by omega), if_pos ⟨hk, ha⟩] at h
        simpa using h
    · rename_i hx
      rw [if_neg hx]
      have hx' : on cs x = false := by simpa using hx
      refine ⟨rfl, fun hmk => absurd ⟨hx', hmk⟩ hm, fun h => absurd h hx, fun h => absurd h hx, fun h => absurd h hx⟩

theorem visit_true (g : Good L) (hlen : cs.length = L.length + 1) (hat : At L x t) (h : (visit L dh kem cs x t).1 = true) : cnt cs < cnt (visit L dh kem cs x t).2 := by
  have h1 := hat.lo
  have h2 := hat.hi
  unfold visit at h ⊢
  split at h
  · rename_i hm
    rw [if_pos hm]
    have := cnt_lrn_new (cs := cs) (x := x) (by omega) (by omega) hm.1
    dsimp only
    split
    · exact Nat.lt_of_lt_of_le this (apt_cnt _ _)
    · exact this
  · rename_i hm
    rw [if_neg hm]
    split at h
    · rw [if_pos ‹_›]; exact apt_true g hlen hat h
    · cases h
theorem visit_cnt (g : Good L) (hlen : cs.length = L.length + 1) (hat : At L x t) : cnt cs ≤ cnt (visit L dh kem cs x t).2 := by
  cases h : (visit L dh kem cs x t).1 with
  | false => rw [(visit_false h).1]; exact Nat.le_refl _
  | true => exact Nat.le_of_lt (visit_true g hlen hat h)
end

/-- A round so far: n names were looked at, from cs0 on. -/
structure Pass (L : List T) (dh kem : Bool) (K : Int → Prop) (cs0 : List Bool) (n : Nat) (more : Bool) (cs : List Bool) : Prop where
  marks : Marks L dh kem K cs
  still : more = false → cs = cs0 ∧ ∀ (x : Int) t, x ≤ n → At L x t → CloAt L dh kem (on cs) x t
  grew : more = true → cnt cs0 < cnt cs

theorem Pass.start {L : List T} {dh kem : Bool} {K : Int → Prop} {cs : List Bool} (h : Marks L dh kem K cs) : Pass L dh kem K cs 0 false cs :=
  ⟨h, fun _ => ⟨rfl, fun x t hx hat => by have := hat.lo; omega⟩, fun h => by cases h⟩

theorem Pass.step {L : List T} {dh kem : Bool} {K : Int → Prop} {cs0 cs : List Bool} {n : Nat} {more : Bool} {t : T} (g : Good L) (h : Pass L dh kem K cs0 n more cs) (hat : At L ((n : Int) + 1) t) :
    Pass L dh kem K cs0 (n + 1) (more || (visit L dh kem cs ((n : Int) + 1) t).1) (visit L dh kem cs ((n : Int) + 1) t).2 := by
  refine ⟨visit_marks g h.marks hat, fun hm => ?_, fun hm => ?_⟩
  · simp only [Bool.or_eq_false_iff] at hm
    obtain ⟨e1, e2⟩ := visit_false hm.2
    obtain ⟨s1, s2⟩ := h.still hm.1
    rw [e1]
    refine ⟨s1, fun x u hx hu => ?_⟩
    by_cases hxn : x ≤ n
    · exact s2 x u hxn hu
    · obtain rfl : x = (n : Int) + 1 := by omega
      obtain rfl := hu.same hat
      exact e2
  · cases hmo : more with
    | true => exact Nat.lt_of_lt_of_le (h.grew hmo) (visit_cnt g h.marks.len hat)
    | false =>
      rw [hmo] at hm
      rw [← (h.still hmo).1]
      exact visit_true g h.marks.len hat hm

/-- A whole round that found nothing: what is marked is what can be made. -/
theorem Pass.done {L : List T} {dh kem : Bool} {K : Int → Prop} {cs0 cs : List Bool} (h : Pass L dh kem K cs0 L.length false cs) (x : Int) : on cs x = true ↔ Der L dh kem K x :=
  ⟨h.marks.der x, fun hd => der_of_clo (fun x t hat => (h.still rfl).2 x t hat.hi hat) h.marks.knows hd⟩

open Classical in
/-- The names of what can be made. -/
noncomputable def allOf (L : List T) (dh kem : Bool) (K : Int → Prop) : List Int := ((List.range L.length).map fun (i : Nat) => ((i : Nat) : Int) + 1).filter fun x => decide (Der L dh kem K x)

theorem mem_allOf {L : List T} {dh kem : Bool} {K : Int → Prop} {x : Int} : x ∈ allOf L dh kem K ↔ (1 ≤ x ∧ x ≤ L.length) ∧ Der L dh kem K x := by
  unfold allOf
  simp only [List.mem_filter, List.mem_map, List.mem_range, decide_eq_true_eq]
  constructor
  · rintro ⟨⟨i, hi, rfl⟩, hd⟩; exact ⟨⟨by omega, by omega⟩, hd⟩
  · rintro ⟨⟨h1, h2⟩, hd⟩; exact ⟨⟨(x - 1).toNat, by omega, by omega⟩, hd⟩
end Go.Proofs.Ytbaliaodioflfaa
