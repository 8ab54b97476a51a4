/-
  The document's way to what can be made, as plain functions: a list of names that grows till nothing can be added. For every list of terms.
-/
import Derived.Test.YtbaliaodioflfaaKnowI
namespace Go.Proofs.Ytbaliaodioflfaa

/-- Is a name what a term of these is taken apart to? -/
def apartB (L : List T) (ks : List Int) (x : Int) : Bool := ks.any fun y =>
  ((L.getD (y - 1).toNat zeroT).k == 11 && ((L.getD (y - 1).toNat zeroT).a == x || (L.getD (y - 1).toNat zeroT).b == x)) || (((L.getD (y - 1).toNat zeroT).k == 10 && (L.getD (y - 1).toNat zeroT).c == x) && decide ((L.getD (y - 1).toNat zeroT).a ∈ ks))
/-- Among these. -/
def inB (ks : List Int) (x : Int) : Bool := decide (x ∈ ks)

section
variable {L : List T} {dh kem : Bool} {K : Int → Prop} {ks : List Int}

theorem at_getD {x : Int} (hx : 1 ≤ x ∧ x ≤ (L.length : Int)) : At L x (L.getD (x - 1).toNat zeroT) := by
  refine ⟨hx.1, hx.2, ?_⟩
  rw [List.getElem?_eq_getElem (show (x - 1).toNat < L.length by omega), List.getD_eq_getElem?_getD, List.getElem?_eq_getElem (show (x - 1).toNat < L.length by omega)]
  rfl
theorem getD_at {x : Int} {t : T} (h : At L x t) : L.getD (x - 1).toNat zeroT = t := by rw [List.getD_eq_getElem?_getD, h.is]; rfl

theorem nm_at {x : Int} {t : T} (g : Good L) (h : At L x t) : nm L t = x := by
  unfold nm
  cases hf : find t L with
  | none => exact absurd (List.mem_of_getElem? h.is) (find_none.1 hf)
  | some j => exact (find_at hf).name g h
theorem at_nm {t : T} (h : nm L t ≠ 0) : At L (nm L t) t := by
  unfold nm at h ⊢
  cases hf : find t L with
  | none => rw [hf] at h; exact absurd rfl h
  | some j => exact find_at hf

/-- 'of' asks for one term. -/
theorem ofB_nm {kind a b : Int} (T0 : T) (g : Good L) (hin : ∀ x ∈ ks, 1 ≤ x ∧ x ≤ (L.length : Int)) (h0 : T0.k = kind ∧ T0.a = a ∧ T0.b = b) (hu : ∀ t : T, t.may L.length → t.k = kind → t.a = a → t.b = b → t = T0) : ofB L ks kind a b = inB ks (nm L T0) := by
  rw [Bool.eq_iff_iff]
  unfold ofB inB
  rw [List.any_eq_true, decide_eq_true_iff]
  constructor
  · rintro ⟨y, hy, h⟩
    simp only [Bool.and_eq_true, beq_iff_eq] at h
    have hat := at_getD (hin y hy)
    have := hu _ (hat.may g) h.1.1 h.1.2 h.2
    rw [this] at hat
    rw [nm_at g hat]
    exact hy
  · intro h
    have hr := hin _ h
    have hat := at_nm (t := T0) (L := L) (by omega)
    exact ⟨_, h, by rw [getD_at hat]; simp [h0]⟩
theorem may_form {t : T} {len k : Int} (h : t.may len) (hk : t.k = k) : t = T.only { t with k := k } := by
  have := h.2.2.1
  subst hk
  exact this
theorem ofB_pub (a : Int) (g : Good L) (hin : ∀ x ∈ ks, 1 ≤ x ∧ x ≤ (L.length : Int)) : ofB L ks 3 a 0 = inB ks (nm L (pubT a)) :=
  ofB_nm (pubT a) g hin ⟨rfl, rfl, rfl⟩ fun t ht h1 h2 h3 => by rw [may_form ht h1]; simp [T.only, many, pubT, h2]
theorem ofB_kpu (a : Int) (g : Good L) (hin : ∀ x ∈ ks, 1 ≤ x ∧ x ≤ (L.length : Int)) : ofB L ks 5 a 0 = inB ks (nm L (kpuT a)) :=
  ofB_nm (kpuT a) g hin ⟨rfl, rfl, rfl⟩ fun t ht h1 h2 h3 => by rw [may_form ht h1]; simp [T.only, many, kpuT, h2]
theorem ofB_box (a b : Int) (g : Good L) (hin : ∀ x ∈ ks, 1 ≤ x ∧ x ≤ (L.length : Int)) : ofB L ks 6 a b = inB ks (nm L (boxT a b)) :=
  ofB_nm (boxT a b) g hin ⟨rfl, rfl, rfl⟩ fun t ht h1 h2 h3 => by rw [may_form ht h1]; simp [T.only, many, boxT, h2, h3]

theorem in_parts_a {x : Int} {t : T} (g : Good L) (hat : At L x t) (hk : t.k = 11 ∨ t.k = 10) : 1 ≤ t.a ∧ t.a ≤ L.length := by
  refine parts_in g hat (p := t.a) ?_
  rcases hk with h | h <;> simp [T.parts, many, h]
theorem in_parts_b {x : Int} {t : T} (g : Good L) (hat : At L x t) (hk : t.k = 11) : 1 ≤ t.b ∧ t.b ≤ L.length := by
  refine parts_in g hat (p := t.b) ?_
  simp [T.parts, many, hk]
theorem in_parts_c {x : Int} {t : T} (g : Good L) (hat : At L x t) (hk : t.k = 10) : 1 ≤ t.c ∧ t.c ≤ L.length := by
  refine parts_in g hat (p := t.c) ?_
  simp [T.parts, many, hk]

/-- A list of names that can be made. -/
structure NmL (L : List T) (dh kem : Bool) (K : Int → Prop) (l : List Int) : Prop where
  der : ∀ x ∈ l, Der L dh kem K x
  knows : ∀ x, K x → x ∈ l
  inn : ∀ x ∈ l, 1 ≤ x ∧ x ≤ (L.length : Int)
  nodup : l.Nodup

theorem sub_len : ∀ {l m : List Int}, l.Nodup → l ⊆ m → l.length ≤ m.length
  | [], m, _, _ => by simp
  | x :: l, m, hn, hs => by
    have hx : x ∈ m := hs (by simp)
    rw [List.nodup_cons] at hn
    have ih := sub_len (m := m.erase x) hn.2 fun y hy => (List.mem_erase_of_ne (fun e => by subst e; exact hn.1 hy)).2 (hs (List.mem_cons_of_mem _ hy))
    rw [List.length_erase_of_mem hx] at ih
    have : 0 < m.length := List.length_pos_of_mem hx
    simp only [List.length_cons]
    omega
theorem names_len {l : List Int} (hn : l.Nodup) (hin : ∀ x ∈ l, 1 ≤ x ∧ x ≤ (L.length : Int)) : l.length ≤ L.length := by
  have hs : l ⊆ (List.range L.length).map fun (i : Nat) => (i : Int) + 1 := fun x hx => by
    have := hin x hx
    exact List.mem_map.2 ⟨(x - 1).toNat, List.mem_range.2 (by omega), by omega⟩
  have := sub_len hn hs
  simpa using this

theorem NmL.add {l : List Int} {x : Int} (h : NmL L dh kem K l) (hx : 1 ≤ x ∧ x ≤ (L.length : Int)) (hno : inB l x = false) (hm : (mkB L dh kem (inB l) (L.getD (x - 1).toNat zeroT) || apartB L l x) = true) : NmL L dh kem K (l ++ [x]) := by
  have hat := at_getD hx
  have hd : Der L dh kem K x := by
    rw [Bool.or_eq_true] at hm
    rcases hm with hm | hm
    · exact .make x _ (inB l) (fun y hy => h.der y (of_decide_eq_true hy)) hat hm
    · obtain ⟨y, hy, hh⟩ := List.any_eq_true.1 hm
      have hay := at_getD (h.inn y hy)
      generalize L.getD (y - 1).toNat zeroT = t at hay hh
      simp only [Bool.or_eq_true, Bool.and_eq_true, beq_iff_eq, decide_eq_true_eq] at hh
      rcases hh with ⟨h1, h2 | h2⟩ | ⟨⟨h1, h2⟩, h3⟩
      · rw [← h2]; exact .fst y t (h.der y hy) hay h1
      · rw [← h2]; exact .snd y t (h.der y hy) hay h1
      · rw [← h2]; exact .out y t (h.der y hy) hay h1 (h.der _ h3)
  refine ⟨fun z hz => ?_, fun z hz => List.mem_append_left _ (h.knows z hz), fun z hz => ?_, ?_⟩
  · rcases List.mem_append.1 hz with hz | hz
    · exact h.der z hz
    · simp only [List.mem_singleton] at hz; subst hz; exact hd
  · rcases List.mem_append.1 hz with hz | hz
    · exact h.inn z hz
    · simp only [List.mem_singleton] at hz; subst hz; exact hx
  · rw [List.nodup_append]
    refine ⟨h.nodup, by simp, fun z hz y hy e => ?_⟩
    simp only [List.mem_singleton] at hy
    subst hy
    subst e
    exact absurd hz (of_decide_eq_false hno)

/-- Nothing can be added. -/
theorem NmL.closed {l : List Int} (g : Good L) (h : NmL L dh kem K l) (hc : ∀ x : Int, 1 ≤ x ∧ x ≤ (L.length : Int) → inB l x = true ∨ (mkB L dh kem (inB l) (L.getD (x - 1).toNat zeroT) || apartB L l x) = false) (x : Int) : x ∈ l ↔ Der L dh kem K x := by
  refine ⟨h.der x, fun hd => of_decide_eq_true (der_of_clo (S := inB l) (fun y t hat => ?_) (fun y hy => decide_eq_true (h.knows y hy)) hd)⟩
  have key : ∀ z : Int, 1 ≤ z ∧ z ≤ (L.length : Int) → apartB L l z = true → inB l z = true := fun z hz ha => by
    rcases hc z hz with h | h
    · exact h
    · rw [ha, Bool.or_true] at h; cases h
  refine ⟨fun hm => ?_, fun hy hk => ?_, fun hy hk => ?_, fun hy hk hka => ?_⟩
  · rcases hc y ⟨hat.lo, hat.hi⟩ with h | h
    · exact h
    · rw [getD_at hat, hm, Bool.true_or] at h; cases h
  · exact key _ (in_parts_a g hat (.inl hk)) (List.any_eq_true.2 ⟨y, of_decide_eq_true hy, by rw [getD_at hat]; simp [hk]⟩)
  · exact key _ (in_parts_b g hat hk) (List.any_eq_true.2 ⟨y, of_decide_eq_true hy, by rw [getD_at hat]; simp [hk]⟩)
  · exact key _ (in_parts_c g hat hk) (List.any_eq_true.2 ⟨y, of_decide_eq_true hy, by rw [getD_at hat]; simp [hk]; exact of_decide_eq_true hka⟩)
end
end Go.Proofs.Ytbaliaodioflfaa
