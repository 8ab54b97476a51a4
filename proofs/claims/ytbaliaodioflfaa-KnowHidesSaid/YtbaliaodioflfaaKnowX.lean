/-
  New terms in a store, and who can make them. For every list of terms.
-/
import Derived.Test.YtbaliaodioflfaaKnowL
namespace Go.Proofs.Ytbaliaodioflfaa
open Go.RowKit

/-- What a put that finds room leaves: the term was there, or it is the last one now. -/
def PutAns (L : List T) (t : T) (p : Int) (L2 : List T) : Prop := (L2 = L ∧ At L p t) ∨ (L2 = L ++ [t] ∧ p = (L.length : Int) + 1)

theorem putAns_of {m : Int} {L : List T} {t : T} (g : Good L) (hm : t.may L.length) (hr : (L.length : Int) < m) : ∃ p L2, put m L t = (p, 0, L2) ∧ PutAns L t p L2 ∧ Good L2 := by
  have hg := Good.put m t g
  cases hf : find t L with
  | some i =>
    have e : put m L t = ((i : Int) + 1, 0, L) := by simp [put, hm, hf]
    rw [e] at hg
    exact ⟨_, _, e, .inl ⟨rfl, find_at hf⟩, hg⟩
  | none =>
    have e : put m L t = ((L.length : Int) + 1, 0, L ++ [t]) := by simp only [put, hm, if_true, hf]; rw [if_neg (by omega)]
    rw [e] at hg
    exact ⟨_, _, e, .inr ⟨rfl, rfl⟩, hg⟩

section
variable {L L2 : List T} {t : T} {p : Int}
theorem PutAns.at (h : PutAns L t p L2) : At L2 p t := by
  rcases h with ⟨rfl, h⟩ | ⟨rfl, rfl⟩
  · exact h
  · exact at_snoc L t
theorem PutAns.ext (h : PutAns L t p L2) : Ext L L2 := by
  rcases h with ⟨rfl, _⟩ | ⟨rfl, _⟩
  · exact Ext.refl _
  · exact ⟨[t], rfl⟩
theorem PutAns.len (h : PutAns L t p L2) : L.length ≤ L2.length ∧ L2.length ≤ L.length + 1 := by
  rcases h with ⟨rfl, _⟩ | ⟨rfl, _⟩
  · omega
  · simp
theorem PutAns.new (h : PutAns L t p L2) (hl : L2.length = L.length + 1) : L2 = L ++ [t] ∧ p = (L.length : Int) + 1 := by
  rcases h with ⟨rfl, _⟩ | h
  · omega
  · exact h
end

/-- Of the terms that were there nothing new can be made. -/
theorem clo_old {L M : List T} {dh kem : Bool} {P : Int → Bool} (g : Good (L ++ M)) (hP : ∀ y, 1 ≤ y → y ≤ (L.length : Int) → P y = true) {z : Int} {t : T} (hat : At (L ++ M) z t) (hz : z ≤ L.length) : CloAt (L ++ M) dh kem P z t := by
  have h1 := hat.lo
  have hm := g.may _ _ hat.is
  have hp : ∀ p ∈ t.parts, P p = true := fun p hp => by
    have := hm.2.2.2.2.2 p hp
    exact hP p this.1 (by omega)
  exact ⟨fun _ => hP z h1 hz, fun _ hk => hp _ (by simp [T.parts, many, hk]), fun _ hk => hp _ (by simp [T.parts, many, hk]), fun _ hk _ => hp _ (by simp [T.parts, many, hk])⟩

theorem at_new {L M : List T} {z : Int} {t : T} (hat : At (L ++ M) z t) (hz : (L.length : Int) < z) : M[(z - L.length - 1).toNat]? = some t := by
  have h1 := hat.is
  rw [List.getElem?_append_right (by omega)] at h1
  rw [← h1]
  congr 1
  omega
theorem find_new {L M : List T} {t : T} {i : Nat} (g : Good (L ++ M)) (h : M[i]? = some t) : nm (L ++ M) t = (L.length : Int) + i + 1 := by
  have hi : i < M.length := (List.getElem?_eq_some_iff.1 h).1
  have hat : At (L ++ M) ((L.length : Int) + i + 1) t := ⟨by omega, by simp; omega, by
    rw [show ((L.length : Int) + i + 1 - 1).toNat = L.length + i by omega, List.getElem?_append_right (by omega), Nat.add_sub_cancel_left]; exact h⟩
  unfold nm
  cases hf : find t (L ++ M) with
  | none => exact absurd (List.mem_of_getElem? hat.is) (find_none.1 hf)
  | some j => exact (find_at hf).name g hat

/-- Old names, and some new ones. -/
def oldOr (n : Nat) (q : Int → Bool) (y : Int) : Bool := decide (1 ≤ y ∧ y ≤ (n : Int)) || q y
theorem oldOr_old {n : Nat} {q : Int → Bool} (y : Int) (h1 : 1 ≤ y) (h2 : y ≤ (n : Int)) : oldOr n q y = true := by simp [oldOr, h1, h2]
theorem oldOr_new {n : Nat} {q : Int → Bool} (y : Int) (h : (n : Int) < y) : oldOr n q y = q y := by
  simp [oldOr]; omega

section
variable {L : List T} {K : Int → Prop} {dh kem : Bool}

theorem non_no {X : List T} {S : Int → Bool} (n : Int) : mkB X dh kem S (nonT n) = false := by simp [mkB, nonT]

/-- KnowSeals: two new Nonces and what is sealed by the first one. -/
theorem seals_no {u v n : Int} (g : Good (L ++ [nonT u, nonT v, seaT ((L.length : Int) + 1) n 1 ((L.length : Int) + 2)])) (hK : ∀ x, K x → (1 ≤ x ∧ x ≤ L.length) ∨ x = (L.length : Int) + 3) :
    ¬ Der (L ++ [nonT u, nonT v, seaT ((L.length : Int) + 1) n 1 ((L.length : Int) + 2)]) dh kem K ((L.length : Int) + 2) := by
  intro h
  have := der_sub (oldOr L.length fun y => decide (y = (L.length : Int) + 3)) (fun x hx => by
    rcases hK x hx with h | h
    · exact oldOr_old x h.1 h.2
    · rw [oldOr_new x (by omega)]; simpa using h) (fun z t hat => ?_) h
  · rw [oldOr_new _ (by omega)] at this
    simp at this
  · by_cases hz : z ≤ L.length
    · exact clo_old g oldOr_old hat hz
    · have hn := at_new hat (by omega)
      have hh := hat.hi
      simp at hh
      have hc : z = (L.length : Int) + 1 ∨ z = (L.length : Int) + 2 ∨ z = (L.length : Int) + 3 := by omega
      rcases hc with rfl | rfl | rfl
      · rw [show (((L.length : Int) + 1) - L.length - 1).toNat = 0 by omega] at hn
        simp only [List.getElem?_cons_zero, Option.some.injEq] at hn
        subst hn
        refine ⟨fun h => (by rw [non_no] at h; cases h), ?_, ?_, ?_⟩ <;> intro h <;> rw [oldOr_new _ (by omega)] at h <;> simp at h
      · rw [show (((L.length : Int) + 2) - L.length - 1).toNat = 1 by omega] at hn
        simp only [List.getElem?_cons_succ, List.getElem?_cons_zero, Option.some.injEq] at hn
        subst hn
        refine ⟨fun h => (by rw [non_no] at h; cases h), ?_, ?_, ?_⟩ <;> intro h <;> rw [oldOr_new _ (by omega)] at h <;> simp at h
      · rw [show (((L.length : Int) + 3) - L.length - 1).toNat = 2 by omega] at hn
        simp only [List.getElem?_cons_succ, List.getElem?_cons_zero, Option.some.injEq] at hn
        subst hn
        refine ⟨fun _ => by rw [oldOr_new _ (by omega)]; simp, fun _ hk => by simp [seaT] at hk, fun _ hk => by simp [seaT] at hk, fun _ _ ha => ?_⟩
        simp only [seaT] at ha
        rw [oldOr_new _ (by omega)] at ha
        simp at ha
theorem seals_yes {X : List T} {k x c n : Int} (hc : At X c (seaT k n 1 x)) (h1 : K c) (h2 : K k) : Der X dh kem K x := .out c _ (.known _ h1) hc rfl (.known _ h2)

/-- KnowHides: a new Nonce, a key of it, its public key, a hash of both. -/
theorem hides_no {u n : Int} (g : Good (L ++ [nonT u, keyT ((L.length : Int) + 1) n, pubT ((L.length : Int) + 1), hasT ((L.length : Int) + 1) ((L.length : Int) + 2)])) (hK : ∀ x, K x → (1 ≤ x ∧ x ≤ L.length) ∨ x = (L.length : Int) + 3 ∨ x = (L.length : Int) + 4) (y : Int) (hy : y = (L.length : Int) + 1 ∨ y = (L.length : Int) + 2) :
    ¬ Der (L ++ [nonT u, keyT ((L.length : Int) + 1) n, pubT ((L.length : Int) + 1), hasT ((L.length : Int) + 1) ((L.length : Int) + 2)]) dh kem K y := by
  intro h
  have := der_sub (oldOr L.length fun y => decide (y = (L.length : Int) + 3 ∨ y = (L.length : Int) + 4)) (fun x hx => by
    rcases hK x hx with h | h
    · exact oldOr_old x h.1 h.2
    · rw [oldOr_new x (by omega)]; simpa using h) (fun z t hat => ?_) h
  · rw [oldOr_new _ (by omega)] at this
    simp at this
    omega
  · by_cases hz : z ≤ L.length
    · exact clo_old g oldOr_old hat hz
    · have hn := at_new hat (by omega)
      have hh := hat.hi
      simp at hh
      have hc : z = (L.length : Int) + 1 ∨ z = (L.length : Int) + 2 ∨ z = (L.length : Int) + 3 ∨ z = (L.length : Int) + 4 := by omega
      rcases hc with rfl | rfl | rfl | rfl
      · rw [show (((L.length : Int) + 1) - L.length - 1).toNat = 0 by omega] at hn
        simp only [List.getElem?_cons_zero, Option.some.injEq] at hn
        subst hn
        refine ⟨fun h => (by rw [non_no] at h; cases h), ?_, ?_, ?_⟩ <;> intro h <;> rw [oldOr_new _ (by omega)] at h <;> simp at h <;> try omega
      · rw [show (((L.length : Int) + 2) - L.length - 1).toNat = 1 by omega] at hn
        simp only [List.getElem?_cons_succ, List.getElem?_cons_zero, Option.some.injEq] at hn
        subst hn
        refine ⟨fun h => ?_, ?_, ?_, ?_⟩
        · simp only [mkB, keyT] at h
          simp at h
          rw [oldOr_new _ (by omega)] at h
          simp at h
          try omega
        all_goals
          intro h
          rw [oldOr_new _ (by omega)] at h
          simp at h
          try omega
      · rw [show (((L.length : Int) + 3) - L.length - 1).toNat = 2 by omega] at hn
        simp only [List.getElem?_cons_succ, List.getElem?_cons_zero, Option.some.injEq] at hn
        subst hn
        exact ⟨fun _ => by rw [oldOr_new _ (by omega)]; simp, fun _ hk => by simp [pubT] at hk, fun _ hk => by simp [pubT] at hk, fun _ hk => by simp [pubT] at hk⟩
      · rw [show (((L.length : Int) + 4) - L.length - 1).toNat = 3 by omega] at hn
        simp only [List.getElem?_cons_succ, List.getElem?_cons_zero, Option.some.injEq] at hn
        subst hn
        exact ⟨fun _ => by rw [oldOr_new _ (by omega)]; simp, fun _ hk => by simp [hasT] at hk, fun _ hk => by simp [hasT] at hk, fun _ hk => by simp [hasT] at hk⟩
end
end Go.Proofs.Ytbaliaodioflfaa
