/-
  Plain laws on what can be made. For every list of terms.
-/
import Derived.Test.YtbaliaodioflfaaKnowH
namespace Go.Proofs.Ytbaliaodioflfaa

section
variable {L : List T} {dh kem dh' kem' : Bool} {K K' : Int → Prop} {x : Int}

theorem allOf_congr (h : ∀ x, Der L dh kem K x ↔ Der L dh' kem' K' x) : allOf L dh kem K = allOf L dh' kem' K' := by
  unfold allOf
  refine List.filter_congr fun x _ => ?_
  rw [Bool.eq_iff_iff]
  simp [h]
theorem allOf_in : ∀ x ∈ allOf L dh kem K, 1 ≤ x ∧ x ≤ L.length := fun _ h => (mem_allOf.1 h).1
theorem allOf_len : (allOf L dh kem K).length ≤ L.length := by
  unfold allOf
  refine Nat.le_trans (List.length_filter_le _ _) ?_
  simp
theorem der_of_all (h : Der L dh kem (fun x => x ∈ allOf L dh kem K) x) : Der L dh kem K x := h.mono id id fun _ hx => (mem_allOf.1 hx).2
theorem allOf_all (g : Good L) (hK : ∀ x, K x → 1 ≤ x ∧ x ≤ L.length) : allOf L dh kem K = allOf L dh kem (fun x => x ∈ allOf L dh kem K) :=
  allOf_congr fun x => ⟨fun h => .known x (mem_allOf.2 ⟨h.name g hK, h⟩), der_of_all⟩
theorem within_all (hd : dh = true → dh' = true) (hk : kem = true → kem' = true) (h : ∀ x, K x → Der L dh' kem' K' x) : withinB (allOf L dh kem K) (allOf L dh' kem' K') = true :=
  decide_eq_true fun _ hx => mem_allOf.2 ⟨(mem_allOf.1 hx).1, (mem_allOf.1 hx).2.mono hd hk h⟩
theorem within_known {ks : List Int} (hin : ∀ x ∈ ks, 1 ≤ x ∧ x ≤ L.length) : withinB ks (allOf L dh kem (fun x => x ∈ ks)) = true :=
  decide_eq_true fun x hx => mem_allOf.2 ⟨hin x hx, .known x hx⟩
/-- A set that is closed and holds what is known holds all that can be made. -/
theorem der_sub (P : Int → Bool) (hK : ∀ x, K x → P x = true) (c : ∀ x t, At L x t → CloAt L dh kem P x t) (h : Der L dh kem K x) : P x = true := der_of_clo c hK h
theorem allOf_rises : (allOf L dh kem K).Pairwise (· < ·) := by
  unfold allOf
  refine List.Pairwise.filter _ ?_
  rw [List.pairwise_map]
  exact List.pairwise_lt_range.imp fun h => by omega
theorem withinB_one {y : Int} {l : List Int} : withinB [y] l = decide (y ∈ l) := by simp [withinB]
end
end Go.Proofs.Ytbaliaodioflfaa
