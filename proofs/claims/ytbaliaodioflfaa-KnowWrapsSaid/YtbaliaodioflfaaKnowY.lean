/-
  Who can make what two new secrets share, and the secret in a new box. For every list of terms.
-/
import Derived.Test.YtbaliaodioflfaaKnowX
namespace Go.Proofs.Ytbaliaodioflfaa

section
variable {L : List T} {K : Int → Prop} {dh kem : Bool}
theorem mkB_non {X : List T} {S : Int → Bool} (n : Int) : mkB X dh kem S (nonT n) = false := by simp [mkB, nonT]
theorem mkB_pub {X : List T} {S : Int → Bool} (n : Int) : mkB X dh kem S (pubT n) = S n := by simp [mkB, pubT]
theorem mkB_kpu {X : List T} {S : Int → Bool} (n : Int) : mkB X dh kem S (kpuT n) = S n := by simp [mkB, kpuT]
theorem mkB_box {X : List T} {S : Int → Bool} (a b : Int) : mkB X dh kem S (boxT a b) = (S b && (S a || S (nm X (kpuT a)))) := by simp [mkB, boxT]
theorem mkB_sha {X : List T} {S : Int → Bool} (a b : Int) : mkB X dh kem S (shaT a b) = ((S a && (S b || S (nm X (pubT b)))) || (S b && (S a || S (nm X (pubT a)))) || (dh && S (nm X (pubT a)) && S (nm X (pubT b)))) := by simp [mkB, shaT]
theorem mkB_kem {X : List T} {S : Int → Bool} (a b : Int) : mkB X dh kem S (kemT a b) = ((S b && (S a || S (nm X (kpuT a)))) || (S (nm X (boxT a b)) && (kem || S a))) := by simp [mkB, kemT]

theorem shares_no {u v : Int} (g : Good (L ++ [nonT u, nonT v, pubT ((L.length : Int) + 1), pubT ((L.length : Int) + 2), shaT ((L.length : Int) + 1) ((L.length : Int) + 2)])) (hK : ∀ x, K x → (1 ≤ x ∧ x ≤ L.length) ∨ x = ((L.length : Int) + 3)) : ¬ Der (L ++ [nonT u, nonT v, pubT ((L.length : Int) + 1), pubT ((L.length : Int) + 2), shaT ((L.length : Int) + 1) ((L.length : Int) + 2)]) dh kem K ((L.length : Int) + 5) := by
  intro h
  have o1 : oldOr L.length (fun y => decide (y = ((L.length : Int) + 3))) ((L.length : Int) + 1) = false := by rw [oldOr_new _ (by omega)]; simp; try omega
  have o2 : oldOr L.length (fun y => decide (y = ((L.length : Int) + 3))) ((L.length : Int) + 2) = false := by rw [oldOr_new _ (by omega)]; simp; try omega
  have o3 : oldOr L.length (fun y => decide (y = ((L.length : Int) + 3))) ((L.length : Int) + 3) = true := by rw [oldOr_new _ (by omega)]; simp
  have o4 : oldOr L.length (fun y => decide (y = ((L.length : Int) + 3))) ((L.length : Int) + 4) = false := by rw [oldOr_new _ (by omega)]; simp; try omega
  have o5 : oldOr L.length (fun y => decide (y = ((L.length : Int) + 3))) ((L.length : Int) + 5) = false := by rw [oldOr_new _ (by omega)]; simp; try omega
  have f0 : nm (L ++ [nonT u, nonT v, pubT ((L.length : Int) + 1), pubT ((L.length : Int) + 2), shaT ((L.length : Int) + 1) ((L.length : Int) + 2)]) (pubT ((L.length : Int) + 1)) = ((L.length : Int) + 3) := (find_new g (i := 2) rfl).trans (by omega)
  have f1 : nm (L ++ [nonT u, nonT v, pubT ((L.length : Int) + 1), pubT ((L.length : Int) + 2), shaT ((L.length : Int) + 1) ((L.length : Int) + 2)]) (pubT ((L.length : Int) + 2)) = ((L.length : Int) + 4) := (find_new g (i := 3) rfl).trans (by omega)
  have := der_sub (oldOr L.length (fun y => decide (y = ((L.length : Int) + 3)))) (fun x hx => by
    rcases hK x hx with h | h
    · exact oldOr_old x h.1 h.2
    · rw [oldOr_new x (by omega)]; simpa using h) (fun z t hat => ?_) h
  · rw [o5] at this
    cases this
  · by_cases hz : z ≤ L.length
    · exact clo_old g oldOr_old hat hz
    · have hn := at_new hat (by omega)
      have hh := hat.hi
      simp at hh
      have hc : z = ((L.length : Int) + 1) ∨ z = ((L.length : Int) + 2) ∨ z = ((L.length : Int) + 3) ∨ z = ((L.length : Int) + 4) ∨ z = ((L.length : Int) + 5) := by omega
      rcases hc with rfl | rfl | rfl | rfl | rfl
      · rw [show (((L.length : Int) + 1) - L.length - 1).toNat = 0 by omega] at hn
        simp only [List.getElem?_cons_zero, Option.some.injEq] at hn
        subst hn
        refine ⟨fun h => ?_, fun h => ?_, fun h => ?_, fun h => ?_⟩
        · rw [mkB_non] at h; cases h
        all_goals
          rw [o1] at h
          cases h
      · rw [show (((L.length : Int) + 2) - L.length - 1).toNat = 1 by omega] at hn
        simp only [List.getElem?_cons_succ, List.getElem?_cons_zero, Option.some.injEq] at hn
        subst hn
        refine ⟨fun h => ?_, fun h => ?_, fun h => ?_, fun h => ?_⟩
        · rw [mkB_non] at h; cases h
        all_goals
          rw [o2] at h
          cases h
      · rw [show (((L.length : Int) + 3) - L.length - 1).toNat = 2 by omega] at hn
        simp only [List.getElem?_cons_succ, List.getElem?_cons_zero, Option.some.injEq] at hn
        subst hn
        exact ⟨fun _ => o3, fun _ hk => by simp [pubT] at hk, fun _ hk => by simp [pubT] at hk, fun _ hk => by simp [pubT] at hk⟩
      · rw [show (((L.length : Int) + 4) - L.length - 1).toNat = 3 by omega] at hn
        simp only [List.getElem?_cons_succ, List.getElem?_cons_zero, Option.some.injEq] at hn
        subst hn
        refine ⟨fun h => ?_, fun h => ?_, fun h => ?_, fun h => ?_⟩
        · rw [mkB_pub, o2] at h; cases h
        all_goals
          rw [o4] at h
          cases h
      · rw [show (((L.length : Int) + 5) - L.length - 1).toNat = 4 by omega] at hn
        simp only [List.getElem?_cons_succ, List.getElem?_cons_zero, Option.some.injEq] at hn
        subst hn
        refine ⟨fun h => ?_, fun h => ?_, fun h => ?_, fun h => ?_⟩
        · rw [mkB_sha, o1, o2, f0, f1, o3, o4] at h; simp at h
        all_goals
          rw [o5] at h
          cases h

theorem shares_cant {u v : Int} (g : Good (L ++ [nonT u, nonT v, pubT ((L.length : Int) + 1), pubT ((L.length : Int) + 2), shaT ((L.length : Int) + 1) ((L.length : Int) + 2)])) (hK : ∀ x, K x → (1 ≤ x ∧ x ≤ L.length) ∨ x = ((L.length : Int) + 3) ∨ x = ((L.length : Int) + 4)) : ¬ Der (L ++ [nonT u, nonT v, pubT ((L.length : Int) + 1), pubT ((L.length : Int) + 2), shaT ((L.length : Int) + 1) ((L.length : Int) + 2)]) false kem K ((L.length : Int) + 5) := by
  intro h
  have o1 : oldOr L.length (fun y => decide (y = ((L.length : Int) + 3) ∨ y = ((L.length : Int) + 4))) ((L.length : Int) + 1) = false := by rw [oldOr_new _ (by omega)]; simp; try omega
  have o2 : oldOr L.length (fun y => decide (y = ((L.length : Int) + 3) ∨ y = ((L.length : Int) + 4))) ((L.length : Int) + 2) = false := by rw [oldOr_new _ (by omega)]; simp; try omega
  have o3 : oldOr L.length (fun y => decide (y = ((L.length : Int) + 3) ∨ y = ((L.length : Int) + 4))) ((L.length : Int) + 3) = true := by rw [oldOr_new _ (by omega)]; simp
  have o4 : oldOr L.length (fun y => decide (y = ((L.length : Int) + 3) ∨ y = ((L.length : Int) + 4))) ((L.length : Int) + 4) = true := by rw [oldOr_new _ (by omega)]; simp
  have o5 : oldOr L.length (fun y => decide (y = ((L.length : Int) + 3) ∨ y = ((L.length : Int) + 4))) ((L.length : Int) + 5) = false := by rw [oldOr_new _ (by omega)]; simp; try omega
  have f0 : nm (L ++ [nonT u, nonT v, pubT ((L.length : Int) + 1), pubT ((L.length : Int) + 2), shaT ((L.length : Int) + 1) ((L.length : Int) + 2)]) (pubT ((L.length : Int) + 1)) = ((L.length : Int) + 3) := (find_new g (i := 2) rfl).trans (by omega)
  have f1 : nm (L ++ [nonT u, nonT v, pubT ((L.length : Int) + 1), pubT ((L.length : Int) + 2), shaT ((L.length : Int) + 1) ((L.length : Int) + 2)]) (pubT ((L.length : Int) + 2)) = ((L.length : Int) + 4) := (find_new g (i := 3) rfl).trans (by omega)
  have := der_sub (oldOr L.length (fun y => decide (y = ((L.length : Int) + 3) ∨ y = ((L.length : Int) + 4)))) (fun x hx => by
    rcases hK x hx with h | h
    · exact oldOr_old x h.1 h.2
    · rw [oldOr_new x (by omega)]; simpa using h) (fun z t hat => ?_) h
  · rw [o5] at this
    cases this
  · by_cases hz : z ≤ L.length
    · exact clo_old g oldOr_old hat hz
    · have hn := at_new hat (by omega)
      have hh := hat.hi
      simp at hh
      have hc : z = ((L.length : Int) + 1) ∨ z = ((L.length : Int) + 2) ∨ z = ((L.length : Int) + 3) ∨ z = ((L.length : Int) + 4) ∨ z = ((L.length : Int) + 5) := by omega
      rcases hc with rfl | rfl | rfl | rfl | rfl
      · rw [show (((L.length : Int) + 1) - L.length - 1).toNat = 0 by omega] at hn
        simp only [List.getElem?_cons_zero, Option.some.injEq] at hn
        subst hn
        refine ⟨fun h => ?_, fun h => ?_, fun h => ?_, fun h => ?_⟩
        · rw [mkB_non] at h; cases h
        all_goals
          rw [o1] at h
          cases h
      · rw [show (((L.length : Int) + 2) - L.length - 1).toNat = 1 by omega] at hn
        simp only [List.getElem?_cons_succ, List.getElem?_cons_zero, Option.some.injEq] at hn
        subst hn
        refine ⟨fun h => ?_, fun h => ?_, fun h => ?_, fun h => ?_⟩
        · rw [mkB_non] at h; cases h
        all_goals
          rw [o2] at h
          cases h
      · rw [show (((L.length : Int) + 3) - L.length - 1).toNat = 2 by omega] at hn
        simp only [List.getElem?_cons_succ, List.getElem?_cons_zero, Option.some.injEq] at hn
        subst hn
        exact ⟨fun _ => o3, fun _ hk => by simp [pubT] at hk, fun _ hk => by simp [pubT] at hk, fun _ hk => by simp [pubT] at hk⟩
      · rw [show (((L.length : Int) + 4) - L.length - 1).toNat = 3 by omega] at hn
        simp only [List.getElem?_cons_succ, List.getElem?_cons_zero, Option.some.injEq] at hn
        subst hn
        exact ⟨fun _ => o4, fun _ hk => by simp [pubT] at hk, fun _ hk => by simp [pubT] at hk, fun _ hk => by simp [pubT] at hk⟩
      · rw [show (((L.length : Int) + 5) - L.length - 1).toNat = 4 by omega] at hn
        simp only [List.getElem?_cons_succ, List.getElem?_cons_zero, Option.some.injEq] at hn
        subst hn
        refine ⟨fun h => ?_, fun h => ?_, fun h => ?_, fun h => ?_⟩
        · rw [mkB_sha, o1, o2, f0, f1, o3, o4] at h; simp at h
        all_goals
          rw [o5] at h
          cases h

theorem wraps_no {u v : Int} (g : Good (L ++ [nonT u, nonT v, kpuT ((L.length : Int) + 1), boxT ((L.length : Int) + 1) ((L.length : Int) + 2), kemT ((L.length : Int) + 1) ((L.length : Int) + 2)])) (hK : ∀ x, K x → (1 ≤ x ∧ x ≤ L.length) ∨ x = ((L.length : Int) + 3)) : ¬ Der (L ++ [nonT u, nonT v, kpuT ((L.length : Int) + 1), boxT ((L.length : Int) + 1) ((L.length : Int) + 2), kemT ((L.length : Int) + 1) ((L.length : Int) + 2)]) dh kem K ((L.length : Int) + 5) := by
  intro h
  have o1 : oldOr L.length (fun y => decide (y = ((L.length : Int) + 3))) ((L.length : Int) + 1) = false := by rw [oldOr_new _ (by omega)]; simp; try omega
  have o2 : oldOr L.length (fun y => decide (y = ((L.length : Int) + 3))) ((L.length : Int) + 2) = false := by rw [oldOr_new _ (by omega)]; simp; try omega
  have o3 : oldOr L.length (fun y => decide (y = ((L.length : Int) + 3))) ((L.length : Int) + 3) = true := by rw [oldOr_new _ (by omega)]; simp
  have o4 : oldOr L.length (fun y => decide (y = ((L.length : Int) + 3))) ((L.length : Int) + 4) = false := by rw [oldOr_new _ (by omega)]; simp; try omega
  have o5 : oldOr L.length (fun y => decide (y = ((L.length : Int) + 3))) ((L.length : Int) + 5) = false := by rw [oldOr_new _ (by omega)]; simp; try omega
  have f0 : nm (L ++ [nonT u, nonT v, kpuT ((L.length : Int) + 1), boxT ((L.length : Int) + 1) ((L.length : Int) + 2), kemT ((L.length : Int) + 1) ((L.length : Int) + 2)]) (kpuT ((L.length : Int) + 1)) = ((L.length : Int) + 3) := (find_new g (i := 2) rfl).trans (by omega)
  have f1 : nm (L ++ [nonT u, nonT v, kpuT ((L.length : Int) + 1), boxT ((L.length : Int) + 1) ((L.length : Int) + 2), kemT ((L.length : Int) + 1) ((L.length : Int) + 2)]) (boxT ((L.length : Int) + 1) ((L.length : Int) + 2)) = ((L.length : Int) + 4) := (find_new g (i := 3) rfl).trans (by omega)
  have := der_sub (oldOr L.length (fun y => decide (y = ((L.length : Int) + 3)))) (fun x hx => by
    rcases hK x hx with h | h
    · exact oldOr_old x h.1 h.2
    · rw [oldOr_new x (by omega)]; simpa using h) (fun z t hat => ?_) h
  · rw [o5] at this
    cases this
  · by_cases hz : z ≤ L.length
    · exact clo_old g oldOr_old hat hz
    · have hn := at_new hat (by omega)
      have hh := hat.hi
      simp at hh
      have hc : z = ((L.length : Int) + 1) ∨ z = ((L.length : Int) + 2) ∨ z = ((L.length : Int) + 3) ∨ z = ((L.length : Int) + 4) ∨ z = ((L.length : Int) + 5) := by omega
      rcases hc with rfl | rfl | rfl | rfl | rfl
      · rw [show (((L.length : Int) + 1) - L.length - 1).toNat = 0 by omega] at hn
        simp only [List.getElem?_cons_zero, Option.some.injEq] at hn
        subst hn
        refine ⟨fun h => ?_, fun h => ?_, fun h => ?_, fun h => ?_⟩
        · rw [mkB_non] at h; cases h
        all_goals
          rw [o1] at h
          cases h
      · rw [show (((L.length : Int) + 2) - L.length - 1).toNat = 1 by omega] at hn
        simp only [List.getElem?_cons_succ, List.getElem?_cons_zero, Option.some.injEq] at hn
        subst hn
        refine ⟨fun h => ?_, fun h => ?_, fun h => ?_, fun h => ?_⟩
        · rw [mkB_non] at h; cases h
        all_goals
          rw [o2] at h
          cases h
      · rw [show (((L.length : Int) + 3) - L.length - 1).toNat = 2 by omega] at hn
        simp only [List.getElem?_cons_succ, List.getElem?_cons_zero, Option.some.injEq] at hn
        subst hn
        exact ⟨fun _ => o3, fun _ hk => by simp [kpuT] at hk, fun _ hk => by simp [kpuT] at hk, fun _ hk => by simp [kpuT] at hk⟩
      · rw [show (((L.length : Int) + 4) - L.length - 1).toNat = 3 by omega] at hn
        simp only [List.getElem?_cons_succ, List.getElem?_cons_zero, Option.some.injEq] at hn
        subst hn
        refine ⟨fun h => ?_, fun h => ?_, fun h => ?_, fun h => ?_⟩
        · rw [mkB_box, o2] at h; simp at h
        all_goals
          rw [o4] at h
          cases h
      · rw [show (((L.length : Int) + 5) - L.length - 1).toNat = 4 by omega] at hn
        simp only [List.getElem?_cons_succ, List.getElem?_cons_zero, Option.some.injEq] at hn
        subst hn
        refine ⟨fun h => ?_, fun h => ?_, fun h => ?_, fun h => ?_⟩
        · rw [mkB_kem, o1, o2, f0, f1, o3, o4] at h; simp at h
        all_goals
          rw [o5] at h
          cases h

theorem wraps_cant {u v : Int} (g : Good (L ++ [nonT u, nonT v, kpuT ((L.length : Int) + 1), boxT ((L.length : Int) + 1) ((L.length : Int) + 2), kemT ((L.length : Int) + 1) ((L.length : Int) + 2)])) (hK : ∀ x, K x → (1 ≤ x ∧ x ≤ L.length) ∨ x = ((L.length : Int) + 3) ∨ x = ((L.length : Int) + 4)) : ¬ Der (L ++ [nonT u, nonT v, kpuT ((L.length : Int) + 1), boxT ((L.length : Int) + 1) ((L.length : Int) + 2), kemT ((L.length : Int) + 1) ((L.length : Int) + 2)]) dh false K ((L.length : Int) + 5) := by
  intro h
  have o1 : oldOr L.length (fun y => decide (y = ((L.length : Int) + 3) ∨ y = ((L.length : Int) + 4))) ((L.length : Int) + 1) = false := by rw [oldOr_new _ (by omega)]; simp; try omega
  have o2 : oldOr L.length (fun y => decide (y = ((L.length : Int) + 3) ∨ y = ((L.length : Int) + 4))) ((L.length : Int) + 2) = false := by rw [oldOr_new _ (by omega)]; simp; try omega
  have o3 : oldOr L.length (fun y => decide (y = ((L.length : Int) + 3) ∨ y = ((L.length : Int) + 4))) ((L.length : Int) + 3) = true := by rw [oldOr_new _ (by omega)]; simp
  have o4 : oldOr L.length (fun y => decide (y = ((L.length : Int) + 3) ∨ y = ((L.length : Int) + 4))) ((L.length : Int) + 4) = true := by rw [oldOr_new _ (by omega)]; simp
  have o5 : oldOr L.length (fun y => decide (y = ((L.length : Int) + 3) ∨ y = ((L.length : Int) + 4))) ((L.length : Int) + 5) = false := by rw [oldOr_new _ (by omega)]; simp; try omega
  have f0 : nm (L ++ [nonT u, nonT v, kpuT ((L.length : Int) + 1), boxT ((L.length : Int) + 1) ((L.length : Int) + 2), kemT ((L.length : Int) + 1) ((L.length : Int) + 2)]) (kpuT ((L.length : Int) + 1)) = ((L.length : Int) + 3) := (find_new g (i := 2) rfl).trans (by omega)
  have f1 : nm (L ++ [nonT u, nonT v, kpuT ((L.length : Int) + 1), boxT ((L.length : Int) + 1) ((L.length : Int) + 2), kemT ((L.length : Int) + 1) ((L.length : Int) + 2)]) (boxT ((L.length : Int) + 1) ((L.length : Int) + 2)) = ((L.length : Int) + 4) := (find_new g (i := 3) rfl).trans (by omega)
  have := der_sub (oldOr L.length (fun y => decide (y = ((L.length : Int) + 3) ∨ y = ((L.length : Int) + 4)))) (fun x hx => by
    rcases hK x hx with h | h
    · exact oldOr_old x h.1 h.2
    · rw [oldOr_new x (by omega)]; simpa using h) (fun z t hat => ?_) h
  · rw [o5] at this
    cases this
  · by_cases hz : z ≤ L.length
    · exact clo_old g oldOr_old hat hz
    · have hn := at_new hat (by omega)
      have hh := hat.hi
      simp at hh
      have hc : z = ((L.length : Int) + 1) ∨ z = ((L.length : Int) + 2) ∨ z = ((L.length : Int) + 3) ∨ z = ((L.length : Int) + 4) ∨ z = ((L.length : Int) + 5) := by omega
      rcases hc with rfl | rfl | rfl | rfl | rfl
      · rw [show (((L.length : Int) + 1) - L.length - 1).toNat = 0 by omega] at hn
        simp only [List.getElem?_cons_zero, Option.some.injEq] at hn
        subst hn
        refine ⟨fun h => ?_, fun h => ?_, fun h => ?_, fun h => ?_⟩
        · rw [mkB_non] at h; cases h
        all_goals
          rw [o1] at h
          cases h
      · rw [show (((L.length : Int) + 2) - L.length - 1).toNat = 1 by omega] at hn
        simp only [List.getElem?_cons_succ, List.getElem?_cons_zero, Option.some.injEq] at hn
        subst hn
        refine ⟨fun h => ?_, fun h => ?_, fun h => ?_, fun h => ?_⟩
        · rw [mkB_non] at h; cases h
        all_goals
          rw [o2] at h
          cases h
      · rw [show (((L.length : Int) + 3) - L.length - 1).toNat = 2 by omega] at hn
        simp only [List.getElem?_cons_succ, List.getElem?_cons_zero, Option.some.injEq] at hn
        subst hn
        exact ⟨fun _ => o3, fun _ hk => by simp [kpuT] at hk, fun _ hk => by simp [kpuT] at hk, fun _ hk => by simp [kpuT] at hk⟩
      · rw [show (((L.length : Int) + 4) - L.length - 1).toNat = 3 by omega] at hn
        simp only [List.getElem?_cons_succ, List.getElem?_cons_zero, Option.some.injEq] at hn
        subst hn
        exact ⟨fun _ => o4, fun _ hk => by simp [boxT] at hk, fun _ hk => by simp [boxT] at hk, fun _ hk => by simp [boxT] at hk⟩
      · rw [show (((L.length : Int) + 5) - L.length - 1).toNat = 4 by omega] at hn
        simp only [List.getElem?_cons_succ, List.getElem?_cons_zero, Option.some.injEq] at hn
        subst hn
        refine ⟨fun h => ?_, fun h => ?_, fun h => ?_, fun h => ?_⟩
        · rw [mkB_kem, o1, o2, f0, f1, o3, o4] at h; simp at h
        all_goals
          rw [o5] at h
          cases h

theorem shares_can {u v : Int} (g : Good (L ++ [nonT u, nonT v, pubT ((L.length : Int) + 1), pubT ((L.length : Int) + 2), shaT ((L.length : Int) + 1) ((L.length : Int) + 2)])) (h3 : K ((L.length : Int) + 3)) (h4 : K ((L.length : Int) + 4)) : Der (L ++ [nonT u, nonT v, pubT ((L.length : Int) + 1), pubT ((L.length : Int) + 2), shaT ((L.length : Int) + 1) ((L.length : Int) + 2)]) true kem K ((L.length : Int) + 5) := by
  have f0 : nm (L ++ [nonT u, nonT v, pubT ((L.length : Int) + 1), pubT ((L.length : Int) + 2), shaT ((L.length : Int) + 1) ((L.length : Int) + 2)]) (pubT ((L.length : Int) + 1)) = ((L.length : Int) + 3) := (find_new g (i := 2) rfl).trans (by omega)
  have f1 : nm (L ++ [nonT u, nonT v, pubT ((L.length : Int) + 1), pubT ((L.length : Int) + 2), shaT ((L.length : Int) + 1) ((L.length : Int) + 2)]) (pubT ((L.length : Int) + 2)) = ((L.length : Int) + 4) := (find_new g (i := 3) rfl).trans (by omega)
  refine .make _ (shaT ((L.length : Int) + 1) ((L.length : Int) + 2)) (fun y => decide (y = ((L.length : Int) + 3) ∨ y = ((L.length : Int) + 4))) (fun y hy => ?_) ⟨by omega, by simp, by
    rw [show (((L.length : Int) + 5) - 1).toNat = L.length + 4 by omega, List.getElem?_append_right (by omega), Nat.add_sub_cancel_left]; rfl⟩ ?_
  · simp only [decide_eq_true_eq] at hy
    rcases hy with rfl | rfl
    · exact .known _ h3
    · exact .known _ h4
  · rw [mkB_sha, f0, f1]; simp

theorem shares_one {u v : Int} (g : Good (L ++ [nonT u, nonT v, pubT ((L.length : Int) + 1), pubT ((L.length : Int) + 2), shaT ((L.length : Int) + 1) ((L.length : Int) + 2)])) (h1 : K ((L.length : Int) + 1)) (h3 : K ((L.length : Int) + 3)) (h4 : K ((L.length : Int) + 4)) : Der (L ++ [nonT u, nonT v, pubT ((L.length : Int) + 1), pubT ((L.length : Int) + 2), shaT ((L.length : Int) + 1) ((L.length : Int) + 2)]) dh kem K ((L.length : Int) + 5) := by
  have f0 : nm (L ++ [nonT u, nonT v, pubT ((L.length : Int) + 1), pubT ((L.length : Int) + 2), shaT ((L.length : Int) + 1) ((L.length : Int) + 2)]) (pubT ((L.length : Int) + 1)) = ((L.length : Int) + 3) := (find_new g (i := 2) rfl).trans (by omega)
  have f1 : nm (L ++ [nonT u, nonT v, pubT ((L.length : Int) + 1), pubT ((L.length : Int) + 2), shaT ((L.length : Int) + 1) ((L.length : Int) + 2)]) (pubT ((L.length : Int) + 2)) = ((L.length : Int) + 4) := (find_new g (i := 3) rfl).trans (by omega)
  refine .make _ (shaT ((L.length : Int) + 1) ((L.length : Int) + 2)) (fun y => decide (y = ((L.length : Int) + 1) ∨ y = ((L.length : Int) + 3) ∨ y = ((L.length : Int) + 4))) (fun y hy => ?_) ⟨by omega, by simp, by
    rw [show (((L.length : Int) + 5) - 1).toNat = L.length + 4 by omega, List.getElem?_append_right (by omega), Nat.add_sub_cancel_left]; rfl⟩ ?_
  · simp only [decide_eq_true_eq] at hy
    rcases hy with rfl | rfl | rfl
    · exact .known _ h1
    · exact .known _ h3
    · exact .known _ h4
  · rw [mkB_sha, f0, f1]; simp

theorem shares_two {u v : Int} (g : Good (L ++ [nonT u, nonT v, pubT ((L.length : Int) + 1), pubT ((L.length : Int) + 2), shaT ((L.length : Int) + 1) ((L.length : Int) + 2)])) (h2 : K ((L.length : Int) + 2)) (h3 : K ((L.length : Int) + 3)) (h4 : K ((L.length : Int) + 4)) : Der (L ++ [nonT u, nonT v, pubT ((L.length : Int) + 1), pubT ((L.length : Int) + 2), shaT ((L.length : Int) + 1) ((L.length : Int) + 2)]) dh kem K ((L.length : Int) + 5) := by
  have f0 : nm (L ++ [nonT u, nonT v, pubT ((L.length : Int) + 1), pubT ((L.length : Int) + 2), shaT ((L.length : Int) + 1) ((L.length : Int) + 2)]) (pubT ((L.length : Int) + 1)) = ((L.length : Int) + 3) := (find_new g (i := 2) rfl).trans (by omega)
  have f1 : nm (L ++ [nonT u, nonT v, pubT ((L.length : Int) + 1), pubT ((L.length : Int) + 2), shaT ((L.length : Int) + 1) ((L.length : Int) + 2)]) (pubT ((L.length : Int) + 2)) = ((L.length : Int) + 4) := (find_new g (i := 3) rfl).trans (by omega)
  refine .make _ (shaT ((L.length : Int) + 1) ((L.length : Int) + 2)) (fun y => decide (y = ((L.length : Int) + 2) ∨ y = ((L.length : Int) + 3) ∨ y = ((L.length : Int) + 4))) (fun y hy => ?_) ⟨by omega, by simp, by
    rw [show (((L.length : Int) + 5) - 1).toNat = L.length + 4 by omega, List.getElem?_append_right (by omega), Nat.add_sub_cancel_left]; rfl⟩ ?_
  · simp only [decide_eq_true_eq] at hy
    rcases hy with rfl | rfl | rfl
    · exact .known _ h2
    · exact .known _ h3
    · exact .known _ h4
  · rw [mkB_sha, f0, f1]; simp

theorem wraps_drawn {u v : Int} (g : Good (L ++ [nonT u, nonT v, kpuT ((L.length : Int) + 1), boxT ((L.length : Int) + 1) ((L.length : Int) + 2), kemT ((L.length : Int) + 1) ((L.length : Int) + 2)])) (h2 : K ((L.length : Int) + 2)) (h3 : K ((L.length : Int) + 3)) : Der (L ++ [nonT u, nonT v, kpuT ((L.length : Int) + 1), boxT ((L.length : Int) + 1) ((L.length : Int) + 2), kemT ((L.length : Int) + 1) ((L.length : Int) + 2)]) dh kem K ((L.length : Int) + 5) := by
  have f0 : nm (L ++ [nonT u, nonT v, kpuT ((L.length : Int) + 1), boxT ((L.length : Int) + 1) ((L.length : Int) + 2), kemT ((L.length : Int) + 1) ((L.length : Int) + 2)]) (kpuT ((L.length : Int) + 1)) = ((L.length : Int) + 3) := (find_new g (i := 2) rfl).trans (by omega)
  have f1 : nm (L ++ [nonT u, nonT v, kpuT ((L.length : Int) + 1), boxT ((L.length : Int) + 1) ((L.length : Int) + 2), kemT ((L.length : Int) + 1) ((L.length : Int) + 2)]) (boxT ((L.length : Int) + 1) ((L.length : Int) + 2)) = ((L.length : Int) + 4) := (find_new g (i := 3) rfl).trans (by omega)
  refine .make _ (kemT ((L.length : Int) + 1) ((L.length : Int) + 2)) (fun y => decide (y = ((L.length : Int) + 2) ∨ y = ((L.length : Int) + 3))) (fun y hy => ?_) ⟨by omega, by simp, by
    rw [show (((L.length : Int) + 5) - 1).toNat = L.length + 4 by omega, List.getElem?_append_right (by omega), Nat.add_sub_cancel_left]; rfl⟩ ?_
  · simp only [decide_eq_true_eq] at hy
    rcases hy with rfl | rfl
    · exact .known _ h2
    · exact .known _ h3
  · rw [mkB_kem, f0, f1]; simp

theorem wraps_can {u v : Int} (g : Good (L ++ [nonT u, nonT v, kpuT ((L.length : Int) + 1), boxT ((L.length : Int) + 1) ((L.length : Int) + 2), kemT ((L.length : Int) + 1) ((L.length : Int) + 2)])) (h4 : K ((L.length : Int) + 4)) : Der (L ++ [nonT u, nonT v, kpuT ((L.length : Int) + 1), boxT ((L.length : Int) + 1) ((L.length : Int) + 2), kemT ((L.length : Int) + 1) ((L.length : Int) + 2)]) dh true K ((L.length : Int) + 5) := by
  have f0 : nm (L ++ [nonT u, nonT v, kpuT ((L.length : Int) + 1), boxT ((L.length : Int) + 1) ((L.length : Int) + 2), kemT ((L.length : Int) + 1) ((L.length : Int) + 2)]) (kpuT ((L.length : Int) + 1)) = ((L.length : Int) + 3) := (find_new g (i := 2) rfl).trans (by omega)
  have f1 : nm (L ++ [nonT u, nonT v, kpuT ((L.length : Int) + 1), boxT ((L.length : Int) + 1) ((L.length : Int) + 2), kemT ((L.length : Int) + 1) ((L.length : Int) + 2)]) (boxT ((L.length : Int) + 1) ((L.length : Int) + 2)) = ((L.length : Int) + 4) := (find_new g (i := 3) rfl).trans (by omega)
  refine .make _ (kemT ((L.length : Int) + 1) ((L.length : Int) + 2)) (fun y => decide (y = ((L.length : Int) + 4))) (fun y hy => ?_) ⟨by omega, by simp, by
    rw [show (((L.length : Int) + 5) - 1).toNat = L.length + 4 by omega, List.getElem?_append_right (by omega), Nat.add_sub_cancel_left]; rfl⟩ ?_
  · simp only [decide_eq_true_eq] at hy
    rcases hy with rfl
    · exact .known _ h4
  · rw [mkB_kem, f0, f1]; simp

theorem wraps_yes {u v : Int} (g : Good (L ++ [nonT u, nonT v, kpuT ((L.length : Int) + 1), boxT ((L.length : Int) + 1) ((L.length : Int) + 2), kemT ((L.length : Int) + 1) ((L.length : Int) + 2)])) (h1 : K ((L.length : Int) + 1)) (h4 : K ((L.length : Int) + 4)) : Der (L ++ [nonT u, nonT v, kpuT ((L.length : Int) + 1), boxT ((L.length : Int) + 1) ((L.length : Int) + 2), kemT ((L.length : Int) + 1) ((L.length : Int) + 2)]) dh kem K ((L.length : Int) + 5) := by
  have f0 : nm (L ++ [nonT u, nonT v, kpuT ((L.length : Int) + 1), boxT ((L.length : Int) + 1) ((L.length : Int) + 2), kemT ((L.length : Int) + 1) ((L.length : Int) + 2)]) (kpuT ((L.length : Int) + 1)) = ((L.length : Int) + 3) := (find_new g (i := 2) rfl).trans (by omega)
  have f1 : nm (L ++ [nonT u, nonT v, kpuT ((L.length : Int) + 1), boxT ((L.length : Int) + 1) ((L.length : Int) + 2), kemT ((L.length : Int) + 1) ((L.length : Int) + 2)]) (boxT ((L.length : Int) + 1) ((L.length : Int) + 2)) = ((L.length : Int) + 4) := (find_new g (i := 3) rfl).trans (by omega)
  refine .make _ (kemT ((L.length : Int) + 1) ((L.length : Int) + 2)) (fun y => decide (y = ((L.length : Int) + 1) ∨ y = ((L.length : Int) + 4))) (fun y hy => ?_) ⟨by omega, by simp, by
    rw [show (((L.length : Int) + 5) - 1).toNat = L.length + 4 by omega, List.getElem?_append_right (by omega), Nat.add_sub_cancel_left]; rfl⟩ ?_
  · simp only [decide_eq_true_eq] at hy
    rcases hy with rfl | rfl
    · exact .known _ h1
    · exact .known _ h4
  · rw [mkB_kem, f0, f1]; simp

end
end Go.Proofs.Ytbaliaodioflfaa
