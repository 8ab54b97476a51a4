/-
  Small laws for the statements of layer 16.
-/
import Derived.Test.YtbaliaodioflfaaSkipR
namespace Go.Proofs.Ytbaliaodioflfaa
open Go.RowKit

theorem i64_and3' (n : Int) : bits .and .i64 n 3 = n % 4 := by
  have h127 : (BitVec.ofInt 64 3).toNat = 2 ^ 2 - 1 := by decide
  have key : (BitVec.ofInt 64 n &&& BitVec.ofInt 64 3).toNat = (n % ((2 ^ 64 : Nat) : Int)).toNat % 2 ^ 2 := by
    rw [BitVec.toNat_and, BitVec.toNat_ofInt, h127, Nat.and_two_pow_sub_one_eq_mod]
  show IntKind.i64.wrap ((BitVec.ofInt 64 n &&& BitVec.ofInt 64 3).toNat : Nat) = n % 4
  rw [key, IntKind.wrap_i64]
  omega

theorem Hd.newCa {W w : World} {Rs : List Res} {E : TypeId} (h : Hd W w Rs) : Hd W (w.alloc (.cells #[] E (0, 0))) (CaR (.slice (some ⟨w.heap.size, 0, none⟩) 0 0) [] :: Rs) := by
  have hk : (w.alloc (.cells #[] E (0, 0))).heap[w.heap.size]? = some (.cells #[] E (0, 0)) := heap_at rfl
  refine h.add ((Below.refl _ _).alloc (Nat.le_refl _) _) (fun k => if k = w.heap.size then some (.cells #[] E (0, 0)) else none) (.inr ⟨w.heap.size, 0, 0, #[], E, rfl, fun i e hi => by simp at hi, rfl⟩) (fun k o hk2 => ?_) (fun k hk2 => ?_)
  · dsimp only at hk2
    split at hk2
    · rename_i e1; subst e1; rw [hk]; exact hk2
    · cases hk2
  · split at hk2
    · omega
    · exact absurd rfl hk2

theorem Hd.dropEnd {W w : World} {Rs Ss : List Res} (h : Hd W w (Rs ++ Ss)) : Hd W w Rs := by
  have key : ∀ (Rs : List Res) (u : Nat → Prop), Lies w u (Rs ++ Ss) → Lies w u Rs := by
    intro Rs
    induction Rs with
    | nil => exact fun _ _ => trivial
    | cons x Rs ih => exact fun u h => Lies.cons_mono (fun v => ih v) h
  exact ⟨h.below, key Rs _ h.lies⟩
theorem rises_put {es E2 : List En} {e g : En} {b : Bool} (h : Rises es) (h4 : es.length ≤ 4) (hk : kPut es e = (E2, g, b)) : Rises E2 ∧ E2.length ≤ 4 ∧ rPut es e = (E2, g, b) := by
  have h1 := kPut_rises h h4 e
  have h2 := kPut_length h h4 e
  rw [hk] at h1 h2
  exact ⟨h1, h2, by rw [← kPut_eq h h4, hk]⟩
theorem rises_drop {es E2 : List En} {n : Int} (h : Rises es) (h4 : es.length ≤ 4) (hk : kDrop es n = E2) : Rises E2 ∧ E2.length ≤ 4 ∧ without es n = E2 := by
  have h1 := kDrop_rises h n
  have h2 := kDrop_length es n
  rw [hk] at h1 h2
  exact ⟨h1, by omega, by rw [← kDrop_eq h, hk]⟩
end Go.Proofs.Ytbaliaodioflfaa
