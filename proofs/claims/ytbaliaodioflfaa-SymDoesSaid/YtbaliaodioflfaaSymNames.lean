/-
  What SymDoes calls besides: names. For every number.
-/
import Derived.Test.YtbaliaodioflfaaSymDoesA
import Derived.Laws.BitsLemmas
namespace Go.Proofs.Ytbaliaodioflfaa
open Go.RowKit

theorem i64_and3 (n : Int) : bits .and .i64 n 3 = n % 4 := by
  have h127 : (BitVec.ofInt 64 3).toNat = 2 ^ 2 - 1 := by decide
  have key : (BitVec.ofInt 64 n &&& BitVec.ofInt 64 3).toNat = (n % ((2 ^ 64 : Nat) : Int)).toNat % 2 ^ 2 := by
    rw [BitVec.toNat_and, BitVec.toNat_ofInt, h127, Nat.and_two_pow_sub_one_eq_mod]
  show IntKind.i64.wrap ((BitVec.ofInt 64 n &&& BitVec.ofInt 64 3).toNat : Nat) = n % 4
  rw [key, IntKind.wrap_i64]
  omega
theorem i64_and7 (n : Int) : bits .and .i64 n 7 = n % 8 := by
  have h127 : (BitVec.ofInt 64 7).toNat = 2 ^ 3 - 1 := by decide
  have key : (BitVec.ofInt 64 n &&& BitVec.ofInt 64 7).toNat = (n % ((2 ^ 64 : Nat) : Int)).toNat % 2 ^ 3 := by
    rw [BitVec.toNat_and, BitVec.toNat_ofInt, h127, Nat.and_two_pow_sub_one_eq_mod]
  show IntKind.i64.wrap ((BitVec.ofInt 64 n &&& BitVec.ofInt 64 7).toNat : Nat) = n % 8
  rw [key, IntKind.wrap_i64]
  omega

/-- The letters of a name ahead of its tail. -/
def nm7 (r : Int) : ByteArray := if r = 0 then ⟨#[]⟩ else if r = 1 then ⟨#[120]⟩ else if r = 2 then ⟨#[116, 117, 110, 110, 101, 108]⟩ else ⟨#[121, 122]⟩
def grow7 (s : ByteArray) : Nat → ByteArray
  | 0 => s
  | k + 1 => grow7 s k ++ ⟨#[97]⟩
def names7 (n : Int) : ByteArray := if bits .and .i64 n 28 = 28 then grow7 (nm7 (n % 4)) 1001 else nm7 (n % 4)
theorem grow7_size (s : ByteArray) : ∀ k, (grow7 s k).size = s.size + k
  | 0 => rfl
  | k + 1 => by rw [grow7, ByteArray.size_append, grow7_size s k]; rfl
theorem nm7_size (r : Int) : (nm7 r).size ≤ 6 := by unfold nm7; split <;> (try split) <;> (try split) <;> decide

set_option maxRecDepth 100000 in
set_option maxHeartbeats 4000000 in
theorem names7_calls {W w : World} {Rs : List Res} (n : Int) (hd : Hd W w Rs) :
    Calls Try.prog 25 #[.int .i64 n] w fun e w' => e = .returned (.string (names7 n)) ∧ Hd W w' Rs := by
  have H := hid hd
  clear hd
  have h3 := i64_and3 n
  obtain ⟨S, hS⟩ : ∃ S, nm7 (n % 4) = S := ⟨_, rfl⟩
  have hsz : S.size ≤ 6 := hS ▸ nm7_size _
  obtain ⟨B, hB⟩ : ∃ B, bits .and .i64 n 28 = B := ⟨_, rfl⟩
  have HN : Hid (names7 n = if B = 28 then grow7 S 1001 else S) := hid (by unfold names7; rw [hS, hB])
  rcases (show n % 4 = 0 ∨ n % 4 = 1 ∨ n % 4 = 2 ∨ n % 4 = 3 by omega) with hr | hr | hr | hr
  all_goals
    rw [hr] at h3 hS
    simp only [nm7] at hS
    simp (decide := true) only [if_true, if_false] at hS
    clear hr
    go_enter Try.func25, Try.ntmps25
    have HB := hid hB
    have hnb : decide (B = 28) = (B == 28) := by by_cases h : B = 28 <;> simp [h]
    go_wp2_with fail
    go_loopw [3, 4] (fun s i wr => ∃ k : Nat, k ≤ 1001 ∧ (B ≠ 28 → k = 0) ∧ s = .string (grow7 S k) ∧ i = .int .i64 k ∧ Hid (Hd W wr Rs)) (fun _ i _ => 1001 - (intOf i).toNat)
    case atStart => exact ⟨0, Nat.zero_le _, fun _ => rfl, by rw [grow7, ← hS], rfl, hid H.out.al⟩
    case round =>
      clear H
      obtain ⟨k, hk, hB0, rfl, rfl, H⟩ := hrel
      have hg := grow7_size S k
      by_cases h28 : B = 28
      · have b1 : (B == 28) = true := by simpa using h28
        by_cases hlt : k < 1001
        · have d1 : decide ((k : Int) < 1001) = true := by simp; omega
          go_wp2_with fail
          go_roundw
          case rel => exact ⟨k + 1, by omega, fun h => absurd h28 h, rfl, by go_num, H⟩
          case measure => simp [intOf]; omega
        · have d1 : decide ((k : Int) < 1001) = false := by simp; omega
          obtain rfl : k = 1001 := by omega
          go_wp2_with fail
          go_ret
          rw [HN.out, if_pos h28]
          exact ⟨rfl, H.out⟩
      · have b1 : (B == 28) = false := by simpa using h28
        obtain rfl := hB0 h28
        go_wp2_with fail
        go_ret
        rw [HN.out, if_neg h28]
        exact ⟨rfl, H.out⟩
end Go.Proofs.Ytbaliaodioflfaa
