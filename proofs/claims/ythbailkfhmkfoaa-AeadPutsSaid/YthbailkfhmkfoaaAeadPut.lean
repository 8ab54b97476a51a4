/-
  put of layer 5's statements. For every store and every four bytes.
-/
import Derived.Test.YthbailkfhmkfoaaAeadRoom
namespace Go.Proofs.Ythbailkfhmkfoaa
open Go.RowKit

/-- The term that four bytes name. -/
def fourT (x0 x1 x2 x3 : Int) : T := seaT (1 + x0 % 20) (x3 % 4) (1 + x1 % 20) (1 + x2 % 20)

theorem put_or {m : Int} {L : List T} (t : T) (g : Good L) (hr : (L.length : Int) < m) : put m L t = (0, 1, L) ∨ ∃ i L', put m L t = (i, 0, L') ∧ At L' i t ∧ Ext L L' ∧ Good L' ∧ L'.length ≤ L.length + 1 := by
  by_cases hm : t.may L.length
  · exact .inr (put_ok g hm hr)
  · exact .inl (put_bad hm)

set_option maxRecDepth 100000 in
set_option maxHeartbeats 2000000 in
theorem put5_calls {W w : World} {Rs : List Res} {b : Nat} {L : List T} {m : Int} (x0 x1 x2 x3 : Int) (h0 : 0 ≤ x0 ∧ x0 ≤ 255) (h1 : 0 ≤ x1 ∧ x1 ≤ 255) (h2 : 0 ≤ x2 ∧ x2 ≤ 255) (h3 : 0 ≤ x3 ∧ x3 ≤ 255) {r1 r2 : Int} {L2 : List T} (hq : Hid (put m L (fourT x0 x1 x2 x3) = (r1, r2, L2))) (h : Hd W w (Sto b L m :: Rs)) :
    Calls Try.prog 57 #[.pointer (some ⟨b, 0, none⟩), .agg #[.int .u8 x0, .int .u8 x1, .int .u8 x2, .int .u8 x3]] w fun e w' => e = .returned (.tuple #[.int .i64 r1, .int .i64 r2]) ∧ Hd W w' (Sto b L2 m :: Rs) := by
  have H := hid h
  have q0 : 0 ≤ x0 % 20 ∧ x0 % 20 < 20 := by omega
  have q1 : 0 ≤ x1 % 20 ∧ x1 % 20 < 20 := by omega
  have q2 : 0 ≤ x2 % 20 ∧ x2 % 20 < 20 := by omega
  have q3 : 0 ≤ x3 % 4 ∧ x3 % 4 < 4 := by omega
  clear h
  obtain ⟨_, _⟩ := h0
  obtain ⟨_, _⟩ := h1
  obtain ⟨_, _⟩ := h2
  obtain ⟨_, _⟩ := h3
  obtain ⟨_, _⟩ := q0
  obtain ⟨_, _⟩ := q1
  obtain ⟨_, _⟩ := q2
  obtain ⟨_, _⟩ := q3
  go_enter Try.func57, Try.ntmps57
  go_wp2_with fail
  refine (seal_c _ _ _ _ hq H.out.al).mono ?_
  rintro e w1 ⟨rfl, h1⟩
  have H1 := hid h1
  clear h1
  go_wp2_with fail
  go_ret2
  exact ⟨rfl, H1.out⟩
end Go.Proofs.Ythbailkfhmkfoaa
