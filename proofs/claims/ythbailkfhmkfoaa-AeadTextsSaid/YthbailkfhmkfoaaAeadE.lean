/-
  The answers of layer 5 under names. For every store.
-/
import Derived.Test.YthbailkfhmkfoaaAead
import Derived.Test.YthbailkfhmkfoaaRAead
namespace Go.Proofs.Ythbailkfhmkfoaa
open Go.RowKit

theorem seal_e {W w : World} {Rs : List Res} {b : Nat} {L : List T} {m : Int} (x n y z : Int) (h : Hd W w (Sto b L m :: Rs)) :
    Calls Try.prog 48 #[.pointer (some ⟨b, 0, none⟩), .int .i64 x, .int .u64 n, .int .i64 y, .int .i64 z] w fun e w' => ∃ r0 r1 L2, e = .returned (.tuple #[.int .i64 r0, .int .i64 r1]) ∧ Hid (put m L (seaT x n y z) = (r0, r1, L2)) ∧ Hd W w' (Sto b L2 m :: Rs) :=
  (seal_calls x n y z  h).mono fun _ _ ⟨h1, h2⟩ => ⟨_, _, _, h1, hid rfl, h2⟩
theorem rseal_q {W w : World} {Rs : List Res} {b : Nat} {L : List T} {m : Int} (x n y z : Int) {r0 : Int} {r1 : Int} {L2 : List T} (hq : Hid (put m L (seaT x n y z) = (r0, r1, L2))) (h : Hd W w (RSto b L m :: Rs)) :
    Calls Try.prog 49 #[.pointer (some ⟨b, 0, none⟩), .int .i64 x, .int .u64 n, .int .i64 y, .int .i64 z] w fun e w' => e = .returned (.tuple #[.int .i64 r0, .int .i64 r1]) ∧ Hd W w' (RSto b L2 m :: Rs) := by
  have := rseal_calls x n y z  h
  rw [hq.out] at this
  exact this

theorem aopen_e {W w : World} {Rs : List Res} {b : Nat} {L : List T} {m : Int} (x n y z : Int) (h : Hd W w (Sto b L m :: Rs)) :
    Calls Try.prog 50 #[.pointer (some ⟨b, 0, none⟩), .int .i64 x, .int .u64 n, .int .i64 y, .int .i64 z] w fun e w' => ∃ r0 r1, e = .returned (.tuple #[.int .i64 r0, .int .i64 r1]) ∧ Hid (open5 L x n y z = (r0, r1)) ∧ Hd W w' (Sto b L m :: Rs) :=
  (aopen_calls x n y z  h).mono fun _ _ ⟨h1, h2⟩ => ⟨_, _, h1, hid rfl, h2⟩
theorem raopen_q {W w : World} {Rs : List Res} {b : Nat} {L : List T} {m : Int} (x n y z : Int) {r0 : Int} {r1 : Int} (hq : Hid (open5 L x n y z = (r0, r1))) (h : Hd W w (RSto b L m :: Rs)) :
    Calls Try.prog 51 #[.pointer (some ⟨b, 0, none⟩), .int .i64 x, .int .u64 n, .int .i64 y, .int .i64 z] w fun e w' => e = .returned (.tuple #[.int .i64 r0, .int .i64 r1]) ∧ Hd W w' (RSto b L m :: Rs) := by
  have := ropen_calls x n y z  h
  rw [hq.out] at this
  exact this

theorem read_e {W w : World} {Rs : List Res} {b : Nat} {L : List T} {m : Int} (x n y z : Int) (h : Hd W w (Sto b L m :: Rs)) :
    Calls Try.prog 55 #[.pointer (some ⟨b, 0, none⟩), .int .i64 x, .int .u64 n, .int .i64 y, .int .i64 z] w fun e w' => ∃ r0 r1, e = .returned (.tuple #[.string r0, .int .i64 r1]) ∧ Hid (read5 L x n y z = (r0, r1)) ∧ Hd W w' (Sto b L m :: Rs) :=
  (read_calls x n y z  h).mono fun _ _ ⟨h1, h2⟩ => ⟨_, _, h1, hid rfl, h2⟩
theorem rread_q {W w : World} {Rs : List Res} {b : Nat} {L : List T} {m : Int} (x n y z : Int) {r0 : ByteArray} {r1 : Int} (hq : Hid (read5 L x n y z = (r0, r1))) (h : Hd W w (RSto b L m :: Rs)) :
    Calls Try.prog 56 #[.pointer (some ⟨b, 0, none⟩), .int .i64 x, .int .u64 n, .int .i64 y, .int .i64 z] w fun e w' => e = .returned (.tuple #[.string r0, .int .i64 r1]) ∧ Hd W w' (RSto b L m :: Rs) := by
  have := rread_calls x n y z  h
  rw [hq.out] at this
  exact this

theorem text_e {W w : World} {Rs : List Res} {b : Nat} {L : List T} {m : Int} (x n y : Int) (s : ByteArray) (hsz : s.size ≤ maxLen) (h : Hd W w (Sto b L m :: Rs)) :
    Calls Try.prog 53 #[.pointer (some ⟨b, 0, none⟩), .int .i64 x, .int .u64 n, .int .i64 y, .string s] w fun e w' => ∃ r0 r1 L2, e = .returned (.tuple #[.int .i64 r0, .int .i64 r1]) ∧ Hid (text5 m L x n y s = (r0, r1, L2)) ∧ Hd W w' (Sto b L2 m :: Rs) :=
  (text_calls x n y s hsz h).mono fun _ _ ⟨h1, h2⟩ => ⟨_, _, _, h1, hid rfl, h2⟩
theorem rtext_q {W w : World} {Rs : List Res} {b : Nat} {L : List T} {m : Int} (x n y : Int) (s : ByteArray) (hsz : s.size ≤ maxLen) {r0 : Int} {r1 : Int} {L2 : List T} (hq : Hid (text5 m L x n y s = (r0, r1, L2))) (h : Hd W w (RSto b L m :: Rs)) :
    Calls Try.prog 54 #[.pointer (some ⟨b, 0, none⟩), .int .i64 x, .int .u64 n, .int .i64 y, .string s] w fun e w' => e = .returned (.tuple #[.int .i64 r0, .int .i64 r1]) ∧ Hd W w' (RSto b L2 m :: Rs) := by
  have := rtext_calls x n y s hsz h
  rw [hq.out] at this
  exact this

end Go.Proofs.Ythbailkfhmkfoaa
