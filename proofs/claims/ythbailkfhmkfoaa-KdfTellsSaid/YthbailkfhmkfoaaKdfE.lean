/-
  The answers of layer 6 under names. For every store.
-/
import Derived.Test.YthbailkfhmkfoaaKdfB
import Derived.Test.YthbailkfhmkfoaaRKdfB
namespace Go.Proofs.Ythbailkfhmkfoaa
open Go.RowKit

theorem hash_e {W w : World} {Rs : List Res} {b : Nat} {L : List T} {m : Int} (x y : Int) (h : Hd W w (Sto b L m :: Rs)) :
    Calls Try.prog 39 #[.pointer (some ⟨b, 0, none⟩), .int .i64 x, .int .i64 y] w fun e w' => ∃ r0 r1 L2, e = .returned (.tuple #[.int .i64 r0, .int .i64 r1]) ∧ Hid (put m L (hasT x y) = (r0, r1, L2)) ∧ Hd W w' (Sto b L2 m :: Rs) :=
  (hash_calls x y  h).mono fun _ _ ⟨h1, h2⟩ => ⟨_, _, _, h1, hid rfl, h2⟩
theorem rhash_q {W w : World} {Rs : List Res} {b : Nat} {L : List T} {m : Int} (x y : Int) {r0 : Int} {r1 : Int} {L2 : List T} (hq : Hid (put m L (hasT x y) = (r0, r1, L2))) (h : Hd W w (RSto b L m :: Rs)) :
    Calls Try.prog 40 #[.pointer (some ⟨b, 0, none⟩), .int .i64 x, .int .i64 y] w fun e w' => e = .returned (.tuple #[.int .i64 r0, .int .i64 r1]) ∧ Hd W w' (RSto b L2 m :: Rs) := by
  have := rhash_calls x y  h
  rw [hq.out] at this
  exact this

theorem derive_e {W w : World} {Rs : List Res} {b : Nat} {L : List T} {m : Int} (k n : Int) (h : Hd W w (Sto b L m :: Rs)) :
    Calls Try.prog 41 #[.pointer (some ⟨b, 0, none⟩), .int .i64 k, .int .u64 n] w fun e w' => ∃ r0 r1 L2, e = .returned (.tuple #[.int .i64 r0, .int .i64 r1]) ∧ Hid (put m L (keyT k n) = (r0, r1, L2)) ∧ Hd W w' (Sto b L2 m :: Rs) :=
  (derive_calls k n  h).mono fun _ _ ⟨h1, h2⟩ => ⟨_, _, _, h1, hid rfl, h2⟩
theorem rderive_q {W w : World} {Rs : List Res} {b : Nat} {L : List T} {m : Int} (k n : Int) {r0 : Int} {r1 : Int} {L2 : List T} (hq : Hid (put m L (keyT k n) = (r0, r1, L2))) (h : Hd W w (RSto b L m :: Rs)) :
    Calls Try.prog 42 #[.pointer (some ⟨b, 0, none⟩), .int .i64 k, .int .u64 n] w fun e w' => e = .returned (.tuple #[.int .i64 r0, .int .i64 r1]) ∧ Hd W w' (RSto b L2 m :: Rs) := by
  have := rderive_calls k n  h
  rw [hq.out] at this
  exact this

theorem mix_e {W w : World} {Rs : List Res} {b : Nat} {L : List T} {m : Int} (k i : Int) (h : Hd W w (Sto b L m :: Rs)) :
    Calls Try.prog 43 #[.pointer (some ⟨b, 0, none⟩), .int .i64 k, .int .i64 i] w fun e w' => ∃ r0 r1 r2 L2, e = .returned (.tuple #[.int .i64 r0, .int .i64 r1, .int .i64 r2]) ∧ Hid (mix6 m L k i = (r0, r1, r2, L2)) ∧ Hd W w' (Sto b L2 m :: Rs) :=
  (mix_calls k i  h).mono fun _ _ ⟨h1, h2⟩ => ⟨_, _, _, _, h1, hid rfl, h2⟩
theorem rmix_q {W w : World} {Rs : List Res} {b : Nat} {L : List T} {m : Int} (k i : Int) {r0 : Int} {r1 : Int} {r2 : Int} {L2 : List T} (hq : Hid (mix6 m L k i = (r0, r1, r2, L2))) (h : Hd W w (RSto b L m :: Rs)) :
    Calls Try.prog 44 #[.pointer (some ⟨b, 0, none⟩), .int .i64 k, .int .i64 i] w fun e w' => e = .returned (.tuple #[.int .i64 r0, .int .i64 r1, .int .i64 r2]) ∧ Hd W w' (RSto b L2 m :: Rs) := by
  have := rmix_calls k i  h
  rw [hq.out] at this
  exact this

theorem chain_e {W w : World} {Rs : List Res} {b : Nat} {L : List T} {m : Int} (k n t : Int) (h : Hd W w (Sto b L m :: Rs)) :
    Calls Try.prog 45 #[.pointer (some ⟨b, 0, none⟩), .int .i64 k, .int .u64 n, .int .i64 t] w fun e w' => ∃ r0 r1 L2, e = .returned (.tuple #[.int .i64 r0, .int .i64 r1]) ∧ Hid (chain6 m L k n t = (r0, r1, L2)) ∧ Hd W w' (Sto b L2 m :: Rs) :=
  (chain_calls k n t  h).mono fun _ _ ⟨h1, h2⟩ => ⟨_, _, _, h1, hid rfl, h2⟩
theorem rchain_q {W w : World} {Rs : List Res} {b : Nat} {L : List T} {m : Int} (k n t : Int) {r0 : Int} {r1 : Int} {L2 : List T} (hq : Hid (chain6 m L k n t = (r0, r1, L2))) (h : Hd W w (RSto b L m :: Rs)) :
    Calls Try.prog 46 #[.pointer (some ⟨b, 0, none⟩), .int .i64 k, .int .u64 n, .int .i64 t] w fun e w' => e = .returned (.tuple #[.int .i64 r0, .int .i64 r1]) ∧ Hd W w' (RSto b L2 m :: Rs) := by
  have := rchain_calls k n t  h
  rw [hq.out] at this
  exact this

end Go.Proofs.Ythbailkfhmkfoaa
