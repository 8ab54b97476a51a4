/-
  Contracts of layer 2 in one form: what the call holds before and after. For every store.
-/
import Derived.Test.YtfhpgcgiogmlgaaRoom
namespace Go.Proofs.Ytfhpgcgiogmlgaa
open Go.RowKit

theorem Hd.al {W w : World} {Rs : List Res} {o : Obj} (h : Hd W w Rs) : Hd W (w.alloc o) Rs := h.still ((Below.refl _ _).alloc (Nat.le_refl _) _)
theorem Hd.dr {W w : World} {Rs : List Res} (h : Hd W w Rs) : Hd W w.drew Rs := h.still (Below.refl _ _).drew

section
variable {W w : World} {Rs : List Res} {b : Nat} {L : List T} {m : Int}

theorem get_c (x : Int) (h : Hd W w (Sto b L m :: Rs)) :
    Calls Try.prog 28 #[.pointer (some ⟨b, 0, none⟩), .int .i64 x] w fun e w' => e = .returned (.tuple #[T.val (getT L x), .bool (getB L x)]) ∧ Hd W w' (Sto b L m :: Rs) := by
  obtain ⟨lb, db, mb, lc, dc, hs⟩ := h.sto
  exact (get_calls x hs).mono fun e w' ⟨h1, h2⟩ => ⟨h1, h.still h2⟩

theorem rget_c (x : Int) (h : Hd W w (RSto b L m :: Rs)) :
    Calls Try.prog 29 #[.pointer (some ⟨b, 0, none⟩), .int .i64 x] w fun e w' => e = .returned (.tuple #[T.val (getT L x), .bool (getB L x)]) ∧ Hd W w' (RSto b L m :: Rs) := by
  obtain ⟨a, cap, hs⟩ := h.rsto
  exact (rget_calls x hs).mono fun e w' ⟨h1, h2⟩ => ⟨h1, h.still h2⟩

/-- A put whose answer has names. -/
theorem put_c (k : Int) (s : ByteArray) (n a b' c : Int) {r1 r2 : Int} {L2 : List T} (hq : Hid (put m L ⟨k, s, n, a, b', c⟩ = (r1, r2, L2))) (h : Hd W w (Sto b L m :: Rs)) :
    Calls Try.prog 18 #[.pointer (some ⟨b, 0, none⟩), .agg #[.int .i64 k, .string s, .int .u64 n, .int .i64 a, .int .i64 b', .int .i64 c]] w fun e w' => e = .returned (.tuple #[.int .i64 r1, .int .i64 r2]) ∧ Hd W w' (Sto b L2 m :: Rs) := by
  have := put_calls k s n a b' c h
  rw [hq.out] at this
  exact this

theorem rput_c (k : Int) (s : ByteArray) (n a b' c : Int) {r1 r2 : Int} {L2 : List T} (hq : Hid (put m L ⟨k, s, n, a, b', c⟩ = (r1, r2, L2))) (h : Hd W w (RSto b L m :: Rs)) :
    Calls Try.prog 19 #[.pointer (some ⟨b, 0, none⟩), .agg #[.int .i64 k, .string s, .int .u64 n, .int .i64 a, .int .i64 b', .int .i64 c]] w fun e w' => e = .returned (.tuple #[.int .i64 r1, .int .i64 r2]) ∧ Hd W w' (RSto b L2 m :: Rs) := by
  have := rput_calls k s n a b' c h
  rw [hq.out] at this
  exact this
end
end Go.Proofs.Ytfhpgcgiogmlgaa
