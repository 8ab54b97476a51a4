/-
  Layer 5 over a store with room. For every store with room, and every names that are there.
-/
import Derived.Test.YtbaliaodioflfaaAead
namespace Go.Proofs.Ytbaliaodioflfaa
open Go.RowKit

section
variable {W w : World} {b : Nat} {L : List T} {m : Int} {N : Nat} {Rs : List Res}

theorem seal_room {k n x y : Int} (h : Room W w b L m N Rs) (hN : (N : Int) < m) (hk : In L k) (hx : In L x) (hy : In L y) :
    Calls Try.prog 74 #[.pointer (some ⟨b, 0, none⟩), .int .i64 k, .int .u64 n, .int .i64 x, .int .i64 y] w (Named W b L m N Rs (seaT k n x y)) :=
  named_of h rfl (may_sea.2 ⟨⟨hk.lo, hk.hi⟩, ⟨hx.lo, hx.hi⟩, hy.lo, hy.hi⟩) hN (seal_calls k n x y h.hd)
theorem seal_known {k n x y p : Int} (h : Room W w b L m N Rs) (hp : At L p (seaT k n x y)) :
    Calls Try.prog 74 #[.pointer (some ⟨b, 0, none⟩), .int .i64 k, .int .u64 n, .int .i64 x, .int .i64 y] w (Known W b L m N Rs p) := known_of h rfl hp (seal_calls k n x y h.hd)

/-- What Text leaves. -/
def Texted (W : World) (b : Nat) (L : List T) (m : Int) (N : Nat) (Rs : List Res) (k n x : Int) (s : ByteArray) (e : Ending) (w' : World) : Prop :=
  ∃ c p L', e = .returned (.tuple #[.int .i64 c, .int .i64 0]) ∧ At L' c (seaT k n x p) ∧ At L' p (txtT s) ∧ Ext L L' ∧ Room W w' b L' m N Rs

/-- An answer of two parts that changes nothing. -/
def Tells (W : World) (b : Nat) (L : List T) (m : Int) (N : Nat) (Rs : List Res) (u v : Value) (e : Ending) (w' : World) : Prop :=
  e = .returned (.tuple #[u, v]) ∧ Room W w' b L m N Rs

theorem aopen_ok {k n x y z : Int} (h : Room W w b L m N Rs) (hk : In L k) (hx : In L x) (hz : At L z (seaT k n x y)) :
    Calls Try.prog 77 #[.pointer (some ⟨b, 0, none⟩), .int .i64 k, .int .u64 n, .int .i64 x, .int .i64 z] w (Tells W b L m N Rs (.int .i64 y) (.int .i64 0)) := by
  have := aopen_calls k n x z h.hd
  have e : open5 L k n x z = (y, 0) := by unfold open5; rw [if_pos ⟨hk.getB, hx.getB, hz.getT.2⟩, hz.getT.1]; exact if_pos rfl
  rw [e] at this
  exact this.mono fun e w' ⟨e1, e2⟩ => ⟨e1, e2, h.good, h.len⟩
theorem aopen_bad {k n x z : Int} {t : T} (h : Room W w b L m N Rs) (hk : In L k) (hx : In L x) (hz : At L z t) (hn : ¬ (t.k = 10 ∧ t.a = k ∧ t.n = n ∧ t.b = x)) :
    Calls Try.prog 77 #[.pointer (some ⟨b, 0, none⟩), .int .i64 k, .int .u64 n, .int .i64 x, .int .i64 z] w (Tells W b L m N Rs (.int .i64 0) (.int .i64 9)) := by
  have := aopen_calls k n x z h.hd
  have e : open5 L k n x z = (0, 9) := by rw [open5_eq h.good, if_pos ⟨hk.getB, hx.getB, hz.getT.2⟩, hz.getT.1, if_neg hn]
  rw [e] at this
  exact this.mono fun e w' ⟨e1, e2⟩ => ⟨e1, e2, h.good, h.len⟩
theorem sea_inj {a n b c a' n' b' c' : Int} : seaT a n b c = seaT a' n' b' c' ↔ n = n' ∧ a = a' ∧ b = b' ∧ c = c' := by simp [seaT]
end
end Go.Proofs.Ytbaliaodioflfaa
