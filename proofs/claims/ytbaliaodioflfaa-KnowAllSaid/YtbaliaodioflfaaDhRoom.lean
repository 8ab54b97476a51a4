/-
  Layer 3 over a store with room. For every store with room, and every names that are there.
-/
import Derived.Test.YtbaliaodioflfaaRoom
import Derived.Test.YtbaliaodioflfaaDh
namespace Go.Proofs.Ytbaliaodioflfaa
open Go.RowKit

theorem pub_room {W w : World} {b : Nat} {L : List T} {m : Int} {N : Nat} {Rs : List Res} {x : Int} (h : Room W w b L m N Rs) (hN : (N : Int) < m) (hx : In L x) :
    Calls Try.prog 48 #[.pointer (some ⟨b, 0, none⟩), .int .i64 x] w (Named W b L m N Rs (pubT x)) :=
  named_of h rfl (may_pub.2 ⟨hx.lo, hx.hi⟩) hN (pub_calls x h.hd)

theorem agree_room {W w : World} {b : Nat} {L : List T} {m : Int} {N : Nat} {Rs : List Res} {x y a : Int} (h : Room W w b L m N Rs) (hN : (N : Int) < m) (hx : In L x) (hy : At L y (pubT a)) :
    Calls Try.prog 49 #[.pointer (some ⟨b, 0, none⟩), .int .i64 x, .int .i64 y] w (Named W b L m N Rs (shaT (min x a) (max x a))) := by
  have ha := hy.part h.good (p := a) (by simp [pubT, T.parts, many])
  have e : agree m L x y = put m L (shaT (min x a) (max x a)) := by unfold agree; rw [if_pos ⟨hx.getB, by rw [hy.getT.1]; rfl⟩, hy.getT.1]; rfl
  refine named_of h e (may_sha.2 ?_) hN (agree_calls x y h.hd)
  have := hx.lo; have := hx.hi; have := hy.hi
  omega

theorem pub_known {W w : World} {b : Nat} {L : List T} {m : Int} {N : Nat} {Rs : List Res} {x p : Int} (h : Room W w b L m N Rs) (hp : At L p (pubT x)) :
    Calls Try.prog 48 #[.pointer (some ⟨b, 0, none⟩), .int .i64 x] w (Known W b L m N Rs p) := known_of h rfl hp (pub_calls x h.hd)

theorem agree_known {W w : World} {b : Nat} {L : List T} {m : Int} {N : Nat} {Rs : List Res} {x y a p : Int} (h : Room W w b L m N Rs) (hx : In L x) (hy : At L y (pubT a)) (hp : At L p (shaT (min x a) (max x a))) :
    Calls Try.prog 49 #[.pointer (some ⟨b, 0, none⟩), .int .i64 x, .int .i64 y] w (Known W b L m N Rs p) := by
  have e : agree m L x y = put m L (shaT (min x a) (max x a)) := by unfold agree; rw [if_pos ⟨hx.getB, by rw [hy.getT.1]; rfl⟩, hy.getT.1]; rfl
  exact known_of h e hp (agree_calls x y h.hd)


theorem sha_comm (x y : Int) : shaT (min x y) (max x y) = shaT (min y x) (max y x) := by rw [Int.min_comm, Int.max_comm]
theorem sha_inj {x y z : Int} (h : shaT (min x y) (max x y) = shaT (min x z) (max x z)) : y = z := by
  simp only [shaT, T.mk.injEq, true_and, and_true] at h; omega
theorem pub_inj {x y : Int} (h : pubT x = pubT y) : x = y := by simpa [pubT] using h
end Go.Proofs.Ytbaliaodioflfaa
