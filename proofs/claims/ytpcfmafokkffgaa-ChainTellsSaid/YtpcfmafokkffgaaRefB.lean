/-
  A store of the document's layer 2 in memory, as the plain list L with room for m; New makes one. For every L, m.
-/
import Derived.Test.YtpcfmafokkffgaaRefA
import Derived.Test.YtpcfmafokkffgaaArgs
namespace Go.Proofs.Ytpcfmafokkffgaa
open Go.RowKit

def rFrag (b : Nat) (v : Value) (m : Int) (row : Option (Nat × Array Value)) : Frag := fun k =>
  if k = b then some (.cells #[v, .int .i64 m] 131 (0, 0)) else
  match row with
  | some (g, cur) => if k = g then some (.cells cur 114 (0, 0)) else none
  | none => none

structure RGood (L : List T) (m : Int) : Prop where
  good : Good L
  m0 : 0 ≤ m
  m1 : m ≤ 1048576
  len : (L.length : Int) ≤ m

def RSto (b : Nat) (L : List T) (m : Int) : Res := fun f => RGood L m ∧
  ((L = [] ∧ f = rFrag b (.slice none 0 0) m none) ∨
   ∃ g cap cur, b ≠ g ∧ f = rFrag b (.slice (some ⟨g, 0, none⟩) L.length cap) m (some (g, cur)) ∧ cur.size = cap * 6 ∧ L.length ≤ cap ∧ cap ≤ maxLen ∧ cur.toList.take (L.length * 6) = cellsOf L)

/-- What the walk reads of it. -/
structure RStoAt (w : World) (b : Nat) (L : List T) (m : Int) (a : Option Addr) (cap : Nat) : Prop where
  ok : RGood L m
  c0 : w.cell? ⟨b, 0, none⟩ = some (.slice a L.length cap)
  c1 : w.cell? ⟨b, 1, none⟩ = some (.int .i64 m)
  fz : ∀ j, w.frozen? ⟨b, j, none⟩ = false
  cl : ∀ (i : Nat) (t : T), L[i]? = some t → ∃ g, a = some ⟨g, 0, none⟩ ∧ g < w.heap.size ∧ ∀ j v, t.cells[j]? = some v → w.cell? ⟨g, i * 6 + j, none⟩ = some v
  lt : b < w.heap.size

theorem RStoAt.later {w w' : World} {b : Nat} {L : List T} {m : Int} {a : Option Addr} {cap : Nat} (h : RStoAt w b L m a cap) (hb : Below w.heap.size w w') : RStoAt w' b L m a cap := by
  refine ⟨h.ok, (hb.cell h.lt).trans h.c0, (hb.cell h.lt).trans h.c1, fun j => (hb.frozen h.lt).trans (h.fz j), fun i t hi => ?_, Nat.lt_of_lt_of_le h.lt hb.size⟩
  obtain ⟨g, ha, hg, hc⟩ := h.cl i t hi
  exact ⟨g, ha, Nat.lt_of_lt_of_le hg hb.size, fun j v hj => (hb.cell hg).trans (hc j v hj)⟩

theorem rstoAt_of {w : World} {b : Nat} {L : List T} {m : Int} {f : Frag} (h : RSto b L m f) (hf : FragIn f w) : ∃ a cap, RStoAt w b L m a cap := by
  obtain ⟨hok, h | h⟩ := h
  · obtain ⟨rfl, rfl⟩ := h
    have h0 : w.heap[b]? = some (.cells #[.slice none 0 0, .int .i64 m] 131 (0, 0)) := hf b _ (by simp [rFrag])
    exact ⟨none, 0, hok, by rw [cell_of_heap h0]; rfl, by rw [cell_of_heap h0]; rfl, fun j => frozen_of_heap h0 j, fun i t hi => by simp at hi, (Array.getElem?_eq_some_iff.1 h0).1⟩
  · obtain ⟨g, cap, cur, hne, rfl, h1, h2, h3, h4⟩ := h
    have h0 : w.heap[b]? = some (.cells #[.slice (some ⟨g, 0, none⟩) L.length cap, .int .i64 m] 131 (0, 0)) := hf b _ (by simp [rFrag])
    have hg : w.heap[g]? = some (.cells cur 114 (0, 0)) := hf g _ (by simp [rFrag, Ne.symm hne])
    refine ⟨some ⟨g, 0, none⟩, cap, hok, by rw [cell_of_heap h0]; rfl, by rw [cell_of_heap h0]; rfl, fun j => frozen_of_heap h0 j, fun i t hi => ⟨g, rfl, (Array.getElem?_eq_some_iff.1 hg).1, fun j v hj => ?_⟩, (Array.getElem?_eq_some_iff.1 h0).1⟩
    rw [cell_of_heap hg, ← Array.getElem?_toList]
    exact get_of_take h4 (cellsOf_get hi hj)

theorem Hd.rsto {W w : World} {b : Nat} {L : List T} {m : Int} {Rs : List Res} (h : Hd W w (RSto b L m :: Rs)) : ∃ a cap, RStoAt w b L m a cap := by
  obtain ⟨f, hR, hf, _⟩ := h.open
  exact rstoAt_of hR hf

set_option maxHeartbeats 400000 in
theorem rnew_bad {x : Int} {w : World} (hx : x < 0 ∨ 1048576 < x) :
    Calls Try.prog 51 #[.int .i64 x] w fun e w' => e = .returned (.tuple #[.pointer none, .int .i64 1]) ∧ w = w' := by
  by_cases h0 : x < 0
  · have hd : decide (x < 0) = true := by simpa using h0
    go_enter Try.func51, Try.ntmps51
    go_wp2
    go_ret2
    exact ⟨rfl, rfl⟩
  · have hd : decide (x < 0) = false := by simpa using h0
    have hd2 : decide (1048576 < x) = true := by simp; omega
    go_enter Try.func51, Try.ntmps51
    go_wp2
    go_ret2
    exact ⟨rfl, rfl⟩

set_option maxHeartbeats 400000 in
theorem rnew_calls {W w : World} {Rs : List Res} {x : Int} (h : Hd W w Rs) (h0 : 0 ≤ x) (h1 : x ≤ 1048576) :
    Calls Try.prog 51 #[.int .i64 x] w fun e w' => ∃ b, e = .returned (.tuple #[.pointer (some ⟨b, 0, none⟩), .int .i64 0]) ∧ Hd W w' (RSto b [] x :: Rs) := by
  have hd : decide (x < 0) = false := by simp; omega
  have hd2 : decide (1048576 < x) = false := by simp; omega
  have Hh := hid h; clear h
  go_enter Try.func51, Try.ntmps51
  go_wp2
  go_ret2
  refine ⟨w.heap.size, rfl, ?_⟩
  refine Hh.out.add ((Below.refl _ _).alloc (Nat.le_refl _) _) (rFrag w.heap.size (.slice none 0 0) x none) ⟨⟨good_nil, h0, h1, by simpa using h0⟩, .inl ⟨rfl, rfl⟩⟩ (fun k o hk => ?_) (fun k hk => ?_)
  · unfold rFrag at hk
    split at hk
    · rename_i e; subst e; rw [heap_at rfl]; exact hk
    · cases hk
  · unfold rFrag at hk
    split at hk
    · omega
    · exact absurd rfl hk
end Go.Proofs.Ytpcfmafokkffgaa
