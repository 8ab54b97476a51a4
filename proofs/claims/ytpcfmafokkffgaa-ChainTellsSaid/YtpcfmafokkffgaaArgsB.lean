/-
  What comes in: slices and arrays of integers, read as data. For every reading.
-/
import Derived.Test.YtpcfmafokkffgaaArgs
import Derived.OpenShut
namespace Go.Proofs.Ytpcfmafokkffgaa
open Go.RowKit Go.ChangeShapes Go.WideShapes

/-- So many integers lie there, each of its kind's range. -/
def NumsIn (k : IntKind) (w : World) (a : Option Addr) (zs : List Int) : Prop :=
  ∀ (i : Nat) (z : Int), zs[i]? = some z → k.min ≤ z ∧ z ≤ k.max ∧ ∃ g o, a = some ⟨g, o, none⟩ ∧ w.cell? ⟨g, o + i, none⟩ = some (.int k z)

theorem NumsIn.later {k : IntKind} {w w' : World} {a : Option Addr} {zs : List Int} (h : NumsIn k w a zs) (hb : Below w.heap.size w w') : NumsIn k w' a zs := fun i z hi => by
  obtain ⟨h1, h2, g, o, ha, hc⟩ := h i z hi
  exact ⟨h1, h2, g, o, ha, (hb.cell (World.block_lt_of_cell? w _ hc)).trans hc⟩

theorem wf_range {k : IntKind} {n : Int} (h : (Lit.int k n).wf = true) : k.min ≤ n ∧ n ≤ k.max := by
  simpa [Lit.wf] using h

theorem addr_spot {w : World} {a : Addr} {v : Value} (h : w.cell? a = some v) : a.spot = none := by
  unfold World.cell? at h
  split at h
  · split at h
    · cases h
    · rename_i hn; simpa using hn
  · cases h

section
variable {H : Type} {enc : TypeId × Value → H} {w : World} {base : Nat} {spare : Nat → Bool} {held : Bool}

theorem open_nums {k : IntKind} {t e : TypeId} {fuel : Nat} {a : Option Addr} {len cap : Nat} {x : DataW H × List MemPlace} (ht : Try.prog.underlying t = some (.slice e)) (he : Try.prog.underlying e = some (.int k)) (hc : Try.prog.cellsOf e = 1)
    (h : DataW.trod enc Try.prog w base spare held fuel t [.slice a len cap] = some x) : ∃ zs : List Int, len = zs.length ∧ len ≤ maxLen ∧ NumsIn k w a zs := by
  rcases Deep.open_slice1 ht hc h with ⟨hcs, _⟩ | ⟨a', l, c, m, n, V, D, Pl, hcs, _, hl, hm, hmm, _, hx⟩
  · simp only [List.cons.injEq, Value.slice.injEq, and_true] at hcs
    obtain ⟨rfl, rfl, rfl⟩ := hcs
    exact ⟨[], rfl, Nat.zero_le _, fun i t hi => by simp at hi⟩
  · simp only [List.cons.injEq, Value.slice.injEq, and_true] at hcs
    obtain ⟨rfl, rfl, rfl⟩ := hcs
    have hle : len ≤ m := by rw [hmm]; split <;> omega
    have each : ∀ i, i < len → ∃ z : Int, w.cell? (a'.add i) = some (.int k z) ∧ k.min ≤ z ∧ z ≤ k.max := fun i hi => by
      obtain ⟨h1, h2⟩ := hx i (by omega)
      obtain ⟨z, hz, _, hw⟩ := DataW.trod_int he h2
      simp only [List.cons.injEq, and_true] at hz
      rw [hz] at h1
      exact ⟨z, h1, wf_range hw⟩
    obtain ⟨f, hf⟩ := Deep.choose_lt each
    refine ⟨(List.range len).map f, by simp, Nat.le_trans hl hm, fun i z hi => ?_⟩
    have hil : i < len := by
      have := (List.getElem?_eq_some_iff.1 hi).1
      simpa using this
    have hz : z = f i := by
      rw [List.getElem?_map, List.getElem?_range hil] at hi
      simpa using hi.symm
    subst hz
    obtain ⟨h1, h2⟩ := hf i hil
    obtain ⟨h10, _⟩ := hf 0 (by omega)
    have hspot : a'.spot = none := addr_spot (by simpa [Addr.add] using h10)
    obtain ⟨g, o, sp⟩ := a'
    simp only at hspot
    subst hspot
    rw [Addr.add_lit] at h1
    exact ⟨h2.1, h2.2, g, o, rfl, h1⟩

theorem int_range {k : IntKind} {n : Int} (h : (Lit.int k n).wf = true) : k.min ≤ n ∧ n ≤ k.max := wf_range h

theorem arr_cell {n : Nat} {k : IntKind} {e : TypeId} (hc : Try.prog.cellsOf e = 1) (he : Try.prog.underlying e = some (.int k)) {m : Nat} {cs : List Value} {xs : List (DataW H × List MemPlace)}
    (hx : ∀ (i : Nat), i < n → DataW.trod enc Try.prog w base spare held m e ((cs.drop (i * Try.prog.cellsOf e)).take (Try.prog.cellsOf e)) = xs[i]?) (hn : xs.length = n) (i : Nat) (c : Value) (hi : i < n) (hci : (cs.drop i).take 1 = [c]) :
    ∃ z : Int, c = .int k z ∧ k.min ≤ z ∧ z ≤ k.max := by
  have h1 := hx i hi
  rw [hc, Nat.mul_one, hci, List.getElem?_eq_getElem (by omega)] at h1
  obtain ⟨z, hz, _, hw⟩ := DataW.trod_int he h1
  simp only [List.cons.injEq, and_true] at hz
  exact ⟨z, hz, wf_range hw⟩
end
end Go.Proofs.Ytpcfmafokkffgaa
