/-
  What comes in: arrays of integers by value, and slices of such, read as data. For every reading.
-/
import Derived.Test.YtpcfmafokkffgaaArgsB
namespace Go.Proofs.Ytpcfmafokkffgaa
open Go.RowKit Go.ChangeShapes Go.WideShapes

/-- So many rows of n integers lie there. -/
def RowsIn (n : Nat) (k : IntKind) (w : World) (a : Option Addr) (zs : List (List Int)) : Prop :=
  ∀ (i : Nat) (z : List Int), zs[i]? = some z → z.length = n ∧ (∀ x ∈ z, k.min ≤ x ∧ x ≤ k.max) ∧ ∃ g o, a = some ⟨g, o, none⟩ ∧ ∀ (j : Nat) (v : Int), z[j]? = some v → w.cell? ⟨g, o + i * n + j, none⟩ = some (.int k v)

set_option maxRecDepth 100000 in
theorem RowsIn.later {n : Nat} {k : IntKind} {w w' : World} {a : Option Addr} {zs : List (List Int)} (h : RowsIn n k w a zs) (hb : Below w.heap.size w w') : RowsIn n k w' a zs := fun i z hi => by
  obtain ⟨h1, h2, g, o, ha, hc⟩ := h i z hi
  exact ⟨h1, h2, g, o, ha, fun j v hj => (hb.cell (World.block_lt_of_cell? w _ (hc j v hj))).trans (hc j v hj)⟩

section
variable {H : Type} {enc : TypeId × Value → H} {w : World} {base : Nat} {spare : Nat → Bool} {held : Bool}

set_option maxRecDepth 100000 in
theorem trod_row {n : Nat} {k : IntKind} {t e : TypeId} {fuel : Nat} {cs : List Value} {x : DataW H × List MemPlace} (ht : Try.prog.underlying t = some (.array n e)) (he : Try.prog.underlying e = some (.int k)) (hc : Try.prog.cellsOf e = 1) (hC : Try.prog.cellsOf t = n)
    (h : DataW.trod enc Try.prog w base spare held fuel t cs = some x) : ∃ z : List Int, cs = z.map (Value.int k) ∧ z.length = n ∧ ∀ y ∈ z, k.min ≤ y ∧ y ≤ k.max := by
  obtain ⟨xs, m, _, _, hlen, hxs, hf⟩ := DataW.trod_array ht h
  rw [hC] at hlen
  have each : ∀ i, i < n → ∃ z : Int, cs[i]? = some (.int k z) ∧ k.min ≤ z ∧ z ≤ k.max := fun i hi => by
    have hci : cs[i]? = some (cs[i]'(by omega)) := List.getElem?_eq_getElem (by omega)
    obtain ⟨z, hz, hr⟩ := arr_cell hc he hf hxs i (cs[i]'(by omega)) hi (by rw [List.drop_eq_getElem_cons (by omega), List.take_succ_cons]; rfl)
    exact ⟨z, by rw [hci, hz], hr⟩
  obtain ⟨f, hf'⟩ := Deep.choose_lt each
  refine ⟨(List.range n).map f, List.ext_getElem? fun i => ?_, by simp, fun y hy => ?_⟩
  · by_cases hi : i < n
    · rw [(hf' i hi).1]
      simp [hi]
    · rw [List.getElem?_eq_none (by omega), List.getElem?_eq_none (by simp; omega)]
  · simp only [List.mem_map, List.mem_range] at hy
    obtain ⟨i, hi, rfl⟩ := hy
    exact (hf' i hi).2

set_option maxRecDepth 100000 in
theorem open_arr {n : Nat} {k : IntKind} {t e : TypeId} {r : Reach} {b0 : Nat} {v : Value} {d : DataW H} {p : List MemPlace} (ht : Try.prog.underlying t = some (.array n e)) (he : Try.prog.underlying e = some (.int k)) (hc : Try.prog.cellsOf e = 1) (hC : Try.prog.cellsOf t = n)
    (hv : Value.okWide Try.prog w r b0 t v) (h : DataW.Trod enc Try.prog w base spare held t v d p) : ∃ z : List Int, v = .agg (z.map (Value.int k)).toArray ∧ z.length = n ∧ ∀ y ∈ z, k.min ≤ y ∧ y ≤ k.max := by
  simp only [Value.okWide, ht] at hv
  obtain ⟨cs, rfl, _, _⟩ := hv
  obtain ⟨fuel, hf⟩ := h
  obtain ⟨z, hz, hl, hb⟩ := trod_row ht he hc hC hf
  exact ⟨z, by rw [← hz]; rfl, hl, hb⟩

set_option maxRecDepth 100000 in
theorem open_arr2 {k : IntKind} {t e : TypeId} {r : Reach} {b0 : Nat} {v : Value} {d : DataW H} {p : List MemPlace} (ht : Try.prog.underlying t = some (.array 2 e)) (he : Try.prog.underlying e = some (.int k)) (hc : Try.prog.cellsOf e = 1) (hC : Try.prog.cellsOf t = 2)
    (hv : Value.okWide Try.prog w r b0 t v) (h : DataW.Trod enc Try.prog w base spare held t v d p) : ∃ z0 z1, v = .agg #[.int k z0, .int k z1] ∧ (k.min ≤ z0 ∧ z0 ≤ k.max) ∧ (k.min ≤ z1 ∧ z1 ≤ k.max) := by
  obtain ⟨z, rfl, hl, hb⟩ := open_arr ht he hc hC hv h
  match z, hl with
  | [z0, z1], _ => exact ⟨z0, z1, rfl, hb z0 (by simp), hb z1 (by simp)⟩
set_option maxRecDepth 100000 in
theorem open_arr3 {k : IntKind} {t e : TypeId} {r : Reach} {b0 : Nat} {v : Value} {d : DataW H} {p : List MemPlace} (ht : Try.prog.underlying t = some (.array 3 e)) (he : Try.prog.underlying e = some (.int k)) (hc : Try.prog.cellsOf e = 1) (hC : Try.prog.cellsOf t = 3)
    (hv : Value.okWide Try.prog w r b0 t v) (h : DataW.Trod enc Try.prog w base spare held t v d p) : ∃ z0 z1 z2, v = .agg #[.int k z0, .int k z1, .int k z2] ∧ (k.min ≤ z0 ∧ z0 ≤ k.max) ∧ (k.min ≤ z1 ∧ z1 ≤ k.max) ∧ (k.min ≤ z2 ∧ z2 ≤ k.max) := by
  obtain ⟨z, rfl, hl, hb⟩ := open_arr ht he hc hC hv h
  match z, hl with
  | [z0, z1, z2], _ => exact ⟨z0, z1, z2, rfl, hb z0 (by simp), hb z1 (by simp), hb z2 (by simp)⟩
set_option maxRecDepth 100000 in
theorem open_arr4 {k : IntKind} {t e : TypeId} {r : Reach} {b0 : Nat} {v : Value} {d : DataW H} {p : List MemPlace} (ht : Try.prog.underlying t = some (.array 4 e)) (he : Try.prog.underlying e = some (.int k)) (hc : Try.prog.cellsOf e = 1) (hC : Try.prog.cellsOf t = 4)
    (hv : Value.okWide Try.prog w r b0 t v) (h : DataW.Trod enc Try.prog w base spare held t v d p) : ∃ z0 z1 z2 z3, v = .agg #[.int k z0, .int k z1, .int k z2, .int k z3] ∧ (k.min ≤ z0 ∧ z0 ≤ k.max) ∧ (k.min ≤ z1 ∧ z1 ≤ k.max) ∧ (k.min ≤ z2 ∧ z2 ≤ k.max) ∧ (k.min ≤ z3 ∧ z3 ≤ k.max) := by
  obtain ⟨z, rfl, hl, hb⟩ := open_arr ht he hc hC hv h
  match z, hl with
  | [z0, z1, z2, z3], _ => exact ⟨z0, z1, z2, z3, rfl, hb z0 (by simp), hb z1 (by simp), hb z2 (by simp), hb z3 (by simp)⟩

set_option maxRecDepth 100000 in
/-- A SLICE OF ROWS OPENED. -/
theorem open_rows {n : Nat} {k : IntKind} {t ar e : TypeId} {fuel : Nat} {a : Option Addr} {len cap : Nat} {x : DataW H × List MemPlace} (hn : 0 < n) (hs : Try.prog.underlying t = some (.slice ar)) (ht : Try.prog.underlying ar = some (.array n e)) (he : Try.prog.underlying e = some (.int k)) (hc : Try.prog.cellsOf e = 1) (hC : Try.prog.cellsOf ar = n)
    (h : DataW.trod enc Try.prog w base spare held fuel t [.slice a len cap] = some x) :
    ∃ zs : List (List Int), len = zs.length ∧ len ≤ maxLen ∧ RowsIn n k w a zs := by
  rcases Deep.open_slice (P := Try.prog) (t := t) (e := ar) hs h with ⟨hcs, _⟩ | ⟨a', l, c, m, n', D, Pl, hcs, _, hl, hm, hmm, _, hx⟩
  · simp only [List.cons.injEq, Value.slice.injEq, and_true] at hcs
    obtain ⟨rfl, rfl, rfl⟩ := hcs
    exact ⟨[], rfl, Nat.zero_le _, fun i t hi => by simp at hi⟩
  · simp only [List.cons.injEq, Value.slice.injEq, and_true] at hcs
    obtain ⟨rfl, rfl, rfl⟩ := hcs
    have hle : len ≤ m := by rw [hmm]; split <;> omega
    have each : ∀ i, i < len → ∃ z : List Int, w.cells? base (a'.add (i * n)) n = some (z.map (Value.int k)) ∧ z.length = n ∧ ∀ y ∈ z, k.min ≤ y ∧ y ≤ k.max := fun i hi => by
      obtain ⟨cs', h1, h2⟩ := hx i (by omega)
      rw [hC] at h1
      obtain ⟨z, rfl, hz⟩ := trod_row ht he hc hC h2
      exact ⟨z, h1, hz⟩
    obtain ⟨f, hf⟩ := Deep.choose_lt each
    refine ⟨(List.range len).map f, by simp, Nat.le_trans hl hm, fun i t hi => ?_⟩
    have hil : i < len := by
      have := (List.getElem?_eq_some_iff.1 hi).1
      simpa using this
    have ht' : t = f i := by
      rw [List.getElem?_map, List.getElem?_range hil] at hi
      simpa using hi.symm
    subst ht'
    obtain ⟨h1, h2, h3⟩ := hf i hil
    obtain ⟨h10, h20, _⟩ := hf 0 (by omega)
    obtain ⟨_, _, hz⟩ := World.cells?_some h10
    have hz0 := hz 0 hn
    have e0 : (a'.add (0 * n)).add 0 = a' := by simp [Addr.add]
    rw [e0] at hz0
    have hspot : a'.spot = none := by
      have hv : ((f 0).map (Value.int k))[0]? = some (.int k ((f 0)[0]'(by omega))) := by
        rw [List.getElem?_map, List.getElem?_eq_getElem (by omega)]; rfl
      rw [hv] at hz0
      exact addr_spot hz0
    obtain ⟨g, o, sp⟩ := a'
    simp only at hspot
    subst hspot
    obtain ⟨_, _, hc'⟩ := World.cells?_some h1
    refine ⟨h2, h3, g, o, rfl, fun j v hj => ?_⟩
    have hj6 : j < n := by have := (List.getElem?_eq_some_iff.1 hj).1; omega
    have := hc' j hj6
    rw [Addr.add_lit, Addr.add_lit, List.getElem?_map, hj] at this
    exact this
end
end Go.Proofs.Ytpcfmafokkffgaa
