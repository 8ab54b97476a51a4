/-
  A parameter []window.Window opened.
-/
import Derived.Test.YtbaliaodioflfaaArgsC
namespace Go.Proofs.Ytbaliaodioflfaa
open Go.RowKit Go.WideShapes

section
variable {H : Type} {enc : TypeId × Value → H} {w : World} {base : Nat} {spare : Nat → Bool} {held : Bool}

set_option maxRecDepth 100000 in
theorem trod_win {fuel : Nat} {cs : List Value} {x : DataW H × List MemPlace} (h : DataW.trod enc Try.prog w base spare held fuel 89 cs = some x) : ∃ z : List Int, cs = z.map (Value.int .u64) ∧ z.length = 2 ∧ ∀ y ∈ z, IntKind.u64.min ≤ y ∧ y ≤ IntKind.u64.max := by
  have hu : Try.prog.underlying 89 = some (.struct (Try.prog.fieldsOf 89)) := by kernel_rfl
  obtain ⟨xs, n, _, _, hlen, hxs, hf⟩ := DataW.trod_struct hu h
  have hsz : Try.prog.cellsOf 89 = 2 := by kernel_rfl
  have hfs : (Try.prog.fieldsOf 89).size = 2 := by kernel_rfl
  rw [hsz] at hlen
  rw [hfs] at hxs
  match cs, hlen with
  | [c0, c1], _ =>
    have c3' : Try.prog.cellsOf 23 = 1 := by kernel_rfl
    have some_of : ∀ i : Nat, i < 2 → ∃ y, xs[i]? = some y := fun i hi => ⟨xs[i]'(by omega), List.getElem?_eq_getElem (by omega)⟩
    have key : ∀ (i ty off : Nat) (c : Value), i < 2 → (((Try.prog.fieldsOf 89)[i]?).map fun f => (f.type, f.offset)) = some (ty, off) → Try.prog.cellsOf ty = 1 → (([c0, c1].drop off).take 1 = [c]) → ∃ y, DataW.trod enc Try.prog w base spare held n ty [c] = some y := by
      intro i ty off c hi hfi h1 h2
      obtain ⟨f, hfe, hfo⟩ := Option.map_eq_some_iff.1 hfi
      simp only [Prod.mk.injEq] at hfo
      obtain ⟨y, hy⟩ := some_of i hi
      have := hf i f hfe
      rw [hfo.1, hfo.2, h1, h2, hy] at this
      exact ⟨y, this⟩
    obtain ⟨y0, e0⟩ := key 0 23 0 c0 (by decide) (by kernel_rfl) c3' rfl
    obtain ⟨y1, e1⟩ := key 1 23 1 c1 (by decide) (by kernel_rfl) c3' rfl
    obtain ⟨a, f0, _, r0⟩ := DataW.trod_int (k := .u64) (by kernel_rfl) e0
    obtain ⟨b, f1, _, r1⟩ := DataW.trod_int (k := .u64) (by kernel_rfl) e1
    simp only [List.cons.injEq, and_true] at f0 f1
    subst f0 f1
    refine ⟨[a, b], rfl, rfl, fun y hy => ?_⟩
    simp only [List.mem_cons, List.not_mem_nil, or_false] at hy
    rcases hy with rfl | rfl
    · exact wf_range r0
    · exact wf_range r1

set_option maxRecDepth 100000 in
/-- A SLICE OF WINDOWS OPENED. -/
theorem open_wins {fuel : Nat} {a : Option Addr} {len cap : Nat} {x : DataW H × List MemPlace}
    (h : DataW.trod enc Try.prog w base spare held fuel 82 [.slice a len cap] = some x) :
    ∃ zs : List (List Int), len = zs.length ∧ len ≤ maxLen ∧ RowsIn 2 .u64 w a zs := by
  rcases Deep.open_slice (P := Try.prog) (t := 82) (e := 89) (by kernel_rfl) h with ⟨hcs, _⟩ | ⟨a', l, c, m, n', D, Pl, hcs, _, hl, hm, hmm, _, hx⟩
  · simp only [List.cons.injEq, Value.slice.injEq, and_true] at hcs
    obtain ⟨rfl, rfl, rfl⟩ := hcs
    exact ⟨[], rfl, Nat.zero_le _, fun i t hi => by simp at hi⟩
  · simp only [List.cons.injEq, Value.slice.injEq, and_true] at hcs
    obtain ⟨rfl, rfl, rfl⟩ := hcs
    have hC : Try.prog.cellsOf 89 = 2 := by kernel_rfl
    have hle : len ≤ m := by rw [hmm]; split <;> omega
    have each : ∀ i, i < len → ∃ z : List Int, w.cells? base (a'.add (i * 2)) 2 = some (z.map (Value.int .u64)) ∧ z.length = 2 ∧ ∀ y ∈ z, IntKind.u64.min ≤ y ∧ y ≤ IntKind.u64.max := fun i hi => by
      obtain ⟨cs', h1, h2⟩ := hx i (by omega)
      rw [hC] at h1
      obtain ⟨z, rfl, hz⟩ := trod_win h2
      exact ⟨z, h1, hz⟩
    obtain ⟨f, hf⟩ := Deep.choose_lt each
    refine ⟨(List.range len).map f, by simp, Nat.le_trans hl hm, fun i t hi => ?_⟩
    have hil : i < len := by
      have := (List.getElem?_eq_some_iff.1 hi).1
      simpa using this
    have ht' : t = f i := by
      rw [List.getElem?_map, List.getElem?_range hil] at hi
      simpa using hi.symm
    subst ht'
    obtain ⟨h1, h2, h3⟩ := hf i hil
    obtain ⟨h10, h20, _⟩ := hf 0 (by omega)
    obtain ⟨_, _, hz⟩ := World.cells?_some h10
    have hz0 := hz 0 (by decide)
    have e0 : (a'.add (0 * 2)).add 0 = a' := by simp [Addr.add]
    rw [e0] at hz0
    have hspot : a'.spot = none := by
      have hv : ((f 0).map (Value.int .u64))[0]? = some (.int .u64 ((f 0)[0]'(by omega))) := by
        rw [List.getElem?_map, List.getElem?_eq_getElem (by omega)]; rfl
      rw [hv] at hz0
      exact addr_spot hz0
    obtain ⟨g, o, sp⟩ := a'
    simp only at hspot
    subst hspot
    obtain ⟨_, _, hc'⟩ := World.cells?_some h1
    refine ⟨h2, h3, g, o, rfl, fun j v hj => ?_⟩
    have hj6 : j < 2 := by have := (List.getElem?_eq_some_iff.1 hj).1; omega
    have := hc' j hj6
    rw [Addr.add_lit, Addr.add_lit, List.getElem?_map, hj] at this
    exact this
end
end Go.Proofs.Ytbaliaodioflfaa
