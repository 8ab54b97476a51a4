/-
  A parameter sym.Sym opened.
-/
import Derived.Test.YtbaliaodioflfaaArgsC
import Derived.Test.YtbaliaodioflfaaPureS
namespace Go.Proofs.Ytbaliaodioflfaa
open Go.RowKit Go.WideShapes

section
variable {H : Type} {enc : TypeId × Value → H} {w : World} {base : Nat} {spare : Nat → Bool} {held : Bool}

set_option maxRecDepth 100000 in
theorem trod_Y {fuel : Nat} {cs : List Value} {x : DataW H × List MemPlace} (h : DataW.trod enc Try.prog w base spare held fuel 25 cs = some x) : ∃ ck k hh n : Int, cs = [.int .i64 ck, .int .i64 k, .int .i64 hh, .int .u64 n] ∧ 0 ≤ n ∧ n ≤ 18446744073709551615 := by
  have hu : Try.prog.underlying 25 = some (.struct (Try.prog.fieldsOf 25)) := by kernel_rfl
  obtain ⟨xs, n, _, _, hlen, hxs, hf⟩ := DataW.trod_struct hu h
  have hsz : Try.prog.cellsOf 25 = 4 := by kernel_rfl
  have hfs : (Try.prog.fieldsOf 25).size = 4 := by kernel_rfl
  rw [hsz] at hlen
  rw [hfs] at hxs
  match cs, hlen with
  | [c0, c1, c2, c3], _ =>
    have c1' : Try.prog.cellsOf 3 = 1 := by kernel_rfl
    have c3' : Try.prog.cellsOf 23 = 1 := by kernel_rfl
    have some_of : ∀ i : Nat, i < 4 → ∃ y, xs[i]? = some y := fun i hi => ⟨xs[i]'(by omega), List.getElem?_eq_getElem (by omega)⟩
    have key : ∀ (i ty off : Nat) (c : Value), i < 4 → (((Try.prog.fieldsOf 25)[i]?).map fun f => (f.type, f.offset)) = some (ty, off) → Try.prog.cellsOf ty = 1 → (([c0, c1, c2, c3].drop off).take 1 = [c]) → ∃ y, DataW.trod enc Try.prog w base spare held n ty [c] = some y := by
      intro i ty off c hi hfi h1 h2
      obtain ⟨f, hfe, hfo⟩ := Option.map_eq_some_iff.1 hfi
      simp only [Prod.mk.injEq] at hfo
      obtain ⟨y, hy⟩ := some_of i hi
      have := hf i f hfe
      rw [hfo.1, hfo.2, h1, h2, hy] at this
      exact ⟨y, this⟩
    obtain ⟨y0, e0⟩ := key 0 3 0 c0 (by decide) (by kernel_rfl) c1' rfl
    obtain ⟨y1, e1⟩ := key 1 3 1 c1 (by decide) (by kernel_rfl) c1' rfl
    obtain ⟨y2, e2⟩ := key 2 3 2 c2 (by decide) (by kernel_rfl) c1' rfl
    obtain ⟨y3, e3⟩ := key 3 23 3 c3 (by decide) (by kernel_rfl) c3' rfl
    obtain ⟨a, f0, _⟩ := DataW.trod_int (k := .i64) (by kernel_rfl) e0
    obtain ⟨b, f1, _⟩ := DataW.trod_int (k := .i64) (by kernel_rfl) e1
    obtain ⟨c, f2, _⟩ := DataW.trod_int (k := .i64) (by kernel_rfl) e2
    obtain ⟨m, f3, r3⟩ := DataW.trod_int (k := .u64) (by kernel_rfl) e3
    simp only [List.cons.injEq, and_true] at f0 f1 f2 f3
    subst f0 f1 f2 f3
    refine ⟨a, b, c, m, rfl, ?_⟩
    simp_all [Lit.wf, IntKind.min, IntKind.max, IntKind.signed, IntKind.bits]

set_option maxRecDepth 100000 in
theorem open_Y {r : Reach} {b0 : Nat} {v : Value} {d : DataW H} {p : List MemPlace}
    (hv : Value.okWide Try.prog w r b0 25 v) (h : DataW.Trod enc Try.prog w base spare held 25 v d p) : ∃ ck k hh n : Int, v = .agg #[.int .i64 ck, .int .i64 k, .int .i64 hh, .int .u64 n] ∧ 0 ≤ n ∧ n ≤ 18446744073709551615 := by
  have hu : Try.prog.underlying 25 = some (.struct (Try.prog.fieldsOf 25)) := by kernel_rfl
  simp only [Value.okWide, hu] at hv
  obtain ⟨cs, rfl, _⟩ := hv
  obtain ⟨fuel, hf⟩ := h
  obtain ⟨a, b, c, m, hz, hb⟩ := trod_Y hf
  exact ⟨a, b, c, m, by rw [← hz]; rfl, hb⟩
end
end Go.Proofs.Ytbaliaodioflfaa
