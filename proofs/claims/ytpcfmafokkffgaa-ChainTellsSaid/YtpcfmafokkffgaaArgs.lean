/-
  What comes in: a slice of terms, read as data, as the plain list of its terms. For every reading.
-/
import Derived.Test.YtpcfmafokkffgaaLawA
import Derived.ProofKit
import Derived.Deep.Slices
namespace Go.Proofs.Ytpcfmafokkffgaa
open Go.RowKit Go.ChangeShapes Go.WideShapes

/-- One block of the call's own. -/
def Blk (k : Nat) (o : Obj) : Res := fun f => f = fun j => if j = k then some o else none

theorem Hd.box {W w : World} {Rs : List Res} (h : Hd W w Rs) (o : Obj) : Hd W (w.alloc o) (Blk w.heap.size o :: Rs) := by
  refine h.add ((Below.refl _ _).alloc (Nat.le_refl _) _) _ rfl (fun k o' hk => ?_) (fun k hk => ?_)
  · split at hk
    · rename_i e; subst e; rw [heap_at rfl]; exact hk
    · cases hk
  · split at hk
    · omega
    · exact absurd rfl hk

theorem Hd.blk {W w : World} {Rs : List Res} {k : Nat} {o : Obj} (h : Hd W w (Blk k o :: Rs)) : w.heap[k]? = some o := by
  obtain ⟨f, hf, hi, _⟩ := h.open
  exact hi k o (by rw [hf]; simp)

/-- So many terms lie there. -/
def TermsIn (w : World) (a : Option Addr) (ts : List T) : Prop :=
  ∀ (i : Nat) (t : T), ts[i]? = some t → ∃ g o, a = some ⟨g, o, none⟩ ∧ t.s.size ≤ maxLen ∧ ∀ (j : Nat) (v : Value), t.cells[j]? = some v → w.cell? ⟨g, o + i * 6 + j, none⟩ = some v

theorem TermsIn.later {w w' : World} {a : Option Addr} {ts : List T} (h : TermsIn w a ts) (hb : Below w.heap.size w w') : TermsIn w' a ts := fun i t hi => by
  obtain ⟨g, o, ha, hs, hc⟩ := h i t hi
  exact ⟨g, o, ha, hs, fun j v hj => (hb.cell (World.block_lt_of_cell? w _ (hc j v hj))).trans (hc j v hj)⟩

section
variable {H : Type} {enc : TypeId × Value → H} {w : World} {base : Nat} {spare : Nat → Bool} {held : Bool}

set_option maxRecDepth 100000 in
theorem trod_T {fuel : Nat} {cs : List Value} {x : DataW H × List MemPlace} (h : DataW.trod enc Try.prog w base spare held fuel 47 cs = some x) : ∃ t : T, cs = t.cells ∧ t.s.size ≤ maxLen := by
  have hu : Try.prog.underlying 47 = some (.struct (Try.prog.fieldsOf 47)) := by kernel_rfl
  obtain ⟨xs, n, _, _, hlen, hxs, hf⟩ := DataW.trod_struct hu h
  have hsz : Try.prog.cellsOf 47 = 6 := by kernel_rfl
  have hfs : (Try.prog.fieldsOf 47).size = 6 := by kernel_rfl
  rw [hsz] at hlen
  rw [hfs] at hxs
  match cs, hlen with
  | [c0, c1, c2, c3, c4, c5], _ =>
    have c1' : Try.prog.cellsOf 3 = 1 := by kernel_rfl
    have c2' : Try.prog.cellsOf 9 = 1 := by kernel_rfl
    have c3' : Try.prog.cellsOf 45 = 1 := by kernel_rfl
    have some_of : ∀ i : Nat, i < 6 → ∃ y, xs[i]? = some y := fun i hi => ⟨xs[i]'(by omega), List.getElem?_eq_getElem (by omega)⟩
    have key : ∀ (i ty off : Nat) (c : Value), i < 6 → (((Try.prog.fieldsOf 47)[i]?).map fun f => (f.type, f.offset)) = some (ty, off) → Try.prog.cellsOf ty = 1 → (([c0, c1, c2, c3, c4, c5].drop off).take 1 = [c]) → ∃ y, DataW.trod enc Try.prog w base spare held n ty [c] = some y := by
      intro i ty off c hi hfi h1 h2
      obtain ⟨f, hfe, hfo⟩ := Option.map_eq_some_iff.1 hfi
      simp only [Prod.mk.injEq] at hfo
      obtain ⟨y, hy⟩ := some_of i hi
      have := hf i f hfe
      rw [hfo.1, hfo.2, h1, h2, hy] at this
      exact ⟨y, this⟩
    obtain ⟨y0, e0⟩ := key 0 3 0 c0 (by decide) (by kernel_rfl) c1' rfl
    obtain ⟨y1, e1⟩ := key 1 9 1 c1 (by decide) (by kernel_rfl) c2' rfl
    obtain ⟨y2, e2⟩ := key 2 45 2 c2 (by decide) (by kernel_rfl) c3' rfl
    obtain ⟨y3, e3⟩ := key 3 3 3 c3 (by decide) (by kernel_rfl) c1' rfl
    obtain ⟨y4, e4⟩ := key 4 3 4 c4 (by decide) (by kernel_rfl) c1' rfl
    obtain ⟨y5, e5⟩ := key 5 3 5 c5 (by decide) (by kernel_rfl) c1' rfl
    obtain ⟨k, f0, _⟩ := DataW.trod_int (k := .i64) (by kernel_rfl) e0
    obtain ⟨s, f1, _, hs⟩ := DataW.trod_string (by kernel_rfl) e1
    obtain ⟨m, f2, _⟩ := DataW.trod_int (k := .u64) (by kernel_rfl) e2
    obtain ⟨a, f3, _⟩ := DataW.trod_int (k := .i64) (by kernel_rfl) e3
    obtain ⟨b, f4, _⟩ := DataW.trod_int (k := .i64) (by kernel_rfl) e4
    obtain ⟨c, f5, _⟩ := DataW.trod_int (k := .i64) (by kernel_rfl) e5
    simp only [List.cons.injEq, and_true] at f0 f1 f2 f3 f4 f5
    subst f0 f1 f2 f3 f4 f5
    exact ⟨⟨k, s, m, a, b, c⟩, rfl, hs⟩

set_option maxRecDepth 100000 in
/-- A SLICE OF TERMS OPENED. -/
theorem open_terms {fuel : Nat} {a : Option Addr} {len cap : Nat} {x : DataW H × List MemPlace} (h : DataW.trod enc Try.prog w base spare held fuel 22 [.slice a len cap] = some x) :
    ∃ ts : List T, len = ts.length ∧ len ≤ maxLen ∧ TermsIn w a ts := by
  rcases Deep.open_slice (P := Try.prog) (t := 22) (e := 47) (by kernel_rfl) h with ⟨hcs, _⟩ | ⟨a', l, c, m, n, D, Pl, hcs, _, hl, hm, hmm, _, hx⟩
  · simp only [List.cons.injEq, Value.slice.injEq, and_true] at hcs
    obtain ⟨rfl, rfl, rfl⟩ := hcs
    exact ⟨[], rfl, Nat.zero_le _, fun i t hi => by simp at hi⟩
  · simp only [List.cons.injEq, Value.slice.injEq, and_true] at hcs
    obtain ⟨rfl, rfl, rfl⟩ := hcs
    have hsz : Try.prog.cellsOf 47 = 6 := by kernel_rfl
    have hle : len ≤ m := by rw [hmm]; split <;> omega
    have each : ∀ i, i < len → ∃ t : T, w.cells? base (a'.add (i * 6)) 6 = some t.cells ∧ t.s.size ≤ maxLen := fun i hi => by
      obtain ⟨cs', h1, h2⟩ := hx i (by omega)
      rw [hsz] at h1
      obtain ⟨t, rfl, hs⟩ := trod_T h2
      exact ⟨t, h1, hs⟩
    haveI : Inhabited T := ⟨zeroT⟩
    obtain ⟨f, hf⟩ := Deep.choose_lt each
    refine ⟨(List.range len).map f, by simp, Nat.le_trans hl hm, fun i t hi => ?_⟩
    have hil : i < len := by
      have := (List.getElem?_eq_some_iff.1 hi).1
      simpa using this
    have ht : t = f i := by
      rw [List.getElem?_map, List.getElem?_range hil] at hi
      simpa using hi.symm
    subst ht
    obtain ⟨h1, h2⟩ := hf i hil
    obtain ⟨h10, _⟩ := hf 0 (by omega)
    obtain ⟨_, _, hz⟩ := World.cells?_some h10
    have hz0 := hz 0 (by decide)
    have hspot : a'.spot = none := by
      have e : (a'.add (0 * 6)).add 0 = a' := by simp [Addr.add]
      rw [e] at hz0
      cases hs : a'.spot with
      | none => rfl
      | some q =>
        exfalso
        have hc : (f 0).cells[0]? = some (.int .i64 (f 0).k) := rfl
        rw [hc] at hz0
        unfold World.cell? at hz0
        split at hz0
        · simp [hs] at hz0
        · cases hz0
    obtain ⟨g, o, sp⟩ := a'
    simp only at hspot
    subst hspot
    obtain ⟨_, _, hc⟩ := World.cells?_some h1
    refine ⟨g, o, rfl, h2, fun j v hj => ?_⟩
    have hj6 : j < 6 := by have := (List.getElem?_eq_some_iff.1 hj).1; simpa [T.cells] using this
    have := hc j hj6
    rw [Addr.add_lit, Addr.add_lit, hj] at this
    exact this
end

theorem put_cases {m : Int} {L : List T} (t : T) (hl : (L.length : Int) ≤ m) :
    put m L t = (0, 1, L) ∨ (∃ i : Nat, i < L.length ∧ L[i]? = some t ∧ put m L t = ((i : Int) + 1, 0, L)) ∨ ((L.length : Int) = m ∧ put m L t = (0, 4, L)) ∨ ((L.length : Int) < m ∧ put m L t = ((L.length : Int) + 1, 0, L ++ [t])) := by
  unfold put
  split
  · cases hi : find t L with
    | some i => exact .inr (.inl ⟨i, find_lt hi, find_some hi, rfl⟩)
    | none =>
      by_cases h : m ≤ L.length
      · right; right; left; exact ⟨by omega, by simp [h]⟩
      · right; right; right; exact ⟨by omega, by simp [h]⟩
  · exact .inl rfl
end Go.Proofs.Ytpcfmafokkffgaa
