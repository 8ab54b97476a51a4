/-
  What a call holds in memory, said apart from the rest: 'Hd W w Rs': since the world W nothing of what was there has turned in w, and w holds the things Rs, each in blocks of its own, made since W. For every W, w, Rs; no condition.
-/
import Derived.Test.YtpcfmafokkffgaaProg
import Derived.WalkKit
import Derived.BigQuiet
import Derived.Deep.QuietTactic
namespace Go.Proofs.Ytpcfmafokkffgaa
open Go.RowKit

/-- A part of the heap. -/
abbrev Frag := Nat → Option Obj
/-- A thing in memory: what its part of the heap looks like. -/
abbrev Res := Frag → Prop

def FragIn (f : Frag) (w : World) : Prop := ∀ k o, f k = some o → w.heap[k]? = some o

/-- The things Rs lie in w, each apart from the others and from the blocks 'used'. -/
def Lies (w : World) : (Nat → Prop) → List Res → Prop
  | _, [] => True
  | used, R :: Rs => ∃ f : Frag, R f ∧ FragIn f w ∧ (∀ k, f k ≠ none → ¬ used k) ∧ Lies w (fun k => used k ∨ f k ≠ none) Rs

theorem Lies.congr {w : World} : ∀ {Rs : List Res} {u v : Nat → Prop}, (∀ k, v k → u k) → Lies w u Rs → Lies w v Rs
  | [], _, _, _, _ => trivial
  | _ :: _, _, _, huv, ⟨f, hR, hf, hd, hr⟩ => ⟨f, hR, hf, fun k hk hv => hd k hk (huv k hv), Lies.congr (fun k hk => hk.imp (huv k) id) hr⟩

theorem Lies.swap {w : World} {u : Nat → Prop} {A B : Res} {Rs : List Res} (h : Lies w u (A :: B :: Rs)) : Lies w u (B :: A :: Rs) := by
  obtain ⟨f, hA, hf, hd, g, hB, hg, he, hr⟩ := h
  refine ⟨g, hB, hg, fun k hk hu => he k hk (.inl hu), f, hA, hf, fun k hk hu => ?_, Lies.congr (fun k hk => ?_) hr⟩
  · rcases hu with hu | hu
    · exact hd k hk hu
    · exact he k hu (.inr hk)
  · rcases hk with (hk | hk) | hk
    · exact .inl (.inl hk)
    · exact .inr hk
    · exact .inl (.inr hk)

theorem Lies.cons_mono {w : World} {u : Nat → Prop} {A : Res} {Rs Ss : List Res} (h : ∀ v, Lies w v Rs → Lies w v Ss) (hA : Lies w u (A :: Rs)) : Lies w u (A :: Ss) := by
  obtain ⟨f, h1, h2, h3, h4⟩ := hA
  exact ⟨f, h1, h2, h3, h _ h4⟩

/-- What lies apart from what has turned still lies there. -/
theorem Lies.keep {w w' : World} : ∀ {Rs : List Res} {u : Nat → Prop}, (∀ k, ¬ u k → k < w.heap.size → w'.heap[k]? = w.heap[k]?) → Lies w u Rs → Lies w' u Rs
  | [], _, _, _ => trivial
  | _ :: _, u, hw, ⟨f, hR, hf, hd, hr⟩ => by
    refine ⟨f, hR, fun k o hk => ?_, hd, Lies.keep (fun k hk hlt => hw k (fun hu => hk (.inl hu)) hlt) hr⟩
    have hh := hf k o hk
    have hlt : k < w.heap.size := (Array.getElem?_eq_some_iff.1 hh).1
    rw [hw k (fun hu => hd k (by rw [hk]; simp) hu) hlt]
    exact hh

/-- More may be counted as used, if it is new. -/
theorem Lies.grow {w : World} : ∀ {Rs : List Res} {u v : Nat → Prop}, (∀ k, v k → u k ∨ w.heap.size ≤ k) → Lies w u Rs → Lies w v Rs
  | [], _, _, _, _ => trivial
  | _ :: _, u, v, huv, ⟨f, hR, hf, hd, hr⟩ => by
    refine ⟨f, hR, hf, fun k hk hv => ?_, Lies.grow (fun k hk => ?_) hr⟩
    · rcases huv k hv with h | h
      · exact hd k hk h
      · cases hfk : f k with
        | none => exact hk hfk
        | some o => have := (Array.getElem?_eq_some_iff.1 (hf k o hfk)).1; omega
    · rcases hk with hk | hk
      · rcases huv k hk with h | h
        · exact .inl (.inl h)
        · exact .inr h
      · exact .inl (.inr hk)

structure Hd (W w : World) (Rs : List Res) : Prop where
  below : Below W.heap.size W w
  lies : Lies w (fun k => k < W.heap.size) Rs

section
variable {W w w' : World} {A B C D E R S : Res} {Rs Ss : List Res}

theorem Hd.refl (W : World) : Hd W W [] := ⟨Below.refl _ _, trivial⟩

theorem Hd.swap (h : Hd W w (A :: B :: Rs)) : Hd W w (B :: A :: Rs) := ⟨h.below, h.lies.swap⟩
theorem Hd.under (h : ∀ v, Lies w v Rs → Lies w v Ss) (k : Hd W w (A :: Rs)) : Hd W w (A :: Ss) := ⟨k.below, Lies.cons_mono h k.lies⟩
/-- The third comes first. -/
theorem Hd.third (h : Hd W w (A :: B :: C :: Rs)) : Hd W w (C :: A :: B :: Rs) := (h.under fun _ => Lies.swap).swap
theorem Hd.fourth (h : Hd W w (A :: B :: C :: D :: Rs)) : Hd W w (D :: A :: B :: C :: Rs) :=
  (h.under fun _ k => Lies.swap (Lies.cons_mono (fun _ => Lies.swap) k)).swap
theorem Hd.unthird (h : Hd W w (C :: A :: B :: Rs)) : Hd W w (A :: B :: C :: Rs) := (h.swap).under fun _ => Lies.swap
theorem Hd.drop (h : Hd W w (A :: Rs)) : Hd W w Rs := by
  obtain ⟨hb, f, _, _, _, hr⟩ := h
  exact ⟨hb, Lies.congr (fun _ => .inl) hr⟩
theorem Hd.only (h : Hd W w (A :: Rs)) : Hd W w [A] := by
  obtain ⟨hb, f, h1, h2, h3, _⟩ := h
  exact ⟨hb, f, h1, h2, h3, trivial⟩

/-- A call that leaves all that was there as it was. -/
theorem Hd.still (h : Hd W w Rs) (hb : Below w.heap.size w w') : Hd W w' Rs :=
  ⟨h.below.trans (hb.mono h.below.size), h.lies.keep fun k _ hk => hb.block k hk⟩

/-- THE FIRST THING IS OPENED: its part of the heap; and what is to be shown to shut it again. -/
theorem Hd.open (h : Hd W w (R :: Rs)) : ∃ f : Frag, R f ∧ FragIn f w ∧ (∀ k, f k ≠ none → W.heap.size ≤ k ∧ k < w.heap.size) ∧
    ∀ (w' : World) (S : Res) (g : Frag), S g → FragIn g w' → (∀ k, g k ≠ none → f k ≠ none ∨ w.heap.size ≤ k) → w'.os = w.os → w'.tape = w.tape → w'.output = w.output → w.heap.size ≤ w'.heap.size →
      (∀ k, k < w.heap.size → f k = none → w'.heap[k]? = w.heap[k]?) → Hd W w' (S :: Rs) := by
  obtain ⟨hb, f, hR, hf, hd, hr⟩ := h
  have hlt : ∀ k, f k ≠ none → k < w.heap.size := fun k hk => by
    cases hfk : f k with
    | none => exact absurd hfk hk
    | some o => exact (Array.getElem?_eq_some_iff.1 (hf k o hfk)).1
  refine ⟨f, hR, hf, fun k hk => ⟨Nat.le_of_not_lt (hd k hk), hlt k hk⟩, ?_⟩
  intro w' S g hS hg hgk h1 h2 h3 h4 h5
  refine ⟨⟨h1.trans hb.os, h2.trans hb.tape, h3.trans hb.output, Nat.le_trans hb.size h4, fun k hk => ?_⟩, g, hS, hg, fun k hk hlt' => ?_, ?_⟩
  · rw [h5 k (Nat.lt_of_lt_of_le hk hb.size) (Classical.byContradiction fun hne => hd k hne hk)]
    exact hb.block k hk
  · rcases hgk k hk with h | h
    · exact hd k h hlt'
    · have := hb.size; omega
  · have hg' : Lies w (fun k => k < W.heap.size ∨ f k ≠ none ∨ g k ≠ none) Rs := by
      refine Lies.grow (fun k hk => ?_) hr
      rcases hk with hk | hk | hk
      · exact .inl (.inl hk)
      · exact .inl (.inr hk)
      · exact (hgk k hk).imp (fun h => .inr h) id
    have hk' : Lies w' (fun k => k < W.heap.size ∨ f k ≠ none ∨ g k ≠ none) Rs :=
      hg'.keep fun k hk hlt => h5 k hlt (Classical.byContradiction fun hne => hk (.inr (.inl hne)))
    exact hk'.congr fun k hk => hk.imp id .inr

/-- A new thing, in new blocks. -/
theorem Hd.add (h : Hd W w Rs) (hb : Below w.heap.size w w') (g : Frag) (hS : S g) (hg : FragIn g w') (hn : ∀ k, g k ≠ none → w.heap.size ≤ k) : Hd W w' (S :: Rs) := by
  refine ⟨(h.still hb).below, g, hS, hg, fun k hk hlt => ?_, ?_⟩
  · have := hn k hk; have := h.below.size; omega
  · have h1 : Lies w (fun k => k < W.heap.size ∨ g k ≠ none) Rs := h.lies.grow fun k hk => hk.imp id (hn k)
    exact h1.keep fun k _ hk => hb.block k hk
end

theorem hid {p : Prop} (h : p) : Hid p := h
theorem bcell {W w1 : World} (hb : Below W.heap.size W w1) : (∀ b o, b < W.heap.size → w1.cell? ⟨b, o, none⟩ = W.cell? ⟨b, o, none⟩) ∧ (∀ b o, b < W.heap.size → w1.frozen? ⟨b, o, none⟩ = W.frozen? ⟨b, o, none⟩) :=
  ⟨fun b o h => hb.cell (p := ⟨b, o, none⟩) h, fun b o h => hb.frozen (p := ⟨b, o, none⟩) h⟩
theorem cell_of_heap {w : World} {b : Nat} {cs : Array Value} {t : TypeId} {fr : Nat × Nat} (h : w.heap[b]? = some (.cells cs t fr)) (j : Nat) : w.cell? ⟨b, j, none⟩ = cs[j]? := by
  simp [World.cell?, h]
theorem frozen_of_heap {w : World} {b : Nat} {cs : Array Value} {t : TypeId} (h : w.heap[b]? = some (.cells cs t (0, 0))) (j : Nat) : w.frozen? ⟨b, j, none⟩ = false := by
  simp [World.frozen?, h]
theorem heap_at {w : World} {o : Obj} {k : Nat} (h : k = w.heap.size) : (w.alloc o).heap[k]? = some o := by subst h; exact heap_alloc_new w o
theorem cells_at {w : World} {k : Nat} {cs cs' : Array Value} {t : TypeId} {fr : Nat × Nat} (h : w.heap[k]? = some (.cells cs t fr)) (e : cs = cs') : w.heap[k]? = some (.cells cs' t fr) := by rw [h, e]

/-- A world in which all that W held is as it was. -/
structure Later (W : World) where
  w : World
  below : Below W.heap.size W w

instance (W : World) : Nonempty (Later W) := ⟨⟨W, Below.refl _ _⟩⟩

/-- A REGION THAT DRAWS ITS ORDER, OF READS AND OF CALLS THAT LEAVE WHAT IS THERE AS IT WAS: one walk in the text's order. -/
theorem wp_region_calm {P : Program} {id : Nat} {Q : Exit → Act → World → Prop} {a : Act} {W : World} {l : List Oper} (hm : P.follows .mixedOrders = true) (hB : Region.lexB .any l.toArray = true)
    (h : wpQuiet P l.toArray (fun w' => ∃ x : Later W, w' = x.w) (fun a' => ∀ w', (∃ x : Later W, w' = x.w) → Q .normal a' w') l a) : (Code.region id l.toArray true).wp P Q a W :=
  wp_region_quiet (C := fun w' => ∃ x : Later W, w' = x.w) hm hB ⟨⟨W.drew, (Below.refl _ _).drew⟩, rfl⟩ (by simpa using h)

theorem Calls.calm {P : Program} {f : FuncId} {args : Array Value} {W : World} {x : Later W} {v : Value}
    (h : Calls P f args x.w fun e w' => e = .returned v ∧ Below x.w.heap.size x.w w') : Calls P f args x.w fun e w'' => e = .returned v ∧ ∃ y : Later W, w'' = y.w :=
  h.mono fun _ w' ⟨he, hb⟩ => ⟨he, ⟨w', x.below.trans (hb.mono x.below.size)⟩, rfl⟩
theorem Calls.calm_same {P : Program} {f : FuncId} {args : Array Value} {W : World} {x : Later W} {v : Value}
    (h : Calls P f args x.w fun e w' => e = .returned v ∧ x.w = w') : Calls P f args x.w fun e w'' => e = .returned v ∧ ∃ y : Later W, w'' = y.w :=
  h.mono fun _ _ ⟨he, hb⟩ => ⟨he, x, hb.symm⟩
theorem Later.cell {W : World} (x : Later W) {a : Addr} {v : Value} (h : W.cell? a = some v) : x.w.cell? a = some v := (x.below.cell (World.block_lt_of_cell? W a h)).trans h
end Go.Proofs.Ytpcfmafokkffgaa
