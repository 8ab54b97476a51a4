/-
  A call, in a region that draws its order, that turns a thing held ahead. For every program, region and memory.
-/
import Derived.Test.YtpcfmafokkffgaaHoldB
namespace Go.Proofs.Ytpcfmafokkffgaa
open Go.RowKit

theorem hold_callB {P : Program} {Q : Exit → Act → World → Prop} {uses : List (List Nat)} {b : Nat} {vals : List (List Gh → Value)} {R2 : List (List Gh → List Res)} {W : World} {Ss Rs : List Res} {a : Act} {w : World} {g : Nat → Gh} {i : Nat} {o : Oper} {K : Act → World → Prop} {f : FuncId} {args : Array Value} (h : (execOp a.eval o).run P w = .ok (.enter f args) w)
    (hc : Calls P f args w fun e w2 => ∃ x : Gh, e = .returned (valOf uses vals (updG g i x) i) ∧ Hd W w2 ((R2.getD b fun _ => []) ((uses.getD i []).map (updG g i x)) ++ (Ss ++ Rs)))
    (hK : ∀ x v w', (o.dst ≠ none → v = valOf uses vals (updG g i x) i) → Hd W w' ((R2.getD b fun _ => []) ((uses.getD i []).map (updG g i x)) ++ (Ss ++ Rs)) → K (a.put o.dst v) w') : o.wp P a w K Q := by
  unfold Oper.wp; rw [h]
  refine Calls.mono hc fun e w2 he => ?_
  obtain ⟨x, rfl, h2⟩ := he
  exact hK x _ _ (fun _ => rfl) h2
end Go.Proofs.Ytpcfmafokkffgaa
