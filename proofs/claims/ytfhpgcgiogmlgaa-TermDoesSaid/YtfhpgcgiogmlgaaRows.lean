/-
  No cell of these rows narrows 'for every input' (looked for: loops, veiled, ifaces, maps, wideKeys, modest, calm, conditions, laid).
  DERIVED. THE GIVEN ROWS OF THIS SEAT. 12 by the template 'for every input the law returns true; each argument reads behind the call as it read before'; 0 by the template 'total and deterministic' (their statements: YtfhpgcgiogmlgaaTotals.lean).
  GIVEN WITH THE SEED: the statements are not yours to turn. If you find one false, say at which input.
  Laid BY PROGRAM, IN A SANDBOX (cutbox-rows.mjs): the forced cells as the released guide's own fill.sh prints them over the translation 8496b9e140e4d52a… (all of the seat's roots in one cut). By AI agents, Wed Nov 11 2026. No macro, syntax, notation, axiom, sorry.
-/
import Derived.Test.YtfhpgcgiogmlgaaChecked
import GoSem.Claim
import GoSem.ClaimJoined
import GoSem.ClaimMapViews
import Derived.JoinedTies
import Derived.KernelRfl
namespace Go.Proofs.Ytfhpgcgiogmlgaa
/- THE CELL 'sum', in the pinned program and in every row, IS THE sha256 OF THE DUMP (.gsa) THAT YtfhpgcgiogmlgaaProg.lean LOADS. Nothing in Lean hashes anything: it is a label: what it is worth is what the hold of that sum in a sandbox is worth. -/
noncomputable def Try.pinned : Pinned := { name := "ytfhpgcgiogmlgaa", sum := "8496b9e140e4d52ab28dbc0c2d5479a6b82f2b30503c6e0c6a15494df8b919a4", checked := Try.checked }
namespace Rows
def none {H : Type} : Left H := { results := [], args := [] }

/-- 'soughlaw02.TermDoes': WHATEVER THE INPUT: true; the input reads as it did. -/
def termDoesSpec : ChangeSpec := { name := "termDoes", fn := fun _ => fun
  | [d1, d2, d3] => { results := [.lit (.bool true)], args := [d1, d2, d3] }
  | _ => none }
def termDoesRow : OpenClaim := { program := "ytfhpgcgiogmlgaa", sum := "8496b9e140e4d52ab28dbc0c2d5479a6b82f2b30503c6e0c6a15494df8b919a4", func := "sough/soughlaw02.TermDoes", spec := "termDoes", plainKeys := false, apart := false }
def TermDoesSaid : Prop := termDoesRow.holds Try.pinned (OpenSpec.ofChange termDoesSpec)

/-- ITS FALSE NEIGHBOUR: 'it returns false'. Refute it at one input. -/
def termDoesWrong : ChangeSpec := { name := "termDoes", fn := fun _ => fun
  | [d1, d2, d3] => { results := [.lit (.bool false)], args := [d1, d2, d3] }
  | _ => none }
def TermDoesWrongFalsely : Prop := termDoesRow.holds Try.pinned (OpenSpec.ofChange termDoesWrong)

/-- 'soughlaw02.TermOnce': WHATEVER THE INPUT: true; the input reads as it did. -/
def termOnceSpec : ChangeSpec := { name := "termOnce", fn := fun _ => fun
  | [d] => { results := [.lit (.bool true)], args := [d] }
  | _ => none }
def termOnceRow : OpenClaim := { program := "ytfhpgcgiogmlgaa", sum := "8496b9e140e4d52ab28dbc0c2d5479a6b82f2b30503c6e0c6a15494df8b919a4", func := "sough/soughlaw02.TermOnce", spec := "termOnce", plainKeys := false, apart := false }
def TermOnceSaid : Prop := termOnceRow.holds Try.pinned (OpenSpec.ofChange termOnceSpec)

/-- ITS FALSE NEIGHBOUR: 'it returns false'. Refute it at one input. -/
def termOnceWrong : ChangeSpec := { name := "termOnce", fn := fun _ => fun
  | [d] => { results := [.lit (.bool false)], args := [d] }
  | _ => none }
def TermOnceWrongFalsely : Prop := termOnceRow.holds Try.pinned (OpenSpec.ofChange termOnceWrong)

/-- 'soughlaw02.TermFields': WHATEVER THE INPUT: true; the input reads as it did. -/
def termFieldsSpec : ChangeSpec := { name := "termFields", fn := fun _ => fun
  | [d1, d2, d3] => { results := [.lit (.bool true)], args := [d1, d2, d3] }
  | _ => none }
def termFieldsRow : OpenClaim := { program := "ytfhpgcgiogmlgaa", sum := "8496b9e140e4d52ab28dbc0c2d5479a6b82f2b30503c6e0c6a15494df8b919a4", func := "sough/soughlaw02.TermFields", spec := "termFields", plainKeys := false, apart := false }
def TermFieldsSaid : Prop := termFieldsRow.holds Try.pinned (OpenSpec.ofChange termFieldsSpec)

/-- ITS FALSE NEIGHBOUR: 'it returns false'. Refute it at one input. -/
def termFieldsWrong : ChangeSpec := { name := "termFields", fn := fun _ => fun
  | [d1, d2, d3] => { results := [.lit (.bool false)], args := [d1, d2, d3] }
  | _ => none }
def TermFieldsWrongFalsely : Prop := termFieldsRow.holds Try.pinned (OpenSpec.ofChange termFieldsWrong)

/-- 'soughlaw02.TermRoom': WHATEVER THE INPUT: true; the input reads as it did. -/
def termRoomSpec : ChangeSpec := { name := "termRoom", fn := fun _ => fun
  | [d1, d2] => { results := [.lit (.bool true)], args := [d1, d2] }
  | _ => none }
def termRoomRow : OpenClaim := { program := "ytfhpgcgiogmlgaa", sum := "8496b9e140e4d52ab28dbc0c2d5479a6b82f2b30503c6e0c6a15494df8b919a4", func := "sough/soughlaw02.TermRoom", spec := "termRoom", plainKeys := false, apart := false }
def TermRoomSaid : Prop := termRoomRow.holds Try.pinned (OpenSpec.ofChange termRoomSpec)

/-- ITS FALSE NEIGHBOUR: 'it returns false'. Refute it at one input. -/
def termRoomWrong : ChangeSpec := { name := "termRoom", fn := fun _ => fun
  | [d1, d2] => { results := [.lit (.bool false)], args := [d1, d2] }
  | _ => none }
def TermRoomWrongFalsely : Prop := termRoomRow.holds Try.pinned (OpenSpec.ofChange termRoomWrong)

/-- 'soughlaw02.TermDeep': WHATEVER THE INPUT: true; the input reads as it did. -/
def termDeepSpec : ChangeSpec := { name := "termDeep", fn := fun _ => fun
  | [d] => { results := [.lit (.bool true)], args := [d] }
  | _ => none }
def termDeepRow : OpenClaim := { program := "ytfhpgcgiogmlgaa", sum := "8496b9e140e4d52ab28dbc0c2d5479a6b82f2b30503c6e0c6a15494df8b919a4", func := "sough/soughlaw02.TermDeep", spec := "termDeep", plainKeys := false, apart := false }
def TermDeepSaid : Prop := termDeepRow.holds Try.pinned (OpenSpec.ofChange termDeepSpec)

/-- ITS FALSE NEIGHBOUR: 'it returns false'. Refute it at one input. -/
def termDeepWrong : ChangeSpec := { name := "termDeep", fn := fun _ => fun
  | [d] => { results := [.lit (.bool false)], args := [d] }
  | _ => none }
def TermDeepWrongFalsely : Prop := termDeepRow.holds Try.pinned (OpenSpec.ofChange termDeepWrong)

/-- 'soughlaw02.TermTwo': WHATEVER THE INPUT: true; the input reads as it did. -/
def termTwoSpec : ChangeSpec := { name := "termTwo", fn := fun _ => fun
  | [d1, d2] => { results := [.lit (.bool true)], args := [d1, d2] }
  | _ => none }
def termTwoRow : OpenClaim := { program := "ytfhpgcgiogmlgaa", sum := "8496b9e140e4d52ab28dbc0c2d5479a6b82f2b30503c6e0c6a15494df8b919a4", func := "sough/soughlaw02.TermTwo", spec := "termTwo", plainKeys := false, apart := false }
def TermTwoSaid : Prop := termTwoRow.holds Try.pinned (OpenSpec.ofChange termTwoSpec)

/-- ITS FALSE NEIGHBOUR: 'it returns false'. Refute it at one input. -/
def termTwoWrong : ChangeSpec := { name := "termTwo", fn := fun _ => fun
  | [d1, d2] => { results := [.lit (.bool false)], args := [d1, d2] }
  | _ => none }
def TermTwoWrongFalsely : Prop := termTwoRow.holds Try.pinned (OpenSpec.ofChange termTwoWrong)

/-- 'soughlaw02.TermNames': WHATEVER THE INPUT: true; the input reads as it did. -/
def termNamesSpec : ChangeSpec := { name := "termNames", fn := fun _ => fun
  | [d] => { results := [.lit (.bool true)], args := [d] }
  | _ => none }
def termNamesRow : OpenClaim := { program := "ytfhpgcgiogmlgaa", sum := "8496b9e140e4d52ab28dbc0c2d5479a6b82f2b30503c6e0c6a15494df8b919a4", func := "sough/soughlaw02.TermNames", spec := "termNames", plainKeys := false, apart := false }
def TermNamesSaid : Prop := termNamesRow.holds Try.pinned (OpenSpec.ofChange termNamesSpec)

/-- ITS FALSE NEIGHBOUR: 'it returns false'. Refute it at one input. -/
def termNamesWrong : ChangeSpec := { name := "termNames", fn := fun _ => fun
  | [d] => { results := [.lit (.bool false)], args := [d] }
  | _ => none }
def TermNamesWrongFalsely : Prop := termNamesRow.holds Try.pinned (OpenSpec.ofChange termNamesWrong)

/-- 'soughlaw03.DhTells': WHATEVER THE INPUT: true; the input reads as it did. -/
def dhTellsSpec : ChangeSpec := { name := "dhTells", fn := fun _ => fun
  | [d1, d2] => { results := [.lit (.bool true)], args := [d1, d2] }
  | _ => none }
def dhTellsRow : OpenClaim := { program := "ytfhpgcgiogmlgaa", sum := "8496b9e140e4d52ab28dbc0c2d5479a6b82f2b30503c6e0c6a15494df8b919a4", func := "sough/soughlaw03.DhTells", spec := "dhTells", plainKeys := false, apart := false }
def DhTellsSaid : Prop := dhTellsRow.holds Try.pinned (OpenSpec.ofChange dhTellsSpec)

/-- ITS FALSE NEIGHBOUR: 'it returns false'. Refute it at one input. -/
def dhTellsWrong : ChangeSpec := { name := "dhTells", fn := fun _ => fun
  | [d1, d2] => { results := [.lit (.bool false)], args := [d1, d2] }
  | _ => none }
def DhTellsWrongFalsely : Prop := dhTellsRow.holds Try.pinned (OpenSpec.ofChange dhTellsWrong)

/-- 'soughlaw03.DhBoth': WHATEVER THE INPUT: true; the input reads as it did. -/
def dhBothSpec : ChangeSpec := { name := "dhBoth", fn := fun _ => fun
  | [d1, d2] => { results := [.lit (.bool true)], args := [d1, d2] }
  | _ => none }
def dhBothRow : OpenClaim := { program := "ytfhpgcgiogmlgaa", sum := "8496b9e140e4d52ab28dbc0c2d5479a6b82f2b30503c6e0c6a15494df8b919a4", func := "sough/soughlaw03.DhBoth", spec := "dhBoth", plainKeys := false, apart := false }
def DhBothSaid : Prop := dhBothRow.holds Try.pinned (OpenSpec.ofChange dhBothSpec)

/-- ITS FALSE NEIGHBOUR: 'it returns false'. Refute it at one input. -/
def dhBothWrong : ChangeSpec := { name := "dhBoth", fn := fun _ => fun
  | [d1, d2] => { results := [.lit (.bool false)], args := [d1, d2] }
  | _ => none }
def DhBothWrongFalsely : Prop := dhBothRow.holds Try.pinned (OpenSpec.ofChange dhBothWrong)

/-- 'soughlaw03.DhRoom': WHATEVER THE INPUT: true; the input reads as it did. -/
def dhRoomSpec : ChangeSpec := { name := "dhRoom", fn := fun _ => fun
  | [d1, d2] => { results := [.lit (.bool true)], args := [d1, d2] }
  | _ => none }
def dhRoomRow : OpenClaim := { program := "ytfhpgcgiogmlgaa", sum := "8496b9e140e4d52ab28dbc0c2d5479a6b82f2b30503c6e0c6a15494df8b919a4", func := "sough/soughlaw03.DhRoom", spec := "dhRoom", plainKeys := false, apart := false }
def DhRoomSaid : Prop := dhRoomRow.holds Try.pinned (OpenSpec.ofChange dhRoomSpec)

/-- ITS FALSE NEIGHBOUR: 'it returns false'. Refute it at one input. -/
def dhRoomWrong : ChangeSpec := { name := "dhRoom", fn := fun _ => fun
  | [d1, d2] => { results := [.lit (.bool false)], args := [d1, d2] }
  | _ => none }
def DhRoomWrongFalsely : Prop := dhRoomRow.holds Try.pinned (OpenSpec.ofChange dhRoomWrong)

/-- 'soughlaw03.DhPuts': WHATEVER THE INPUT: true; the input reads as it did. -/
def dhPutsSpec : ChangeSpec := { name := "dhPuts", fn := fun _ => fun
  | [d1, d2] => { results := [.lit (.bool true)], args := [d1, d2] }
  | _ => none }
def dhPutsRow : OpenClaim := { program := "ytfhpgcgiogmlgaa", sum := "8496b9e140e4d52ab28dbc0c2d5479a6b82f2b30503c6e0c6a15494df8b919a4", func := "sough/soughlaw03.DhPuts", spec := "dhPuts", plainKeys := false, apart := false }
def DhPutsSaid : Prop := dhPutsRow.holds Try.pinned (OpenSpec.ofChange dhPutsSpec)

/-- ITS FALSE NEIGHBOUR: 'it returns false'. Refute it at one input. -/
def dhPutsWrong : ChangeSpec := { name := "dhPuts", fn := fun _ => fun
  | [d1, d2] => { results := [.lit (.bool false)], args := [d1, d2] }
  | _ => none }
def DhPutsWrongFalsely : Prop := dhPutsRow.holds Try.pinned (OpenSpec.ofChange dhPutsWrong)

/-- 'soughlaw03.DhThree': WHATEVER THE INPUT: true; the input reads as it did. -/
def dhThreeSpec : ChangeSpec := { name := "dhThree", fn := fun _ => fun
  | [d1, d2] => { results := [.lit (.bool true)], args := [d1, d2] }
  | _ => none }
def dhThreeRow : OpenClaim := { program := "ytfhpgcgiogmlgaa", sum := "8496b9e140e4d52ab28dbc0c2d5479a6b82f2b30503c6e0c6a15494df8b919a4", func := "sough/soughlaw03.DhThree", spec := "dhThree", plainKeys := false, apart := false }
def DhThreeSaid : Prop := dhThreeRow.holds Try.pinned (OpenSpec.ofChange dhThreeSpec)

/-- ITS FALSE NEIGHBOUR: 'it returns false'. Refute it at one input. -/
def dhThreeWrong : ChangeSpec := { name := "dhThree", fn := fun _ => fun
  | [d1, d2] => { results := [.lit (.bool false)], args := [d1, d2] }
  | _ => none }
def DhThreeWrongFalsely : Prop := dhThreeRow.holds Try.pinned (OpenSpec.ofChange dhThreeWrong)

/- THE SECOND FORM. 'bulk': how many values and letters a reading holds, each counted each time it is reached (what is shared counts as often as it is met; a slice's spare places count too). A statement '..UptoSaid' is the law's where the arguments, and the package variables that the reading takes, are together of bulk at most 1048576: NARROWER than '..Said'. Prove '..Said' where nothing that the law and all that it calls make is longer than what came in: it says more and counts as full. Else prove '..UptoSaid'. A law counts once. -/
mutual
def uptoBulk {H : Type} : DataW H → Nat
  | .lit (.string bytes) => bytes.length + 1
  | .lit _ => 1
  | .nil => 1
  | .ptr d => uptoBulk d + 1
  | .slice elems spare => uptoBulkAll elems + uptoBulkAll spare + 1
  | .agg parts => uptoBulkAll parts + 1
  | .iface _ d => uptoBulk d + 1
  | .map entries => uptoBulkEntries entries + 1
  | .held _ => 1
def uptoBulkAll {H : Type} : List (DataW H) → Nat
  | [] => 0
  | d :: r => uptoBulk d + uptoBulkAll r
def uptoBulkEntries {H : Type} : List (Lit × DataW H) → Nat
  | [] => 0
  | x :: r => uptoBulkEntry x + uptoBulkEntries r
def uptoBulkEntry {H : Type} : Lit × DataW H → Nat
  | (.string bytes, d) => bytes.length + uptoBulk d + 1
  | (_, d) => uptoBulk d + 1
 end
def uptoSmall : (H : Type) → List (DataW H) → Bool := fun _ ds => decide (uptoBulkAll ds ≤ 1048576)
def OpenSpec.upto (s : _root_.Go.ChangeSpec) : _root_.Go.OpenSpec := { _root_.Go.OpenSpec.ofChange s with cond := some uptoSmall }

/-- 'soughlaw02.TermDoes', WHERE WHAT IT READS IS OF BULK AT MOST 1048576: true; the input reads as it did. -/
def termDoesUptoRow : OpenClaim := { program := "ytfhpgcgiogmlgaa", sum := "8496b9e140e4d52ab28dbc0c2d5479a6b82f2b30503c6e0c6a15494df8b919a4", func := "sough/soughlaw02.TermDoes", spec := "termDoes", plainKeys := false, apart := false, narrowed := true }
def TermDoesUptoSaid : Prop := termDoesUptoRow.holds Try.pinned (OpenSpec.upto termDoesSpec)

/-- 'soughlaw02.TermOnce', WHERE WHAT IT READS IS OF BULK AT MOST 1048576: true; the input reads as it did. -/
def termOnceUptoRow : OpenClaim := { program := "ytfhpgcgiogmlgaa", sum := "8496b9e140e4d52ab28dbc0c2d5479a6b82f2b30503c6e0c6a15494df8b919a4", func := "sough/soughlaw02.TermOnce", spec := "termOnce", plainKeys := false, apart := false, narrowed := true }
def TermOnceUptoSaid : Prop := termOnceUptoRow.holds Try.pinned (OpenSpec.upto termOnceSpec)

/-- 'soughlaw02.TermFields', WHERE WHAT IT READS IS OF BULK AT MOST 1048576: true; the input reads as it did. -/
def termFieldsUptoRow : OpenClaim := { program := "ytfhpgcgiogmlgaa", sum := "8496b9e140e4d52ab28dbc0c2d5479a6b82f2b30503c6e0c6a15494df8b919a4", func := "sough/soughlaw02.TermFields", spec := "termFields", plainKeys := false, apart := false, narrowed := true }
def TermFieldsUptoSaid : Prop := termFieldsUptoRow.holds Try.pinned (OpenSpec.upto termFieldsSpec)

/-- 'soughlaw02.TermRoom', WHERE WHAT IT READS IS OF BULK AT MOST 1048576: true; the input reads as it did. -/
def termRoomUptoRow : OpenClaim := { program := "ytfhpgcgiogmlgaa", sum := "8496b9e140e4d52ab28dbc0c2d5479a6b82f2b30503c6e0c6a15494df8b919a4", func := "sough/soughlaw02.TermRoom", spec := "termRoom", plainKeys := false, apart := false, narrowed := true }
def TermRoomUptoSaid : Prop := termRoomUptoRow.holds Try.pinned (OpenSpec.upto termRoomSpec)

/-- 'soughlaw02.TermDeep', WHERE WHAT IT READS IS OF BULK AT MOST 1048576: true; the input reads as it did. -/
def termDeepUptoRow : OpenClaim := { program := "ytfhpgcgiogmlgaa", sum := "8496b9e140e4d52ab28dbc0c2d5479a6b82f2b30503c6e0c6a15494df8b919a4", func := "sough/soughlaw02.TermDeep", spec := "termDeep", plainKeys := false, apart := false, narrowed := true }
def TermDeepUptoSaid : Prop := termDeepUptoRow.holds Try.pinned (OpenSpec.upto termDeepSpec)

/-- 'soughlaw02.TermTwo', WHERE WHAT IT READS IS OF BULK AT MOST 1048576: true; the input reads as it did. -/
def termTwoUptoRow : OpenClaim := { program := "ytfhpgcgiogmlgaa", sum := "8496b9e140e4d52ab28dbc0c2d5479a6b82f2b30503c6e0c6a15494df8b919a4", func := "sough/soughlaw02.TermTwo", spec := "termTwo", plainKeys := false, apart := false, narrowed := true }
def TermTwoUptoSaid : Prop := termTwoUptoRow.holds Try.pinned (OpenSpec.upto termTwoSpec)

/-- 'soughlaw02.TermNames', WHERE WHAT IT READS IS OF BULK AT MOST 1048576: true; the input reads as it did. -/
def termNamesUptoRow : OpenClaim := { program := "ytfhpgcgiogmlgaa", sum := "8496b9e140e4d52ab28dbc0c2d5479a6b82f2b30503c6e0c6a15494df8b919a4", func := "sough/soughlaw02.TermNames", spec := "termNames", plainKeys := false, apart := false, narrowed := true }
def TermNamesUptoSaid : Prop := termNamesUptoRow.holds Try.pinned (OpenSpec.upto termNamesSpec)

/-- 'soughlaw03.DhTells', WHERE WHAT IT READS IS OF BULK AT MOST 1048576: true; the input reads as it did. -/
def dhTellsUptoRow : OpenClaim := { program := "ytfhpgcgiogmlgaa", sum := "8496b9e140e4d52ab28dbc0c2d5479a6b82f2b30503c6e0c6a15494df8b919a4", func := "sough/soughlaw03.DhTells", spec := "dhTells", plainKeys := false, apart := false, narrowed := true }
def DhTellsUptoSaid : Prop := dhTellsUptoRow.holds Try.pinned (OpenSpec.upto dhTellsSpec)

/-- 'soughlaw03.DhBoth', WHERE WHAT IT READS IS OF BULK AT MOST 1048576: true; the input reads as it did. -/
def dhBothUptoRow : OpenClaim := { program := "ytfhpgcgiogmlgaa", sum := "8496b9e140e4d52ab28dbc0c2d5479a6b82f2b30503c6e0c6a15494df8b919a4", func := "sough/soughlaw03.DhBoth", spec := "dhBoth", plainKeys := false, apart := false, narrowed := true }
def DhBothUptoSaid : Prop := dhBothUptoRow.holds Try.pinned (OpenSpec.upto dhBothSpec)

/-- 'soughlaw03.DhRoom', WHERE WHAT IT READS IS OF BULK AT MOST 1048576: true; the input reads as it did. -/
def dhRoomUptoRow : OpenClaim := { program := "ytfhpgcgiogmlgaa", sum := "8496b9e140e4d52ab28dbc0c2d5479a6b82f2b30503c6e0c6a15494df8b919a4", func := "sough/soughlaw03.DhRoom", spec := "dhRoom", plainKeys := false, apart := false, narrowed := true }
def DhRoomUptoSaid : Prop := dhRoomUptoRow.holds Try.pinned (OpenSpec.upto dhRoomSpec)

/-- 'soughlaw03.DhPuts', WHERE WHAT IT READS IS OF BULK AT MOST 1048576: true; the input reads as it did. -/
def dhPutsUptoRow : OpenClaim := { program := "ytfhpgcgiogmlgaa", sum := "8496b9e140e4d52ab28dbc0c2d5479a6b82f2b30503c6e0c6a15494df8b919a4", func := "sough/soughlaw03.DhPuts", spec := "dhPuts", plainKeys := false, apart := false, narrowed := true }
def DhPutsUptoSaid : Prop := dhPutsUptoRow.holds Try.pinned (OpenSpec.upto dhPutsSpec)

/-- 'soughlaw03.DhThree', WHERE WHAT IT READS IS OF BULK AT MOST 1048576: true; the input reads as it did. -/
def dhThreeUptoRow : OpenClaim := { program := "ytfhpgcgiogmlgaa", sum := "8496b9e140e4d52ab28dbc0c2d5479a6b82f2b30503c6e0c6a15494df8b919a4", func := "sough/soughlaw03.DhThree", spec := "dhThree", plainKeys := false, apart := false, narrowed := true }
def DhThreeUptoSaid : Prop := dhThreeUptoRow.holds Try.pinned (OpenSpec.upto dhThreeSpec)

end Rows
end Go.Proofs.Ytfhpgcgiogmlgaa
