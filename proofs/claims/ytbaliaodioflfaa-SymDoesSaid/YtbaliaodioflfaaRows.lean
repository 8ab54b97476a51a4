/-
  No cell of these rows narrows 'for every input' (looked for: loops, veiled, ifaces, maps, wideKeys, modest, calm, conditions, laid).
  DERIVED. THE GIVEN ROWS OF THIS SEAT. 19 by the template 'for every input the law returns true; each argument reads behind the call as it read before'; 0 by the template 'total and deterministic' (their statements: YtbaliaodioflfaaTotals.lean).
  GIVEN WITH THE SEED: the statements are not yours to turn. If you find one false, say at which input.
  Laid BY PROGRAM, IN A SANDBOX (cutbox-rows.mjs): the forced cells as the released guide's own fill.sh prints them over the translation d2062669393ac300… (all of the seat's roots in one cut). By AI agents, Wed Nov 11 2026. No macro, syntax, notation, axiom, sorry.
-/
import Derived.Test.YtbaliaodioflfaaChecked
import GoSem.Claim
import GoSem.ClaimJoined
import GoSem.ClaimMapViews
import Derived.JoinedTies
import Derived.KernelRfl
namespace Go.Proofs.Ytbaliaodioflfaa
/- THE CELL 'sum', in the pinned program and in every row, IS THE sha256 OF THE DUMP (.gsa) THAT YtbaliaodioflfaaProg.lean LOADS. Nothing in Lean hashes anything: it is a label: what it is worth is what the hold of that sum in a sandbox is worth. -/
noncomputable def Try.pinned : Pinned := { name := "ytbaliaodioflfaa", sum := "d2062669393ac30098bf1bebccfe3104e40e403d0d10712b504933cb7bb550bf", checked := Try.checked }
namespace Rows
def none {H : Type} : Left H := { results := [], args := [] }

/-- 'soughlaw07.SymDoes': WHATEVER THE INPUT: true; the input reads as it did. -/
def symDoesSpec : ChangeSpec := { name := "symDoes", fn := fun _ => fun
  | [d1, d2, d3] => { results := [.lit (.bool true)], args := [d1, d2, d3] }
  | _ => none }
def symDoesRow : OpenClaim := { program := "ytbaliaodioflfaa", sum := "d2062669393ac30098bf1bebccfe3104e40e403d0d10712b504933cb7bb550bf", func := "sough/soughlaw07.SymDoes", spec := "symDoes", unfollowed := true, recurses := true, plainKeys := false, apart := false }
def SymDoesSaid : Prop := symDoesRow.holds Try.pinned (OpenSpec.ofChange symDoesSpec)

/-- ITS FALSE NEIGHBOUR: 'it returns false'. Refute it at one input. -/
def symDoesWrong : ChangeSpec := { name := "symDoes", fn := fun _ => fun
  | [d1, d2, d3] => { results := [.lit (.bool false)], args := [d1, d2, d3] }
  | _ => none }
def SymDoesWrongFalsely : Prop := symDoesRow.holds Try.pinned (OpenSpec.ofChange symDoesWrong)

/-- 'soughlaw07.SymBoth': WHATEVER THE INPUT: true; the input reads as it did. -/
def symBothSpec : ChangeSpec := { name := "symBoth", fn := fun _ => fun
  | [d1, d2] => { results := [.lit (.bool true)], args := [d1, d2] }
  | _ => none }
def symBothRow : OpenClaim := { program := "ytbaliaodioflfaa", sum := "d2062669393ac30098bf1bebccfe3104e40e403d0d10712b504933cb7bb550bf", func := "sough/soughlaw07.SymBoth", spec := "symBoth", unfollowed := true, recurses := true, plainKeys := false, apart := false }
def SymBothSaid : Prop := symBothRow.holds Try.pinned (OpenSpec.ofChange symBothSpec)

/-- ITS FALSE NEIGHBOUR: 'it returns false'. Refute it at one input. -/
def symBothWrong : ChangeSpec := { name := "symBoth", fn := fun _ => fun
  | [d1, d2] => { results := [.lit (.bool false)], args := [d1, d2] }
  | _ => none }
def SymBothWrongFalsely : Prop := symBothRow.holds Try.pinned (OpenSpec.ofChange symBothWrong)

/-- 'soughlaw07.SymApart': WHATEVER THE INPUT: true; the input reads as it did. -/
def symApartSpec : ChangeSpec := { name := "symApart", fn := fun _ => fun
  | [d1, d2] => { results := [.lit (.bool true)], args := [d1, d2] }
  | _ => none }
def symApartRow : OpenClaim := { program := "ytbaliaodioflfaa", sum := "d2062669393ac30098bf1bebccfe3104e40e403d0d10712b504933cb7bb550bf", func := "sough/soughlaw07.SymApart", spec := "symApart", unfollowed := true, recurses := true, plainKeys := false, apart := false }
def SymApartSaid : Prop := symApartRow.holds Try.pinned (OpenSpec.ofChange symApartSpec)

/-- ITS FALSE NEIGHBOUR: 'it returns false'. Refute it at one input. -/
def symApartWrong : ChangeSpec := { name := "symApart", fn := fun _ => fun
  | [d1, d2] => { results := [.lit (.bool false)], args := [d1, d2] }
  | _ => none }
def SymApartWrongFalsely : Prop := symApartRow.holds Try.pinned (OpenSpec.ofChange symApartWrong)

/-- 'soughlaw07.SymCounts': WHATEVER THE INPUT: true; the input reads as it did. -/
def symCountsSpec : ChangeSpec := { name := "symCounts", fn := fun _ => fun
  | [d1, d2] => { results := [.lit (.bool true)], args := [d1, d2] }
  | _ => none }
def symCountsRow : OpenClaim := { program := "ytbaliaodioflfaa", sum := "d2062669393ac30098bf1bebccfe3104e40e403d0d10712b504933cb7bb550bf", func := "sough/soughlaw07.SymCounts", spec := "symCounts", unfollowed := true, recurses := true, plainKeys := false, apart := false }
def SymCountsSaid : Prop := symCountsRow.holds Try.pinned (OpenSpec.ofChange symCountsSpec)

/-- ITS FALSE NEIGHBOUR: 'it returns false'. Refute it at one input. -/
def symCountsWrong : ChangeSpec := { name := "symCounts", fn := fun _ => fun
  | [d1, d2] => { results := [.lit (.bool false)], args := [d1, d2] }
  | _ => none }
def SymCountsWrongFalsely : Prop := symCountsRow.holds Try.pinned (OpenSpec.ofChange symCountsWrong)

/-- 'soughlaw07.SymOnce': WHATEVER THE INPUT: true; the input reads as it did. -/
def symOnceSpec : ChangeSpec := { name := "symOnce", fn := fun _ => fun
  | [d1, d2] => { results := [.lit (.bool true)], args := [d1, d2] }
  | _ => none }
def symOnceRow : OpenClaim := { program := "ytbaliaodioflfaa", sum := "d2062669393ac30098bf1bebccfe3104e40e403d0d10712b504933cb7bb550bf", func := "sough/soughlaw07.SymOnce", spec := "symOnce", unfollowed := true, recurses := true, plainKeys := false, apart := false }
def SymOnceSaid : Prop := symOnceRow.holds Try.pinned (OpenSpec.ofChange symOnceSpec)

/-- ITS FALSE NEIGHBOUR: 'it returns false'. Refute it at one input. -/
def symOnceWrong : ChangeSpec := { name := "symOnce", fn := fun _ => fun
  | [d1, d2] => { results := [.lit (.bool false)], args := [d1, d2] }
  | _ => none }
def SymOnceWrongFalsely : Prop := symOnceRow.holds Try.pinned (OpenSpec.ofChange symOnceWrong)

/-- 'soughlaw07.SymSplits': WHATEVER THE INPUT: true; the input reads as it did. -/
def symSplitsSpec : ChangeSpec := { name := "symSplits", fn := fun _ => fun
  | [d1, d2] => { results := [.lit (.bool true)], args := [d1, d2] }
  | _ => none }
def symSplitsRow : OpenClaim := { program := "ytbaliaodioflfaa", sum := "d2062669393ac30098bf1bebccfe3104e40e403d0d10712b504933cb7bb550bf", func := "sough/soughlaw07.SymSplits", spec := "symSplits", unfollowed := true, recurses := true, plainKeys := false, apart := false }
def SymSplitsSaid : Prop := symSplitsRow.holds Try.pinned (OpenSpec.ofChange symSplitsSpec)

/-- ITS FALSE NEIGHBOUR: 'it returns false'. Refute it at one input. -/
def symSplitsWrong : ChangeSpec := { name := "symSplits", fn := fun _ => fun
  | [d1, d2] => { results := [.lit (.bool false)], args := [d1, d2] }
  | _ => none }
def SymSplitsWrongFalsely : Prop := symSplitsRow.holds Try.pinned (OpenSpec.ofChange symSplitsWrong)

/-- 'soughlaw08.KnowAll': WHATEVER THE INPUT: true; the input reads as it did. -/
def knowAllSpec : ChangeSpec := { name := "knowAll", fn := fun _ => fun
  | [d1, d2, d3] => { results := [.lit (.bool true)], args := [d1, d2, d3] }
  | _ => none }
def knowAllRow : OpenClaim := { program := "ytbaliaodioflfaa", sum := "d2062669393ac30098bf1bebccfe3104e40e403d0d10712b504933cb7bb550bf", func := "sough/soughlaw08.KnowAll", spec := "knowAll", unfollowed := true, recurses := true, plainKeys := false, apart := false }
def KnowAllSaid : Prop := knowAllRow.holds Try.pinned (OpenSpec.ofChange knowAllSpec)

/-- ITS FALSE NEIGHBOUR: 'it returns false'. Refute it at one input. -/
def knowAllWrong : ChangeSpec := { name := "knowAll", fn := fun _ => fun
  | [d1, d2, d3] => { results := [.lit (.bool false)], args := [d1, d2, d3] }
  | _ => none }
def KnowAllWrongFalsely : Prop := knowAllRow.holds Try.pinned (OpenSpec.ofChange knowAllWrong)

/-- 'soughlaw08.KnowGrows': WHATEVER THE INPUT: true; the input reads as it did. -/
def knowGrowsSpec : ChangeSpec := { name := "knowGrows", fn := fun _ => fun
  | [d1, d2, d3] => { results := [.lit (.bool true)], args := [d1, d2, d3] }
  | _ => none }
def knowGrowsRow : OpenClaim := { program := "ytbaliaodioflfaa", sum := "d2062669393ac30098bf1bebccfe3104e40e403d0d10712b504933cb7bb550bf", func := "sough/soughlaw08.KnowGrows", spec := "knowGrows", unfollowed := true, recurses := true, plainKeys := false, apart := false }
def KnowGrowsSaid : Prop := knowGrowsRow.holds Try.pinned (OpenSpec.ofChange knowGrowsSpec)

/-- ITS FALSE NEIGHBOUR: 'it returns false'. Refute it at one input. -/
def knowGrowsWrong : ChangeSpec := { name := "knowGrows", fn := fun _ => fun
  | [d1, d2, d3] => { results := [.lit (.bool false)], args := [d1, d2, d3] }
  | _ => none }
def KnowGrowsWrongFalsely : Prop := knowGrowsRow.holds Try.pinned (OpenSpec.ofChange knowGrowsWrong)

/-- 'soughlaw08.KnowHides': WHATEVER THE INPUT: true; the input reads as it did. -/
def knowHidesSpec : ChangeSpec := { name := "knowHides", fn := fun _ => fun
  | [d1, d2] => { results := [.lit (.bool true)], args := [d1, d2] }
  | _ => none }
def knowHidesRow : OpenClaim := { program := "ytbaliaodioflfaa", sum := "d2062669393ac30098bf1bebccfe3104e40e403d0d10712b504933cb7bb550bf", func := "sough/soughlaw08.KnowHides", spec := "knowHides", unfollowed := true, recurses := true, plainKeys := false, apart := false }
def KnowHidesSaid : Prop := knowHidesRow.holds Try.pinned (OpenSpec.ofChange knowHidesSpec)

/-- ITS FALSE NEIGHBOUR: 'it returns false'. Refute it at one input. -/
def knowHidesWrong : ChangeSpec := { name := "knowHides", fn := fun _ => fun
  | [d1, d2] => { results := [.lit (.bool false)], args := [d1, d2] }
  | _ => none }
def KnowHidesWrongFalsely : Prop := knowHidesRow.holds Try.pinned (OpenSpec.ofChange knowHidesWrong)

/-- 'soughlaw08.KnowSeals': WHATEVER THE INPUT: true; the input reads as it did. -/
def knowSealsSpec : ChangeSpec := { name := "knowSeals", fn := fun _ => fun
  | [d1, d2, d3] => { results := [.lit (.bool true)], args := [d1, d2, d3] }
  | _ => none }
def knowSealsRow : OpenClaim := { program := "ytbaliaodioflfaa", sum := "d2062669393ac30098bf1bebccfe3104e40e403d0d10712b504933cb7bb550bf", func := "sough/soughlaw08.KnowSeals", spec := "knowSeals", unfollowed := true, recurses := true, plainKeys := false, apart := false }
def KnowSealsSaid : Prop := knowSealsRow.holds Try.pinned (OpenSpec.ofChange knowSealsSpec)

/-- ITS FALSE NEIGHBOUR: 'it returns false'. Refute it at one input. -/
def knowSealsWrong : ChangeSpec := { name := "knowSeals", fn := fun _ => fun
  | [d1, d2, d3] => { results := [.lit (.bool false)], args := [d1, d2, d3] }
  | _ => none }
def KnowSealsWrongFalsely : Prop := knowSealsRow.holds Try.pinned (OpenSpec.ofChange knowSealsWrong)

/-- 'soughlaw08.KnowOrder': WHATEVER THE INPUT: true; the input reads as it did. -/
def knowOrderSpec : ChangeSpec := { name := "knowOrder", fn := fun _ => fun
  | [d1, d2] => { results := [.lit (.bool true)], args := [d1, d2] }
  | _ => none }
def knowOrderRow : OpenClaim := { program := "ytbaliaodioflfaa", sum := "d2062669393ac30098bf1bebccfe3104e40e403d0d10712b504933cb7bb550bf", func := "sough/soughlaw08.KnowOrder", spec := "knowOrder", unfollowed := true, recurses := true, plainKeys := false, apart := false }
def KnowOrderSaid : Prop := knowOrderRow.holds Try.pinned (OpenSpec.ofChange knowOrderSpec)

/-- ITS FALSE NEIGHBOUR: 'it returns false'. Refute it at one input. -/
def knowOrderWrong : ChangeSpec := { name := "knowOrder", fn := fun _ => fun
  | [d1, d2] => { results := [.lit (.bool false)], args := [d1, d2] }
  | _ => none }
def KnowOrderWrongFalsely : Prop := knowOrderRow.holds Try.pinned (OpenSpec.ofChange knowOrderWrong)

/-- 'soughlaw08.KnowAsks': WHATEVER THE INPUT: true; the input reads as it did. -/
def knowAsksSpec : ChangeSpec := { name := "knowAsks", fn := fun _ => fun
  | [d1, d2, d3] => { results := [.lit (.bool true)], args := [d1, d2, d3] }
  | _ => none }
def knowAsksRow : OpenClaim := { program := "ytbaliaodioflfaa", sum := "d2062669393ac30098bf1bebccfe3104e40e403d0d10712b504933cb7bb550bf", func := "sough/soughlaw08.KnowAsks", spec := "knowAsks", unfollowed := true, recurses := true, plainKeys := false, apart := false }
def KnowAsksSaid : Prop := knowAsksRow.holds Try.pinned (OpenSpec.ofChange knowAsksSpec)

/-- ITS FALSE NEIGHBOUR: 'it returns false'. Refute it at one input. -/
def knowAsksWrong : ChangeSpec := { name := "knowAsks", fn := fun _ => fun
  | [d1, d2, d3] => { results := [.lit (.bool false)], args := [d1, d2, d3] }
  | _ => none }
def KnowAsksWrongFalsely : Prop := knowAsksRow.holds Try.pinned (OpenSpec.ofChange knowAsksWrong)

/-- 'soughlaw08.KnowShares': WHATEVER THE INPUT: true; the input reads as it did. -/
def knowSharesSpec : ChangeSpec := { name := "knowShares", fn := fun _ => fun
  | [d1, d2, d3] => { results := [.lit (.bool true)], args := [d1, d2, d3] }
  | _ => none }
def knowSharesRow : OpenClaim := { program := "ytbaliaodioflfaa", sum := "d2062669393ac30098bf1bebccfe3104e40e403d0d10712b504933cb7bb550bf", func := "sough/soughlaw08.KnowShares", spec := "knowShares", unfollowed := true, recurses := true, plainKeys := false, apart := false }
def KnowSharesSaid : Prop := knowSharesRow.holds Try.pinned (OpenSpec.ofChange knowSharesSpec)

/-- ITS FALSE NEIGHBOUR: 'it returns false'. Refute it at one input. -/
def knowSharesWrong : ChangeSpec := { name := "knowShares", fn := fun _ => fun
  | [d1, d2, d3] => { results := [.lit (.bool false)], args := [d1, d2, d3] }
  | _ => none }
def KnowSharesWrongFalsely : Prop := knowSharesRow.holds Try.pinned (OpenSpec.ofChange knowSharesWrong)

/-- 'soughlaw16.SkipDoes': WHATEVER THE INPUT: true; the input reads as it did. -/
def skipDoesSpec : ChangeSpec := { name := "skipDoes", fn := fun _ => fun
  | [d1, d2] => { results := [.lit (.bool true)], args := [d1, d2] }
  | _ => none }
def skipDoesRow : OpenClaim := { program := "ytbaliaodioflfaa", sum := "d2062669393ac30098bf1bebccfe3104e40e403d0d10712b504933cb7bb550bf", func := "sough/soughlaw16.SkipDoes", spec := "skipDoes", inPlace := ["slices.overlaps[sough/skip.Entry]"], unfollowed := true, recurses := true, plainKeys := false, apart := false }
def SkipDoesSaid : Prop := skipDoesRow.holds Try.pinned (OpenSpec.ofChange skipDoesSpec)

/-- ITS FALSE NEIGHBOUR: 'it returns false'. Refute it at one input. -/
def skipDoesWrong : ChangeSpec := { name := "skipDoes", fn := fun _ => fun
  | [d1, d2] => { results := [.lit (.bool false)], args := [d1, d2] }
  | _ => none }
def SkipDoesWrongFalsely : Prop := skipDoesRow.holds Try.pinned (OpenSpec.ofChange skipDoesWrong)

/-- 'soughlaw16.SkipBounds': WHATEVER THE INPUT: true; the input reads as it did. -/
def skipBoundsSpec : ChangeSpec := { name := "skipBounds", fn := fun _ => fun
  | [d] => { results := [.lit (.bool true)], args := [d] }
  | _ => none }
def skipBoundsRow : OpenClaim := { program := "ytbaliaodioflfaa", sum := "d2062669393ac30098bf1bebccfe3104e40e403d0d10712b504933cb7bb550bf", func := "sough/soughlaw16.SkipBounds", spec := "skipBounds", inPlace := ["slices.overlaps[sough/skip.Entry]"], unfollowed := true, recurses := true, plainKeys := false, apart := false }
def SkipBoundsSaid : Prop := skipBoundsRow.holds Try.pinned (OpenSpec.ofChange skipBoundsSpec)

/-- ITS FALSE NEIGHBOUR: 'it returns false'. Refute it at one input. -/
def skipBoundsWrong : ChangeSpec := { name := "skipBounds", fn := fun _ => fun
  | [d] => { results := [.lit (.bool false)], args := [d] }
  | _ => none }
def SkipBoundsWrongFalsely : Prop := skipBoundsRow.holds Try.pinned (OpenSpec.ofChange skipBoundsWrong)

/-- 'soughlaw16.SkipCopies': WHATEVER THE INPUT: true; the input reads as it did. -/
def skipCopiesSpec : ChangeSpec := { name := "skipCopies", fn := fun _ => fun
  | [d1, d2] => { results := [.lit (.bool true)], args := [d1, d2] }
  | _ => none }
def skipCopiesRow : OpenClaim := { program := "ytbaliaodioflfaa", sum := "d2062669393ac30098bf1bebccfe3104e40e403d0d10712b504933cb7bb550bf", func := "sough/soughlaw16.SkipCopies", spec := "skipCopies", inPlace := ["slices.overlaps[sough/skip.Entry]"], unfollowed := true, recurses := true, plainKeys := false, apart := false }
def SkipCopiesSaid : Prop := skipCopiesRow.holds Try.pinned (OpenSpec.ofChange skipCopiesSpec)

/-- ITS FALSE NEIGHBOUR: 'it returns false'. Refute it at one input. -/
def skipCopiesWrong : ChangeSpec := { name := "skipCopies", fn := fun _ => fun
  | [d1, d2] => { results := [.lit (.bool false)], args := [d1, d2] }
  | _ => none }
def SkipCopiesWrongFalsely : Prop := skipCopiesRow.holds Try.pinned (OpenSpec.ofChange skipCopiesWrong)

/-- 'soughlaw16.SkipOrder': WHATEVER THE INPUT: true; the input reads as it did. -/
def skipOrderSpec : ChangeSpec := { name := "skipOrder", fn := fun _ => fun
  | [d] => { results := [.lit (.bool true)], args := [d] }
  | _ => none }
def skipOrderRow : OpenClaim := { program := "ytbaliaodioflfaa", sum := "d2062669393ac30098bf1bebccfe3104e40e403d0d10712b504933cb7bb550bf", func := "sough/soughlaw16.SkipOrder", spec := "skipOrder", inPlace := ["slices.overlaps[sough/skip.Entry]"], unfollowed := true, recurses := true, plainKeys := false, apart := false }
def SkipOrderSaid : Prop := skipOrderRow.holds Try.pinned (OpenSpec.ofChange skipOrderSpec)

/-- ITS FALSE NEIGHBOUR: 'it returns false'. Refute it at one input. -/
def skipOrderWrong : ChangeSpec := { name := "skipOrder", fn := fun _ => fun
  | [d] => { results := [.lit (.bool false)], args := [d] }
  | _ => none }
def SkipOrderWrongFalsely : Prop := skipOrderRow.holds Try.pinned (OpenSpec.ofChange skipOrderWrong)

/-- 'soughlaw16.SkipLeast': WHATEVER THE INPUT: true; the input reads as it did. -/
def skipLeastSpec : ChangeSpec := { name := "skipLeast", fn := fun _ => fun
  | [d1, d2] => { results := [.lit (.bool true)], args := [d1, d2] }
  | _ => none }
def skipLeastRow : OpenClaim := { program := "ytbaliaodioflfaa", sum := "d2062669393ac30098bf1bebccfe3104e40e403d0d10712b504933cb7bb550bf", func := "sough/soughlaw16.SkipLeast", spec := "skipLeast", inPlace := ["slices.overlaps[sough/skip.Entry]"], unfollowed := true, recurses := true, plainKeys := false, apart := false }
def SkipLeastSaid : Prop := skipLeastRow.holds Try.pinned (OpenSpec.ofChange skipLeastSpec)

/-- ITS FALSE NEIGHBOUR: 'it returns false'. Refute it at one input. -/
def skipLeastWrong : ChangeSpec := { name := "skipLeast", fn := fun _ => fun
  | [d1, d2] => { results := [.lit (.bool false)], args := [d1, d2] }
  | _ => none }
def SkipLeastWrongFalsely : Prop := skipLeastRow.holds Try.pinned (OpenSpec.ofChange skipLeastWrong)

/-- 'soughlaw08.KnowWraps': WHATEVER THE INPUT: true; the input reads as it did. -/
def knowWrapsSpec : ChangeSpec := { name := "knowWraps", fn := fun _ => fun
  | [d1, d2, d3] => { results := [.lit (.bool true)], args := [d1, d2, d3] }
  | _ => none }
def knowWrapsRow : OpenClaim := { program := "ytbaliaodioflfaa", sum := "d2062669393ac30098bf1bebccfe3104e40e403d0d10712b504933cb7bb550bf", func := "sough/soughlaw08.KnowWraps", spec := "knowWraps", unfollowed := true, recurses := true, plainKeys := false, apart := false }
def KnowWrapsSaid : Prop := knowWrapsRow.holds Try.pinned (OpenSpec.ofChange knowWrapsSpec)

/-- ITS FALSE NEIGHBOUR: 'it returns false'. Refute it at one input. -/
def knowWrapsWrong : ChangeSpec := { name := "knowWraps", fn := fun _ => fun
  | [d1, d2, d3] => { results := [.lit (.bool false)], args := [d1, d2, d3] }
  | _ => none }
def KnowWrapsWrongFalsely : Prop := knowWrapsRow.holds Try.pinned (OpenSpec.ofChange knowWrapsWrong)

/- THE SECOND FORM. 'bulk': how many values and letters a reading holds, each counted each time it is reached (what is shared counts as often as it is met; a slice's spare places count too). A statement '..UptoSaid' is the law's where the arguments, and the package variables that the reading takes, are together of bulk at most 1048576: NARROWER than '..Said'. Prove '..Said' where nothing that the law and all that it calls make is longer than what came in: it says more and counts as full. Else prove '..UptoSaid'. A law counts once. -/
mutual
def uptoBulk {H : Type} : DataW H → Nat
  | .lit (.string bytes) => bytes.length + 1
  | .lit _ => 1
  | .nil => 1
  | .ptr d => uptoBulk d + 1
  | .slice elems spare => uptoBulkAll elems + uptoBulkAll spare + 1
  | .agg parts => uptoBulkAll parts + 1
  | .iface _ d => uptoBulk d + 1
  | .map entries => uptoBulkEntries entries + 1
  | .held _ => 1
def uptoBulkAll {H : Type} : List (DataW H) → Nat
  | [] => 0
  | d :: r => uptoBulk d + uptoBulkAll r
def uptoBulkEntries {H : Type} : List (Lit × DataW H) → Nat
  | [] => 0
  | x :: r => uptoBulkEntry x + uptoBulkEntries r
def uptoBulkEntry {H : Type} : Lit × DataW H → Nat
  | (.string bytes, d) => bytes.length + uptoBulk d + 1
  | (_, d) => uptoBulk d + 1
 end
def uptoSmall : (H : Type) → List (DataW H) → Bool := fun _ ds => decide (uptoBulkAll ds ≤ 1048576)
def OpenSpec.upto (s : _root_.Go.ChangeSpec) : _root_.Go.OpenSpec := { _root_.Go.OpenSpec.ofChange s with cond := some uptoSmall }

/-- 'soughlaw07.SymDoes', WHERE WHAT IT READS IS OF BULK AT MOST 1048576: true; the input reads as it did. -/
def symDoesUptoRow : OpenClaim := { program := "ytbaliaodioflfaa", sum := "d2062669393ac30098bf1bebccfe3104e40e403d0d10712b504933cb7bb550bf", func := "sough/soughlaw07.SymDoes", spec := "symDoes", unfollowed := true, recurses := true, plainKeys := false, apart := false, narrowed := true }
def SymDoesUptoSaid : Prop := symDoesUptoRow.holds Try.pinned (OpenSpec.upto symDoesSpec)

/-- 'soughlaw07.SymBoth', WHERE WHAT IT READS IS OF BULK AT MOST 1048576: true; the input reads as it did. -/
def symBothUptoRow : OpenClaim := { program := "ytbaliaodioflfaa", sum := "d2062669393ac30098bf1bebccfe3104e40e403d0d10712b504933cb7bb550bf", func := "sough/soughlaw07.SymBoth", spec := "symBoth", unfollowed := true, recurses := true, plainKeys := false, apart := false, narrowed := true }
def SymBothUptoSaid : Prop := symBothUptoRow.holds Try.pinned (OpenSpec.upto symBothSpec)

/-- 'soughlaw07.SymApart', WHERE WHAT IT READS IS OF BULK AT MOST 1048576: true; the input reads as it did. -/
def symApartUptoRow : OpenClaim := { program := "ytbaliaodioflfaa", sum := "d2062669393ac30098bf1bebccfe3104e40e403d0d10712b504933cb7bb550bf", func := "sough/soughlaw07.SymApart", spec := "symApart", unfollowed := true, recurses := true, plainKeys := false, apart := false, narrowed := true }
def SymApartUptoSaid : Prop := symApartUptoRow.holds Try.pinned (OpenSpec.upto symApartSpec)

/-- 'soughlaw07.SymCounts', WHERE WHAT IT READS IS OF BULK AT MOST 1048576: true; the input reads as it did. -/
def symCountsUptoRow : OpenClaim := { program := "ytbaliaodioflfaa", sum := "d2062669393ac30098bf1bebccfe3104e40e403d0d10712b504933cb7bb550bf", func := "sough/soughlaw07.SymCounts", spec := "symCounts", unfollowed := true, recurses := true, plainKeys := false, apart := false, narrowed := true }
def SymCountsUptoSaid : Prop := symCountsUptoRow.holds Try.pinned (OpenSpec.upto symCountsSpec)

/-- 'soughlaw07.SymOnce', WHERE WHAT IT READS IS OF BULK AT MOST 1048576: true; the input reads as it did. -/
def symOnceUptoRow : OpenClaim := { program := "ytbaliaodioflfaa", sum := "d2062669393ac30098bf1bebccfe3104e40e403d0d10712b504933cb7bb550bf", func := "sough/soughlaw07.SymOnce", spec := "symOnce", unfollowed := true, recurses := true, plainKeys := false, apart := false, narrowed := true }
def SymOnceUptoSaid : Prop := symOnceUptoRow.holds Try.pinned (OpenSpec.upto symOnceSpec)

/-- 'soughlaw07.SymSplits', WHERE WHAT IT READS IS OF BULK AT MOST 1048576: true; the input reads as it did. -/
def symSplitsUptoRow : OpenClaim := { program := "ytbaliaodioflfaa", sum := "d2062669393ac30098bf1bebccfe3104e40e403d0d10712b504933cb7bb550bf", func := "sough/soughlaw07.SymSplits", spec := "symSplits", unfollowed := true, recurses := true, plainKeys := false, apart := false, narrowed := true }
def SymSplitsUptoSaid : Prop := symSplitsUptoRow.holds Try.pinned (OpenSpec.upto symSplitsSpec)

/-- 'soughlaw08.KnowAll', WHERE WHAT IT READS IS OF BULK AT MOST 1048576: true; the input reads as it did. -/
def knowAllUptoRow : OpenClaim := { program := "ytbaliaodioflfaa", sum := "d2062669393ac30098bf1bebccfe3104e40e403d0d10712b504933cb7bb550bf", func := "sough/soughlaw08.KnowAll", spec := "knowAll", unfollowed := true, recurses := true, plainKeys := false, apart := false, narrowed := true }
def KnowAllUptoSaid : Prop := knowAllUptoRow.holds Try.pinned (OpenSpec.upto knowAllSpec)

/-- 'soughlaw08.KnowGrows', WHERE WHAT IT READS IS OF BULK AT MOST 1048576: true; the input reads as it did. -/
def knowGrowsUptoRow : OpenClaim := { program := "ytbaliaodioflfaa", sum := "d2062669393ac30098bf1bebccfe3104e40e403d0d10712b504933cb7bb550bf", func := "sough/soughlaw08.KnowGrows", spec := "knowGrows", unfollowed := true, recurses := true, plainKeys := false, apart := false, narrowed := true }
def KnowGrowsUptoSaid : Prop := knowGrowsUptoRow.holds Try.pinned (OpenSpec.upto knowGrowsSpec)

/-- 'soughlaw08.KnowHides', WHERE WHAT IT READS IS OF BULK AT MOST 1048576: true; the input reads as it did. -/
def knowHidesUptoRow : OpenClaim := { program := "ytbaliaodioflfaa", sum := "d2062669393ac30098bf1bebccfe3104e40e403d0d10712b504933cb7bb550bf", func := "sough/soughlaw08.KnowHides", spec := "knowHides", unfollowed := true, recurses := true, plainKeys := false, apart := false, narrowed := true }
def KnowHidesUptoSaid : Prop := knowHidesUptoRow.holds Try.pinned (OpenSpec.upto knowHidesSpec)

/-- 'soughlaw08.KnowSeals', WHERE WHAT IT READS IS OF BULK AT MOST 1048576: true; the input reads as it did. -/
def knowSealsUptoRow : OpenClaim := { program := "ytbaliaodioflfaa", sum := "d2062669393ac30098bf1bebccfe3104e40e403d0d10712b504933cb7bb550bf", func := "sough/soughlaw08.KnowSeals", spec := "knowSeals", unfollowed := true, recurses := true, plainKeys := false, apart := false, narrowed := true }
def KnowSealsUptoSaid : Prop := knowSealsUptoRow.holds Try.pinned (OpenSpec.upto knowSealsSpec)

/-- 'soughlaw08.KnowOrder', WHERE WHAT IT READS IS OF BULK AT MOST 1048576: true; the input reads as it did. -/
def knowOrderUptoRow : OpenClaim := { program := "ytbaliaodioflfaa", sum := "d2062669393ac30098bf1bebccfe3104e40e403d0d10712b504933cb7bb550bf", func := "sough/soughlaw08.KnowOrder", spec := "knowOrder", unfollowed := true, recurses := true, plainKeys := false, apart := false, narrowed := true }
def KnowOrderUptoSaid : Prop := knowOrderUptoRow.holds Try.pinned (OpenSpec.upto knowOrderSpec)

/-- 'soughlaw08.KnowAsks', WHERE WHAT IT READS IS OF BULK AT MOST 1048576: true; the input reads as it did. -/
def knowAsksUptoRow : OpenClaim := { program := "ytbaliaodioflfaa", sum := "d2062669393ac30098bf1bebccfe3104e40e403d0d10712b504933cb7bb550bf", func := "sough/soughlaw08.KnowAsks", spec := "knowAsks", unfollowed := true, recurses := true, plainKeys := false, apart := false, narrowed := true }
def KnowAsksUptoSaid : Prop := knowAsksUptoRow.holds Try.pinned (OpenSpec.upto knowAsksSpec)

/-- 'soughlaw08.KnowShares', WHERE WHAT IT READS IS OF BULK AT MOST 1048576: true; the input reads as it did. -/
def knowSharesUptoRow : OpenClaim := { program := "ytbaliaodioflfaa", sum := "d2062669393ac30098bf1bebccfe3104e40e403d0d10712b504933cb7bb550bf", func := "sough/soughlaw08.KnowShares", spec := "knowShares", unfollowed := true, recurses := true, plainKeys := false, apart := false, narrowed := true }
def KnowSharesUptoSaid : Prop := knowSharesUptoRow.holds Try.pinned (OpenSpec.upto knowSharesSpec)

/-- 'soughlaw16.SkipDoes', WHERE WHAT IT READS IS OF BULK AT MOST 1048576: true; the input reads as it did. -/
def skipDoesUptoRow : OpenClaim := { program := "ytbaliaodioflfaa", sum := "d2062669393ac30098bf1bebccfe3104e40e403d0d10712b504933cb7bb550bf", func := "sough/soughlaw16.SkipDoes", spec := "skipDoes", inPlace := ["slices.overlaps[sough/skip.Entry]"], unfollowed := true, recurses := true, plainKeys := false, apart := false, narrowed := true }
def SkipDoesUptoSaid : Prop := skipDoesUptoRow.holds Try.pinned (OpenSpec.upto skipDoesSpec)

/-- 'soughlaw16.SkipBounds', WHERE WHAT IT READS IS OF BULK AT MOST 1048576: true; the input reads as it did. -/
def skipBoundsUptoRow : OpenClaim := { program := "ytbaliaodioflfaa", sum := "d2062669393ac30098bf1bebccfe3104e40e403d0d10712b504933cb7bb550bf", func := "sough/soughlaw16.SkipBounds", spec := "skipBounds", inPlace := ["slices.overlaps[sough/skip.Entry]"], unfollowed := true, recurses := true, plainKeys := false, apart := false, narrowed := true }
def SkipBoundsUptoSaid : Prop := skipBoundsUptoRow.holds Try.pinned (OpenSpec.upto skipBoundsSpec)

/-- 'soughlaw16.SkipCopies', WHERE WHAT IT READS IS OF BULK AT MOST 1048576: true; the input reads as it did. -/
def skipCopiesUptoRow : OpenClaim := { program := "ytbaliaodioflfaa", sum := "d2062669393ac30098bf1bebccfe3104e40e403d0d10712b504933cb7bb550bf", func := "sough/soughlaw16.SkipCopies", spec := "skipCopies", inPlace := ["slices.overlaps[sough/skip.Entry]"], unfollowed := true, recurses := true, plainKeys := false, apart := false, narrowed := true }
def SkipCopiesUptoSaid : Prop := skipCopiesUptoRow.holds Try.pinned (OpenSpec.upto skipCopiesSpec)

/-- 'soughlaw16.SkipOrder', WHERE WHAT IT READS IS OF BULK AT MOST 1048576: true; the input reads as it did. -/
def skipOrderUptoRow : OpenClaim := { program := "ytbaliaodioflfaa", sum := "d2062669393ac30098bf1bebccfe3104e40e403d0d10712b504933cb7bb550bf", func := "sough/soughlaw16.SkipOrder", spec := "skipOrder", inPlace := ["slices.overlaps[sough/skip.Entry]"], unfollowed := true, recurses := true, plainKeys := false, apart := false, narrowed := true }
def SkipOrderUptoSaid : Prop := skipOrderUptoRow.holds Try.pinned (OpenSpec.upto skipOrderSpec)

/-- 'soughlaw16.SkipLeast', WHERE WHAT IT READS IS OF BULK AT MOST 1048576: true; the input reads as it did. -/
def skipLeastUptoRow : OpenClaim := { program := "ytbaliaodioflfaa", sum := "d2062669393ac30098bf1bebccfe3104e40e403d0d10712b504933cb7bb550bf", func := "sough/soughlaw16.SkipLeast", spec := "skipLeast", inPlace := ["slices.overlaps[sough/skip.Entry]"], unfollowed := true, recurses := true, plainKeys := false, apart := false, narrowed := true }
def SkipLeastUptoSaid : Prop := skipLeastUptoRow.holds Try.pinned (OpenSpec.upto skipLeastSpec)

/-- 'soughlaw08.KnowWraps', WHERE WHAT IT READS IS OF BULK AT MOST 1048576: true; the input reads as it did. -/
def knowWrapsUptoRow : OpenClaim := { program := "ytbaliaodioflfaa", sum := "d2062669393ac30098bf1bebccfe3104e40e403d0d10712b504933cb7bb550bf", func := "sough/soughlaw08.KnowWraps", spec := "knowWraps", unfollowed := true, recurses := true, plainKeys := false, apart := false, narrowed := true }
def KnowWrapsUptoSaid : Prop := knowWrapsUptoRow.holds Try.pinned (OpenSpec.upto knowWrapsSpec)

end Rows
end Go.Proofs.Ytbaliaodioflfaa
