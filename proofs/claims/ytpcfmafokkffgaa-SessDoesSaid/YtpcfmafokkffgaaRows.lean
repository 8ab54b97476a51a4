/-
  No cell of these rows narrows 'for every input' (looked for: loops, veiled, ifaces, maps, wideKeys, modest, calm, conditions, laid).
  DERIVED. THE GIVEN ROWS OF THIS SEAT. 14 by the template 'for every input the law returns true; each argument reads behind the call as it read before'; 0 by the template 'total and deterministic' (their statements: YtpcfmafokkffgaaTotals.lean).
  GIVEN WITH THE SEED: the statements are not yours to turn. If you find one false, say at which input.
  Laid BY PROGRAM, IN A SANDBOX (cutbox-rows.mjs): the forced cells as the released guide's own fill.sh prints them over the translation 9b50f2023ad2bff8… (all of the seat's roots in one cut). By AI agents, Wed Nov 11 2026. No macro, syntax, notation, axiom, sorry.
-/
import Derived.Test.YtpcfmafokkffgaaChecked
import GoSem.Claim
import GoSem.ClaimJoined
import GoSem.ClaimMapViews
import Derived.JoinedTies
import Derived.KernelRfl
namespace Go.Proofs.Ytpcfmafokkffgaa
/- THE CELL 'sum', in the pinned program and in every row, IS THE sha256 OF THE DUMP (.gsa) THAT YtpcfmafokkffgaaProg.lean LOADS. Nothing in Lean hashes anything: it is a label: what it is worth is what the hold of that sum in a sandbox is worth. -/
noncomputable def Try.pinned : Pinned := { name := "ytpcfmafokkffgaa", sum := "9b50f2023ad2bff807927232727b731de13f8aef1d4d24b8fdf23079ae1e90e2", checked := Try.checked }
namespace Rows
def none {H : Type} : Left H := { results := [], args := [] }

/-- 'soughlaw15.ChainSteps': WHATEVER THE INPUT: true; the input reads as it did. -/
def chainStepsSpec : ChangeSpec := { name := "chainSteps", fn := fun _ => fun
  | [d1, d2] => { results := [.lit (.bool true)], args := [d1, d2] }
  | _ => none }
def chainStepsRow : OpenClaim := { program := "ytpcfmafokkffgaa", sum := "9b50f2023ad2bff807927232727b731de13f8aef1d4d24b8fdf23079ae1e90e2", func := "sough/soughlaw15.ChainSteps", spec := "chainSteps", unfollowed := true, recurses := true, plainKeys := false, apart := false }
def ChainStepsSaid : Prop := chainStepsRow.holds Try.pinned (OpenSpec.ofChange chainStepsSpec)

/-- ITS FALSE NEIGHBOUR: 'it returns false'. Refute it at one input. -/
def chainStepsWrong : ChangeSpec := { name := "chainSteps", fn := fun _ => fun
  | [d1, d2] => { results := [.lit (.bool false)], args := [d1, d2] }
  | _ => none }
def ChainStepsWrongFalsely : Prop := chainStepsRow.holds Try.pinned (OpenSpec.ofChange chainStepsWrong)

/-- 'soughlaw15.ChainLimits': WHATEVER THE INPUT: true; the input reads as it did. -/
def chainLimitsSpec : ChangeSpec := { name := "chainLimits", fn := fun _ => fun
  | [d1, d2] => { results := [.lit (.bool true)], args := [d1, d2] }
  | _ => none }
def chainLimitsRow : OpenClaim := { program := "ytpcfmafokkffgaa", sum := "9b50f2023ad2bff807927232727b731de13f8aef1d4d24b8fdf23079ae1e90e2", func := "sough/soughlaw15.ChainLimits", spec := "chainLimits", unfollowed := true, recurses := true, plainKeys := false, apart := false }
def ChainLimitsSaid : Prop := chainLimitsRow.holds Try.pinned (OpenSpec.ofChange chainLimitsSpec)

/-- ITS FALSE NEIGHBOUR: 'it returns false'. Refute it at one input. -/
def chainLimitsWrong : ChangeSpec := { name := "chainLimits", fn := fun _ => fun
  | [d1, d2] => { results := [.lit (.bool false)], args := [d1, d2] }
  | _ => none }
def ChainLimitsWrongFalsely : Prop := chainLimitsRow.holds Try.pinned (OpenSpec.ofChange chainLimitsWrong)

/-- 'soughlaw15.ChainApart': WHATEVER THE INPUT: true; the input reads as it did. -/
def chainApartSpec : ChangeSpec := { name := "chainApart", fn := fun _ => fun
  | [d1, d2, d3] => { results := [.lit (.bool true)], args := [d1, d2, d3] }
  | _ => none }
def chainApartRow : OpenClaim := { program := "ytpcfmafokkffgaa", sum := "9b50f2023ad2bff807927232727b731de13f8aef1d4d24b8fdf23079ae1e90e2", func := "sough/soughlaw15.ChainApart", spec := "chainApart", unfollowed := true, recurses := true, plainKeys := false, apart := false }
def ChainApartSaid : Prop := chainApartRow.holds Try.pinned (OpenSpec.ofChange chainApartSpec)

/-- ITS FALSE NEIGHBOUR: 'it returns false'. Refute it at one input. -/
def chainApartWrong : ChangeSpec := { name := "chainApart", fn := fun _ => fun
  | [d1, d2, d3] => { results := [.lit (.bool false)], args := [d1, d2, d3] }
  | _ => none }
def ChainApartWrongFalsely : Prop := chainApartRow.holds Try.pinned (OpenSpec.ofChange chainApartWrong)

/-- 'soughlaw15.ChainStays': WHATEVER THE INPUT: true; the input reads as it did. -/
def chainStaysSpec : ChangeSpec := { name := "chainStays", fn := fun _ => fun
  | [d1, d2] => { results := [.lit (.bool true)], args := [d1, d2] }
  | _ => none }
def chainStaysRow : OpenClaim := { program := "ytpcfmafokkffgaa", sum := "9b50f2023ad2bff807927232727b731de13f8aef1d4d24b8fdf23079ae1e90e2", func := "sough/soughlaw15.ChainStays", spec := "chainStays", unfollowed := true, recurses := true, plainKeys := false, apart := false }
def ChainStaysSaid : Prop := chainStaysRow.holds Try.pinned (OpenSpec.ofChange chainStaysSpec)

/-- ITS FALSE NEIGHBOUR: 'it returns false'. Refute it at one input. -/
def chainStaysWrong : ChangeSpec := { name := "chainStays", fn := fun _ => fun
  | [d1, d2] => { results := [.lit (.bool false)], args := [d1, d2] }
  | _ => none }
def ChainStaysWrongFalsely : Prop := chainStaysRow.holds Try.pinned (OpenSpec.ofChange chainStaysWrong)

/-- 'soughlaw15.ChainTells': WHATEVER THE INPUT: true; the input reads as it did. -/
def chainTellsSpec : ChangeSpec := { name := "chainTells", fn := fun _ => fun
  | [d1, d2] => { results := [.lit (.bool true)], args := [d1, d2] }
  | _ => none }
def chainTellsRow : OpenClaim := { program := "ytpcfmafokkffgaa", sum := "9b50f2023ad2bff807927232727b731de13f8aef1d4d24b8fdf23079ae1e90e2", func := "sough/soughlaw15.ChainTells", spec := "chainTells", unfollowed := true, recurses := true, plainKeys := false, apart := false }
def ChainTellsSaid : Prop := chainTellsRow.holds Try.pinned (OpenSpec.ofChange chainTellsSpec)

/-- ITS FALSE NEIGHBOUR: 'it returns false'. Refute it at one input. -/
def chainTellsWrong : ChangeSpec := { name := "chainTells", fn := fun _ => fun
  | [d1, d2] => { results := [.lit (.bool false)], args := [d1, d2] }
  | _ => none }
def ChainTellsWrongFalsely : Prop := chainTellsRow.holds Try.pinned (OpenSpec.ofChange chainTellsWrong)

/-- 'soughlaw15.ChainBack': WHATEVER THE INPUT: true; the input reads as it did. -/
def chainBackSpec : ChangeSpec := { name := "chainBack", fn := fun _ => fun
  | [d1, d2] => { results := [.lit (.bool true)], args := [d1, d2] }
  | _ => none }
def chainBackRow : OpenClaim := { program := "ytpcfmafokkffgaa", sum := "9b50f2023ad2bff807927232727b731de13f8aef1d4d24b8fdf23079ae1e90e2", func := "sough/soughlaw15.ChainBack", spec := "chainBack", unfollowed := true, recurses := true, plainKeys := false, apart := false }
def ChainBackSaid : Prop := chainBackRow.holds Try.pinned (OpenSpec.ofChange chainBackSpec)

/-- ITS FALSE NEIGHBOUR: 'it returns false'. Refute it at one input. -/
def chainBackWrong : ChangeSpec := { name := "chainBack", fn := fun _ => fun
  | [d1, d2] => { results := [.lit (.bool false)], args := [d1, d2] }
  | _ => none }
def ChainBackWrongFalsely : Prop := chainBackRow.holds Try.pinned (OpenSpec.ofChange chainBackWrong)

/-- 'soughlaw19.SessDoes': WHATEVER THE INPUT: true; the input reads as it did. -/
def sessDoesSpec : ChangeSpec := { name := "sessDoes", fn := fun _ => fun
  | [d1, d2, d3] => { results := [.lit (.bool true)], args := [d1, d2, d3] }
  | _ => none }
def sessDoesRow : OpenClaim := { program := "ytpcfmafokkffgaa", sum := "9b50f2023ad2bff807927232727b731de13f8aef1d4d24b8fdf23079ae1e90e2", func := "sough/soughlaw19.SessDoes", spec := "sessDoes", inPlace := ["slices.overlaps[sough/skip.Entry]"], unfollowed := true, recurses := true, plainKeys := false, apart := false }
def SessDoesSaid : Prop := sessDoesRow.holds Try.pinned (OpenSpec.ofChange sessDoesSpec)

/-- ITS FALSE NEIGHBOUR: 'it returns false'. Refute it at one input. -/
def sessDoesWrong : ChangeSpec := { name := "sessDoes", fn := fun _ => fun
  | [d1, d2, d3] => { results := [.lit (.bool false)], args := [d1, d2, d3] }
  | _ => none }
def SessDoesWrongFalsely : Prop := sessDoesRow.holds Try.pinned (OpenSpec.ofChange sessDoesWrong)

/-- 'soughlaw19.SessOnce': WHATEVER THE INPUT: true; the input reads as it did. -/
def sessOnceSpec : ChangeSpec := { name := "sessOnce", fn := fun _ => fun
  | [d1, d2] => { results := [.lit (.bool true)], args := [d1, d2] }
  | _ => none }
def sessOnceRow : OpenClaim := { program := "ytpcfmafokkffgaa", sum := "9b50f2023ad2bff807927232727b731de13f8aef1d4d24b8fdf23079ae1e90e2", func := "sough/soughlaw19.SessOnce", spec := "sessOnce", inPlace := ["slices.overlaps[sough/skip.Entry]"], unfollowed := true, recurses := true, plainKeys := false, apart := false }
def SessOnceSaid : Prop := sessOnceRow.holds Try.pinned (OpenSpec.ofChange sessOnceSpec)

/-- ITS FALSE NEIGHBOUR: 'it returns false'. Refute it at one input. -/
def sessOnceWrong : ChangeSpec := { name := "sessOnce", fn := fun _ => fun
  | [d1, d2] => { results := [.lit (.bool false)], args := [d1, d2] }
  | _ => none }
def SessOnceWrongFalsely : Prop := sessOnceRow.holds Try.pinned (OpenSpec.ofChange sessOnceWrong)

/-- 'soughlaw19.SessLive': WHATEVER THE INPUT: true; the input reads as it did. -/
def sessLiveSpec : ChangeSpec := { name := "sessLive", fn := fun _ => fun
  | [d] => { results := [.lit (.bool true)], args := [d] }
  | _ => none }
def sessLiveRow : OpenClaim := { program := "ytpcfmafokkffgaa", sum := "9b50f2023ad2bff807927232727b731de13f8aef1d4d24b8fdf23079ae1e90e2", func := "sough/soughlaw19.SessLive", spec := "sessLive", inPlace := ["slices.overlaps[sough/skip.Entry]"], unfollowed := true, recurses := true, plainKeys := false, apart := false }
def SessLiveSaid : Prop := sessLiveRow.holds Try.pinned (OpenSpec.ofChange sessLiveSpec)

/-- ITS FALSE NEIGHBOUR: 'it returns false'. Refute it at one input. -/
def sessLiveWrong : ChangeSpec := { name := "sessLive", fn := fun _ => fun
  | [d] => { results := [.lit (.bool false)], args := [d] }
  | _ => none }
def SessLiveWrongFalsely : Prop := sessLiveRow.holds Try.pinned (OpenSpec.ofChange sessLiveWrong)

/-- 'soughlaw19.SessFull': WHATEVER THE INPUT: true; the input reads as it did. -/
def sessFullSpec : ChangeSpec := { name := "sessFull", fn := fun _ => fun
  | [d] => { results := [.lit (.bool true)], args := [d] }
  | _ => none }
def sessFullRow : OpenClaim := { program := "ytpcfmafokkffgaa", sum := "9b50f2023ad2bff807927232727b731de13f8aef1d4d24b8fdf23079ae1e90e2", func := "sough/soughlaw19.SessFull", spec := "sessFull", inPlace := ["slices.overlaps[sough/skip.Entry]"], unfollowed := true, recurses := true, plainKeys := false, apart := false }
def SessFullSaid : Prop := sessFullRow.holds Try.pinned (OpenSpec.ofChange sessFullSpec)

/-- ITS FALSE NEIGHBOUR: 'it returns false'. Refute it at one input. -/
def sessFullWrong : ChangeSpec := { name := "sessFull", fn := fun _ => fun
  | [d] => { results := [.lit (.bool false)], args := [d] }
  | _ => none }
def SessFullWrongFalsely : Prop := sessFullRow.holds Try.pinned (OpenSpec.ofChange sessFullWrong)

/-- 'soughlaw19.SessFar': WHATEVER THE INPUT: true; the input reads as it did. -/
def sessFarSpec : ChangeSpec := { name := "sessFar", fn := fun _ => fun
  | [d] => { results := [.lit (.bool true)], args := [d] }
  | _ => none }
def sessFarRow : OpenClaim := { program := "ytpcfmafokkffgaa", sum := "9b50f2023ad2bff807927232727b731de13f8aef1d4d24b8fdf23079ae1e90e2", func := "sough/soughlaw19.SessFar", spec := "sessFar", inPlace := ["slices.overlaps[sough/skip.Entry]"], unfollowed := true, recurses := true, plainKeys := false, apart := false }
def SessFarSaid : Prop := sessFarRow.holds Try.pinned (OpenSpec.ofChange sessFarSpec)

/-- ITS FALSE NEIGHBOUR: 'it returns false'. Refute it at one input. -/
def sessFarWrong : ChangeSpec := { name := "sessFar", fn := fun _ => fun
  | [d] => { results := [.lit (.bool false)], args := [d] }
  | _ => none }
def SessFarWrongFalsely : Prop := sessFarRow.holds Try.pinned (OpenSpec.ofChange sessFarWrong)

/-- 'soughlaw19.SessLate': WHATEVER THE INPUT: true; the input reads as it did. -/
def sessLateSpec : ChangeSpec := { name := "sessLate", fn := fun _ => fun
  | [d1, d2] => { results := [.lit (.bool true)], args := [d1, d2] }
  | _ => none }
def sessLateRow : OpenClaim := { program := "ytpcfmafokkffgaa", sum := "9b50f2023ad2bff807927232727b731de13f8aef1d4d24b8fdf23079ae1e90e2", func := "sough/soughlaw19.SessLate", spec := "sessLate", inPlace := ["slices.overlaps[sough/skip.Entry]"], unfollowed := true, recurses := true, plainKeys := false, apart := false }
def SessLateSaid : Prop := sessLateRow.holds Try.pinned (OpenSpec.ofChange sessLateSpec)

/-- ITS FALSE NEIGHBOUR: 'it returns false'. Refute it at one input. -/
def sessLateWrong : ChangeSpec := { name := "sessLate", fn := fun _ => fun
  | [d1, d2] => { results := [.lit (.bool false)], args := [d1, d2] }
  | _ => none }
def SessLateWrongFalsely : Prop := sessLateRow.holds Try.pinned (OpenSpec.ofChange sessLateWrong)

/-- 'soughlaw19.SessApart': WHATEVER THE INPUT: true; the input reads as it did. -/
def sessApartSpec : ChangeSpec := { name := "sessApart", fn := fun _ => fun
  | [d1, d2] => { results := [.lit (.bool true)], args := [d1, d2] }
  | _ => none }
def sessApartRow : OpenClaim := { program := "ytpcfmafokkffgaa", sum := "9b50f2023ad2bff807927232727b731de13f8aef1d4d24b8fdf23079ae1e90e2", func := "sough/soughlaw19.SessApart", spec := "sessApart", inPlace := ["slices.overlaps[sough/skip.Entry]"], unfollowed := true, recurses := true, plainKeys := false, apart := false }
def SessApartSaid : Prop := sessApartRow.holds Try.pinned (OpenSpec.ofChange sessApartSpec)

/-- ITS FALSE NEIGHBOUR: 'it returns false'. Refute it at one input. -/
def sessApartWrong : ChangeSpec := { name := "sessApart", fn := fun _ => fun
  | [d1, d2] => { results := [.lit (.bool false)], args := [d1, d2] }
  | _ => none }
def SessApartWrongFalsely : Prop := sessApartRow.holds Try.pinned (OpenSpec.ofChange sessApartWrong)

/-- 'soughlaw19.SessForward': WHATEVER THE INPUT: true; the input reads as it did. -/
def sessForwardSpec : ChangeSpec := { name := "sessForward", fn := fun _ => fun
  | [d1, d2, d3] => { results := [.lit (.bool true)], args := [d1, d2, d3] }
  | _ => none }
def sessForwardRow : OpenClaim := { program := "ytpcfmafokkffgaa", sum := "9b50f2023ad2bff807927232727b731de13f8aef1d4d24b8fdf23079ae1e90e2", func := "sough/soughlaw19.SessForward", spec := "sessForward", inPlace := ["slices.overlaps[sough/skip.Entry]"], unfollowed := true, recurses := true, plainKeys := false, apart := false }
def SessForwardSaid : Prop := sessForwardRow.holds Try.pinned (OpenSpec.ofChange sessForwardSpec)

/-- ITS FALSE NEIGHBOUR: 'it returns false'. Refute it at one input. -/
def sessForwardWrong : ChangeSpec := { name := "sessForward", fn := fun _ => fun
  | [d1, d2, d3] => { results := [.lit (.bool false)], args := [d1, d2, d3] }
  | _ => none }
def SessForwardWrongFalsely : Prop := sessForwardRow.holds Try.pinned (OpenSpec.ofChange sessForwardWrong)

/- THE SECOND FORM. 'bulk': how many values and letters a reading holds, each counted each time it is reached (what is shared counts as often as it is met; a slice's spare places count too). A statement '..UptoSaid' is the law's where the arguments, and the package variables that the reading takes, are together of bulk at most 1048576: NARROWER than '..Said'. Prove '..Said' where nothing that the law and all that it calls make is longer than what came in: it says more and counts as full. Else prove '..UptoSaid'. A law counts once. -/
mutual
def uptoBulk {H : Type} : DataW H → Nat
  | .lit (.string bytes) => bytes.length + 1
  | .lit _ => 1
  | .nil => 1
  | .ptr d => uptoBulk d + 1
  | .slice elems spare => uptoBulkAll elems + uptoBulkAll spare + 1
  | .agg parts => uptoBulkAll parts + 1
  | .iface _ d => uptoBulk d + 1
  | .map entries => uptoBulkEntries entries + 1
  | .held _ => 1
def uptoBulkAll {H : Type} : List (DataW H) → Nat
  | [] => 0
  | d :: r => uptoBulk d + uptoBulkAll r
def uptoBulkEntries {H : Type} : List (Lit × DataW H) → Nat
  | [] => 0
  | x :: r => uptoBulkEntry x + uptoBulkEntries r
def uptoBulkEntry {H : Type} : Lit × DataW H → Nat
  | (.string bytes, d) => bytes.length + uptoBulk d + 1
  | (_, d) => uptoBulk d + 1
 end
def uptoSmall : (H : Type) → List (DataW H) → Bool := fun _ ds => decide (uptoBulkAll ds ≤ 1048576)
def OpenSpec.upto (s : _root_.Go.ChangeSpec) : _root_.Go.OpenSpec := { _root_.Go.OpenSpec.ofChange s with cond := some uptoSmall }

/-- 'soughlaw15.ChainSteps', WHERE WHAT IT READS IS OF BULK AT MOST 1048576: true; the input reads as it did. -/
def chainStepsUptoRow : OpenClaim := { program := "ytpcfmafokkffgaa", sum := "9b50f2023ad2bff807927232727b731de13f8aef1d4d24b8fdf23079ae1e90e2", func := "sough/soughlaw15.ChainSteps", spec := "chainSteps", unfollowed := true, recurses := true, plainKeys := false, apart := false, narrowed := true }
def ChainStepsUptoSaid : Prop := chainStepsUptoRow.holds Try.pinned (OpenSpec.upto chainStepsSpec)

/-- 'soughlaw15.ChainLimits', WHERE WHAT IT READS IS OF BULK AT MOST 1048576: true; the input reads as it did. -/
def chainLimitsUptoRow : OpenClaim := { program := "ytpcfmafokkffgaa", sum := "9b50f2023ad2bff807927232727b731de13f8aef1d4d24b8fdf23079ae1e90e2", func := "sough/soughlaw15.ChainLimits", spec := "chainLimits", unfollowed := true, recurses := true, plainKeys := false, apart := false, narrowed := true }
def ChainLimitsUptoSaid : Prop := chainLimitsUptoRow.holds Try.pinned (OpenSpec.upto chainLimitsSpec)

/-- 'soughlaw15.ChainApart', WHERE WHAT IT READS IS OF BULK AT MOST 1048576: true; the input reads as it did. -/
def chainApartUptoRow : OpenClaim := { program := "ytpcfmafokkffgaa", sum := "9b50f2023ad2bff807927232727b731de13f8aef1d4d24b8fdf23079ae1e90e2", func := "sough/soughlaw15.ChainApart", spec := "chainApart", unfollowed := true, recurses := true, plainKeys := false, apart := false, narrowed := true }
def ChainApartUptoSaid : Prop := chainApartUptoRow.holds Try.pinned (OpenSpec.upto chainApartSpec)

/-- 'soughlaw15.ChainStays', WHERE WHAT IT READS IS OF BULK AT MOST 1048576: true; the input reads as it did. -/
def chainStaysUptoRow : OpenClaim := { program := "ytpcfmafokkffgaa", sum := "9b50f2023ad2bff807927232727b731de13f8aef1d4d24b8fdf23079ae1e90e2", func := "sough/soughlaw15.ChainStays", spec := "chainStays", unfollowed := true, recurses := true, plainKeys := false, apart := false, narrowed := true }
def ChainStaysUptoSaid : Prop := chainStaysUptoRow.holds Try.pinned (OpenSpec.upto chainStaysSpec)

/-- 'soughlaw15.ChainTells', WHERE WHAT IT READS IS OF BULK AT MOST 1048576: true; the input reads as it did. -/
def chainTellsUptoRow : OpenClaim := { program := "ytpcfmafokkffgaa", sum := "9b50f2023ad2bff807927232727b731de13f8aef1d4d24b8fdf23079ae1e90e2", func := "sough/soughlaw15.ChainTells", spec := "chainTells", unfollowed := true, recurses := true, plainKeys := false, apart := false, narrowed := true }
def ChainTellsUptoSaid : Prop := chainTellsUptoRow.holds Try.pinned (OpenSpec.upto chainTellsSpec)

/-- 'soughlaw15.ChainBack', WHERE WHAT IT READS IS OF BULK AT MOST 1048576: true; the input reads as it did. -/
def chainBackUptoRow : OpenClaim := { program := "ytpcfmafokkffgaa", sum := "9b50f2023ad2bff807927232727b731de13f8aef1d4d24b8fdf23079ae1e90e2", func := "sough/soughlaw15.ChainBack", spec := "chainBack", unfollowed := true, recurses := true, plainKeys := false, apart := false, narrowed := true }
def ChainBackUptoSaid : Prop := chainBackUptoRow.holds Try.pinned (OpenSpec.upto chainBackSpec)

/-- 'soughlaw19.SessDoes', WHERE WHAT IT READS IS OF BULK AT MOST 1048576: true; the input reads as it did. -/
def sessDoesUptoRow : OpenClaim := { program := "ytpcfmafokkffgaa", sum := "9b50f2023ad2bff807927232727b731de13f8aef1d4d24b8fdf23079ae1e90e2", func := "sough/soughlaw19.SessDoes", spec := "sessDoes", inPlace := ["slices.overlaps[sough/skip.Entry]"], unfollowed := true, recurses := true, plainKeys := false, apart := false, narrowed := true }
def SessDoesUptoSaid : Prop := sessDoesUptoRow.holds Try.pinned (OpenSpec.upto sessDoesSpec)

/-- 'soughlaw19.SessOnce', WHERE WHAT IT READS IS OF BULK AT MOST 1048576: true; the input reads as it did. -/
def sessOnceUptoRow : OpenClaim := { program := "ytpcfmafokkffgaa", sum := "9b50f2023ad2bff807927232727b731de13f8aef1d4d24b8fdf23079ae1e90e2", func := "sough/soughlaw19.SessOnce", spec := "sessOnce", inPlace := ["slices.overlaps[sough/skip.Entry]"], unfollowed := true, recurses := true, plainKeys := false, apart := false, narrowed := true }
def SessOnceUptoSaid : Prop := sessOnceUptoRow.holds Try.pinned (OpenSpec.upto sessOnceSpec)

/-- 'soughlaw19.SessLive', WHERE WHAT IT READS IS OF BULK AT MOST 1048576: true; the input reads as it did. -/
def sessLiveUptoRow : OpenClaim := { program := "ytpcfmafokkffgaa", sum := "9b50f2023ad2bff807927232727b731de13f8aef1d4d24b8fdf23079ae1e90e2", func := "sough/soughlaw19.SessLive", spec := "sessLive", inPlace := ["slices.overlaps[sough/skip.Entry]"], unfollowed := true, recurses := true, plainKeys := false, apart := false, narrowed := true }
def SessLiveUptoSaid : Prop := sessLiveUptoRow.holds Try.pinned (OpenSpec.upto sessLiveSpec)

/-- 'soughlaw19.SessFull', WHERE WHAT IT READS IS OF BULK AT MOST 1048576: true; the input reads as it did. -/
def sessFullUptoRow : OpenClaim := { program := "ytpcfmafokkffgaa", sum := "9b50f2023ad2bff807927232727b731de13f8aef1d4d24b8fdf23079ae1e90e2", func := "sough/soughlaw19.SessFull", spec := "sessFull", inPlace := ["slices.overlaps[sough/skip.Entry]"], unfollowed := true, recurses := true, plainKeys := false, apart := false, narrowed := true }
def SessFullUptoSaid : Prop := sessFullUptoRow.holds Try.pinned (OpenSpec.upto sessFullSpec)

/-- 'soughlaw19.SessFar', WHERE WHAT IT READS IS OF BULK AT MOST 1048576: true; the input reads as it did. -/
def sessFarUptoRow : OpenClaim := { program := "ytpcfmafokkffgaa", sum := "9b50f2023ad2bff807927232727b731de13f8aef1d4d24b8fdf23079ae1e90e2", func := "sough/soughlaw19.SessFar", spec := "sessFar", inPlace := ["slices.overlaps[sough/skip.Entry]"], unfollowed := true, recurses := true, plainKeys := false, apart := false, narrowed := true }
def SessFarUptoSaid : Prop := sessFarUptoRow.holds Try.pinned (OpenSpec.upto sessFarSpec)

/-- 'soughlaw19.SessLate', WHERE WHAT IT READS IS OF BULK AT MOST 1048576: true; the input reads as it did. -/
def sessLateUptoRow : OpenClaim := { program := "ytpcfmafokkffgaa", sum := "9b50f2023ad2bff807927232727b731de13f8aef1d4d24b8fdf23079ae1e90e2", func := "sough/soughlaw19.SessLate", spec := "sessLate", inPlace := ["slices.overlaps[sough/skip.Entry]"], unfollowed := true, recurses := true, plainKeys := false, apart := false, narrowed := true }
def SessLateUptoSaid : Prop := sessLateUptoRow.holds Try.pinned (OpenSpec.upto sessLateSpec)

/-- 'soughlaw19.SessApart', WHERE WHAT IT READS IS OF BULK AT MOST 1048576: true; the input reads as it did. -/
def sessApartUptoRow : OpenClaim := { program := "ytpcfmafokkffgaa", sum := "9b50f2023ad2bff807927232727b731de13f8aef1d4d24b8fdf23079ae1e90e2", func := "sough/soughlaw19.SessApart", spec := "sessApart", inPlace := ["slices.overlaps[sough/skip.Entry]"], unfollowed := true, recurses := true, plainKeys := false, apart := false, narrowed := true }
def SessApartUptoSaid : Prop := sessApartUptoRow.holds Try.pinned (OpenSpec.upto sessApartSpec)

/-- 'soughlaw19.SessForward', WHERE WHAT IT READS IS OF BULK AT MOST 1048576: true; the input reads as it did. -/
def sessForwardUptoRow : OpenClaim := { program := "ytpcfmafokkffgaa", sum := "9b50f2023ad2bff807927232727b731de13f8aef1d4d24b8fdf23079ae1e90e2", func := "sough/soughlaw19.SessForward", spec := "sessForward", inPlace := ["slices.overlaps[sough/skip.Entry]"], unfollowed := true, recurses := true, plainKeys := false, apart := false, narrowed := true }
def SessForwardUptoSaid : Prop := sessForwardUptoRow.holds Try.pinned (OpenSpec.upto sessForwardSpec)

end Rows
end Go.Proofs.Ytpcfmafokkffgaa
