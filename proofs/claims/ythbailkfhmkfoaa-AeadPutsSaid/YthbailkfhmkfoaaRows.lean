/-
  No cell of these rows narrows 'for every input' (looked for: loops, veiled, ifaces, maps, wideKeys, modest, calm, conditions, laid).
  DERIVED. THE GIVEN ROWS OF THIS SEAT. 23 by the template 'for every input the law returns true; each argument reads behind the call as it read before'; 0 by the template 'total and deterministic' (their statements: YthbailkfhmkfoaaTotals.lean).
  GIVEN WITH THE SEED: the statements are not yours to turn. If you find one false, say at which input.
  Laid BY PROGRAM, IN A SANDBOX (cutbox-rows.mjs): the forced cells as the released guide's own fill.sh prints them over the translation c20f46a0b111c95d… (all of the seat's roots in one cut). By AI agents, Wed Nov 11 2026. No macro, syntax, notation, axiom, sorry.
-/
import Derived.Test.YthbailkfhmkfoaaChecked
import GoSem.Claim
import GoSem.ClaimJoined
import GoSem.ClaimMapViews
import Derived.JoinedTies
import Derived.KernelRfl
namespace Go.Proofs.Ythbailkfhmkfoaa
/- THE CELL 'sum', in the pinned program and in every row, IS THE sha256 OF THE DUMP (.gsa) THAT YthbailkfhmkfoaaProg.lean LOADS. Nothing in Lean hashes anything: it is a label: what it is worth is what the hold of that sum in a sandbox is worth. -/
noncomputable def Try.pinned : Pinned := { name := "ythbailkfhmkfoaa", sum := "c20f46a0b111c95d9eda40125c0fe4e11be06610f58cda4d580d9a8dbbe56539", checked := Try.checked }
namespace Rows
def none {H : Type} : Left H := { results := [], args := [] }

/-- 'soughlaw04.KemTells': WHATEVER THE INPUT: true; the input reads as it did. -/
def kemTellsSpec : ChangeSpec := { name := "kemTells", fn := fun _ => fun
  | [d1, d2] => { results := [.lit (.bool true)], args := [d1, d2] }
  | _ => none }
def kemTellsRow : OpenClaim := { program := "ythbailkfhmkfoaa", sum := "c20f46a0b111c95d9eda40125c0fe4e11be06610f58cda4d580d9a8dbbe56539", func := "sough/soughlaw04.KemTells", spec := "kemTells", plainKeys := false, apart := false }
def KemTellsSaid : Prop := kemTellsRow.holds Try.pinned (OpenSpec.ofChange kemTellsSpec)

/-- ITS FALSE NEIGHBOUR: 'it returns false'. Refute it at one input. -/
def kemTellsWrong : ChangeSpec := { name := "kemTells", fn := fun _ => fun
  | [d1, d2] => { results := [.lit (.bool false)], args := [d1, d2] }
  | _ => none }
def KemTellsWrongFalsely : Prop := kemTellsRow.holds Try.pinned (OpenSpec.ofChange kemTellsWrong)

/-- 'soughlaw04.KemBack': WHATEVER THE INPUT: true; the input reads as it did. -/
def kemBackSpec : ChangeSpec := { name := "kemBack", fn := fun _ => fun
  | [d1, d2] => { results := [.lit (.bool true)], args := [d1, d2] }
  | _ => none }
def kemBackRow : OpenClaim := { program := "ythbailkfhmkfoaa", sum := "c20f46a0b111c95d9eda40125c0fe4e11be06610f58cda4d580d9a8dbbe56539", func := "sough/soughlaw04.KemBack", spec := "kemBack", plainKeys := false, apart := false }
def KemBackSaid : Prop := kemBackRow.holds Try.pinned (OpenSpec.ofChange kemBackSpec)

/-- ITS FALSE NEIGHBOUR: 'it returns false'. Refute it at one input. -/
def kemBackWrong : ChangeSpec := { name := "kemBack", fn := fun _ => fun
  | [d1, d2] => { results := [.lit (.bool false)], args := [d1, d2] }
  | _ => none }
def KemBackWrongFalsely : Prop := kemBackRow.holds Try.pinned (OpenSpec.ofChange kemBackWrong)

/-- 'soughlaw04.KemRoom': WHATEVER THE INPUT: true; the input reads as it did. -/
def kemRoomSpec : ChangeSpec := { name := "kemRoom", fn := fun _ => fun
  | [d] => { results := [.lit (.bool true)], args := [d] }
  | _ => none }
def kemRoomRow : OpenClaim := { program := "ythbailkfhmkfoaa", sum := "c20f46a0b111c95d9eda40125c0fe4e11be06610f58cda4d580d9a8dbbe56539", func := "sough/soughlaw04.KemRoom", spec := "kemRoom", plainKeys := false, apart := false }
def KemRoomSaid : Prop := kemRoomRow.holds Try.pinned (OpenSpec.ofChange kemRoomSpec)

/-- ITS FALSE NEIGHBOUR: 'it returns false'. Refute it at one input. -/
def kemRoomWrong : ChangeSpec := { name := "kemRoom", fn := fun _ => fun
  | [d] => { results := [.lit (.bool false)], args := [d] }
  | _ => none }
def KemRoomWrongFalsely : Prop := kemRoomRow.holds Try.pinned (OpenSpec.ofChange kemRoomWrong)

/-- 'soughlaw04.KemPuts': WHATEVER THE INPUT: true; the input reads as it did. -/
def kemPutsSpec : ChangeSpec := { name := "kemPuts", fn := fun _ => fun
  | [d1, d2] => { results := [.lit (.bool true)], args := [d1, d2] }
  | _ => none }
def kemPutsRow : OpenClaim := { program := "ythbailkfhmkfoaa", sum := "c20f46a0b111c95d9eda40125c0fe4e11be06610f58cda4d580d9a8dbbe56539", func := "sough/soughlaw04.KemPuts", spec := "kemPuts", plainKeys := false, apart := false }
def KemPutsSaid : Prop := kemPutsRow.holds Try.pinned (OpenSpec.ofChange kemPutsSpec)

/-- ITS FALSE NEIGHBOUR: 'it returns false'. Refute it at one input. -/
def kemPutsWrong : ChangeSpec := { name := "kemPuts", fn := fun _ => fun
  | [d1, d2] => { results := [.lit (.bool false)], args := [d1, d2] }
  | _ => none }
def KemPutsWrongFalsely : Prop := kemPutsRow.holds Try.pinned (OpenSpec.ofChange kemPutsWrong)

/-- 'soughlaw04.KemOpens': WHATEVER THE INPUT: true; the input reads as it did. -/
def kemOpensSpec : ChangeSpec := { name := "kemOpens", fn := fun _ => fun
  | [d1, d2] => { results := [.lit (.bool true)], args := [d1, d2] }
  | _ => none }
def kemOpensRow : OpenClaim := { program := "ythbailkfhmkfoaa", sum := "c20f46a0b111c95d9eda40125c0fe4e11be06610f58cda4d580d9a8dbbe56539", func := "sough/soughlaw04.KemOpens", spec := "kemOpens", plainKeys := false, apart := false }
def KemOpensSaid : Prop := kemOpensRow.holds Try.pinned (OpenSpec.ofChange kemOpensSpec)

/-- ITS FALSE NEIGHBOUR: 'it returns false'. Refute it at one input. -/
def kemOpensWrong : ChangeSpec := { name := "kemOpens", fn := fun _ => fun
  | [d1, d2] => { results := [.lit (.bool false)], args := [d1, d2] }
  | _ => none }
def KemOpensWrongFalsely : Prop := kemOpensRow.holds Try.pinned (OpenSpec.ofChange kemOpensWrong)

/-- 'soughlaw06.KdfTells': WHATEVER THE INPUT: true; the input reads as it did. -/
def kdfTellsSpec : ChangeSpec := { name := "kdfTells", fn := fun _ => fun
  | [d1, d2, d3] => { results := [.lit (.bool true)], args := [d1, d2, d3] }
  | _ => none }
def kdfTellsRow : OpenClaim := { program := "ythbailkfhmkfoaa", sum := "c20f46a0b111c95d9eda40125c0fe4e11be06610f58cda4d580d9a8dbbe56539", func := "sough/soughlaw06.KdfTells", spec := "kdfTells", unfollowed := true, recurses := true, plainKeys := false, apart := false }
def KdfTellsSaid : Prop := kdfTellsRow.holds Try.pinned (OpenSpec.ofChange kdfTellsSpec)

/-- ITS FALSE NEIGHBOUR: 'it returns false'. Refute it at one input. -/
def kdfTellsWrong : ChangeSpec := { name := "kdfTells", fn := fun _ => fun
  | [d1, d2, d3] => { results := [.lit (.bool false)], args := [d1, d2, d3] }
  | _ => none }
def KdfTellsWrongFalsely : Prop := kdfTellsRow.holds Try.pinned (OpenSpec.ofChange kdfTellsWrong)

/-- 'soughlaw06.KdfChains': WHATEVER THE INPUT: true; the input reads as it did. -/
def kdfChainsSpec : ChangeSpec := { name := "kdfChains", fn := fun _ => fun
  | [d1, d2, d3] => { results := [.lit (.bool true)], args := [d1, d2, d3] }
  | _ => none }
def kdfChainsRow : OpenClaim := { program := "ythbailkfhmkfoaa", sum := "c20f46a0b111c95d9eda40125c0fe4e11be06610f58cda4d580d9a8dbbe56539", func := "sough/soughlaw06.KdfChains", spec := "kdfChains", unfollowed := true, recurses := true, plainKeys := false, apart := false }
def KdfChainsSaid : Prop := kdfChainsRow.holds Try.pinned (OpenSpec.ofChange kdfChainsSpec)

/-- ITS FALSE NEIGHBOUR: 'it returns false'. Refute it at one input. -/
def kdfChainsWrong : ChangeSpec := { name := "kdfChains", fn := fun _ => fun
  | [d1, d2, d3] => { results := [.lit (.bool false)], args := [d1, d2, d3] }
  | _ => none }
def KdfChainsWrongFalsely : Prop := kdfChainsRow.holds Try.pinned (OpenSpec.ofChange kdfChainsWrong)

/-- 'soughlaw06.KdfMixes': WHATEVER THE INPUT: true; the input reads as it did. -/
def kdfMixesSpec : ChangeSpec := { name := "kdfMixes", fn := fun _ => fun
  | [d1, d2] => { results := [.lit (.bool true)], args := [d1, d2] }
  | _ => none }
def kdfMixesRow : OpenClaim := { program := "ythbailkfhmkfoaa", sum := "c20f46a0b111c95d9eda40125c0fe4e11be06610f58cda4d580d9a8dbbe56539", func := "sough/soughlaw06.KdfMixes", spec := "kdfMixes", unfollowed := true, recurses := true, plainKeys := false, apart := false }
def KdfMixesSaid : Prop := kdfMixesRow.holds Try.pinned (OpenSpec.ofChange kdfMixesSpec)

/-- ITS FALSE NEIGHBOUR: 'it returns false'. Refute it at one input. -/
def kdfMixesWrong : ChangeSpec := { name := "kdfMixes", fn := fun _ => fun
  | [d1, d2] => { results := [.lit (.bool false)], args := [d1, d2] }
  | _ => none }
def KdfMixesWrongFalsely : Prop := kdfMixesRow.holds Try.pinned (OpenSpec.ofChange kdfMixesWrong)

/-- 'soughlaw06.KdfPuts': WHATEVER THE INPUT: true; the input reads as it did. -/
def kdfPutsSpec : ChangeSpec := { name := "kdfPuts", fn := fun _ => fun
  | [d1, d2, d3] => { results := [.lit (.bool true)], args := [d1, d2, d3] }
  | _ => none }
def kdfPutsRow : OpenClaim := { program := "ythbailkfhmkfoaa", sum := "c20f46a0b111c95d9eda40125c0fe4e11be06610f58cda4d580d9a8dbbe56539", func := "sough/soughlaw06.KdfPuts", spec := "kdfPuts", unfollowed := true, recurses := true, plainKeys := false, apart := false }
def KdfPutsSaid : Prop := kdfPutsRow.holds Try.pinned (OpenSpec.ofChange kdfPutsSpec)

/-- ITS FALSE NEIGHBOUR: 'it returns false'. Refute it at one input. -/
def kdfPutsWrong : ChangeSpec := { name := "kdfPuts", fn := fun _ => fun
  | [d1, d2, d3] => { results := [.lit (.bool false)], args := [d1, d2, d3] }
  | _ => none }
def KdfPutsWrongFalsely : Prop := kdfPutsRow.holds Try.pinned (OpenSpec.ofChange kdfPutsWrong)

/-- 'soughlaw06.KdfOrder': WHATEVER THE INPUT: true; the input reads as it did. -/
def kdfOrderSpec : ChangeSpec := { name := "kdfOrder", fn := fun _ => fun
  | [d1, d2] => { results := [.lit (.bool true)], args := [d1, d2] }
  | _ => none }
def kdfOrderRow : OpenClaim := { program := "ythbailkfhmkfoaa", sum := "c20f46a0b111c95d9eda40125c0fe4e11be06610f58cda4d580d9a8dbbe56539", func := "sough/soughlaw06.KdfOrder", spec := "kdfOrder", unfollowed := true, recurses := true, plainKeys := false, apart := false }
def KdfOrderSaid : Prop := kdfOrderRow.holds Try.pinned (OpenSpec.ofChange kdfOrderSpec)

/-- ITS FALSE NEIGHBOUR: 'it returns false'. Refute it at one input. -/
def kdfOrderWrong : ChangeSpec := { name := "kdfOrder", fn := fun _ => fun
  | [d1, d2] => { results := [.lit (.bool false)], args := [d1, d2] }
  | _ => none }
def KdfOrderWrongFalsely : Prop := kdfOrderRow.holds Try.pinned (OpenSpec.ofChange kdfOrderWrong)

/-- 'soughlaw06.KdfRoom': WHATEVER THE INPUT: true; the input reads as it did. -/
def kdfRoomSpec : ChangeSpec := { name := "kdfRoom", fn := fun _ => fun
  | [d1, d2] => { results := [.lit (.bool true)], args := [d1, d2] }
  | _ => none }
def kdfRoomRow : OpenClaim := { program := "ythbailkfhmkfoaa", sum := "c20f46a0b111c95d9eda40125c0fe4e11be06610f58cda4d580d9a8dbbe56539", func := "sough/soughlaw06.KdfRoom", spec := "kdfRoom", unfollowed := true, recurses := true, plainKeys := false, apart := false }
def KdfRoomSaid : Prop := kdfRoomRow.holds Try.pinned (OpenSpec.ofChange kdfRoomSpec)

/-- ITS FALSE NEIGHBOUR: 'it returns false'. Refute it at one input. -/
def kdfRoomWrong : ChangeSpec := { name := "kdfRoom", fn := fun _ => fun
  | [d1, d2] => { results := [.lit (.bool false)], args := [d1, d2] }
  | _ => none }
def KdfRoomWrongFalsely : Prop := kdfRoomRow.holds Try.pinned (OpenSpec.ofChange kdfRoomWrong)

/-- 'soughlaw05.AeadTells': WHATEVER THE INPUT: true; the input reads as it did. -/
def aeadTellsSpec : ChangeSpec := { name := "aeadTells", fn := fun _ => fun
  | [d1, d2] => { results := [.lit (.bool true)], args := [d1, d2] }
  | _ => none }
def aeadTellsRow : OpenClaim := { program := "ythbailkfhmkfoaa", sum := "c20f46a0b111c95d9eda40125c0fe4e11be06610f58cda4d580d9a8dbbe56539", func := "sough/soughlaw05.AeadTells", spec := "aeadTells", plainKeys := false, apart := false }
def AeadTellsSaid : Prop := aeadTellsRow.holds Try.pinned (OpenSpec.ofChange aeadTellsSpec)

/-- ITS FALSE NEIGHBOUR: 'it returns false'. Refute it at one input. -/
def aeadTellsWrong : ChangeSpec := { name := "aeadTells", fn := fun _ => fun
  | [d1, d2] => { results := [.lit (.bool false)], args := [d1, d2] }
  | _ => none }
def AeadTellsWrongFalsely : Prop := aeadTellsRow.holds Try.pinned (OpenSpec.ofChange aeadTellsWrong)

/-- 'soughlaw05.AeadTexts': WHATEVER THE INPUT: true; the input reads as it did. -/
def aeadTextsSpec : ChangeSpec := { name := "aeadTexts", fn := fun _ => fun
  | [d1, d2, d3] => { results := [.lit (.bool true)], args := [d1, d2, d3] }
  | _ => none }
def aeadTextsRow : OpenClaim := { program := "ythbailkfhmkfoaa", sum := "c20f46a0b111c95d9eda40125c0fe4e11be06610f58cda4d580d9a8dbbe56539", func := "sough/soughlaw05.AeadTexts", spec := "aeadTexts", plainKeys := false, apart := false }
def AeadTextsSaid : Prop := aeadTextsRow.holds Try.pinned (OpenSpec.ofChange aeadTextsSpec)

/-- ITS FALSE NEIGHBOUR: 'it returns false'. Refute it at one input. -/
def aeadTextsWrong : ChangeSpec := { name := "aeadTexts", fn := fun _ => fun
  | [d1, d2, d3] => { results := [.lit (.bool false)], args := [d1, d2, d3] }
  | _ => none }
def AeadTextsWrongFalsely : Prop := aeadTextsRow.holds Try.pinned (OpenSpec.ofChange aeadTextsWrong)

/-- 'soughlaw05.AeadBack': WHATEVER THE INPUT: true; the input reads as it did. -/
def aeadBackSpec : ChangeSpec := { name := "aeadBack", fn := fun _ => fun
  | [d1, d2, d3] => { results := [.lit (.bool true)], args := [d1, d2, d3] }
  | _ => none }
def aeadBackRow : OpenClaim := { program := "ythbailkfhmkfoaa", sum := "c20f46a0b111c95d9eda40125c0fe4e11be06610f58cda4d580d9a8dbbe56539", func := "sough/soughlaw05.AeadBack", spec := "aeadBack", plainKeys := false, apart := false }
def AeadBackSaid : Prop := aeadBackRow.holds Try.pinned (OpenSpec.ofChange aeadBackSpec)

/-- ITS FALSE NEIGHBOUR: 'it returns false'. Refute it at one input. -/
def aeadBackWrong : ChangeSpec := { name := "aeadBack", fn := fun _ => fun
  | [d1, d2, d3] => { results := [.lit (.bool false)], args := [d1, d2, d3] }
  | _ => none }
def AeadBackWrongFalsely : Prop := aeadBackRow.holds Try.pinned (OpenSpec.ofChange aeadBackWrong)

/-- 'soughlaw05.AeadPuts': WHATEVER THE INPUT: true; the input reads as it did. -/
def aeadPutsSpec : ChangeSpec := { name := "aeadPuts", fn := fun _ => fun
  | [d1, d2, d3] => { results := [.lit (.bool true)], args := [d1, d2, d3] }
  | _ => none }
def aeadPutsRow : OpenClaim := { program := "ythbailkfhmkfoaa", sum := "c20f46a0b111c95d9eda40125c0fe4e11be06610f58cda4d580d9a8dbbe56539", func := "sough/soughlaw05.AeadPuts", spec := "aeadPuts", plainKeys := false, apart := false }
def AeadPutsSaid : Prop := aeadPutsRow.holds Try.pinned (OpenSpec.ofChange aeadPutsSpec)

/-- ITS FALSE NEIGHBOUR: 'it returns false'. Refute it at one input. -/
def aeadPutsWrong : ChangeSpec := { name := "aeadPuts", fn := fun _ => fun
  | [d1, d2, d3] => { results := [.lit (.bool false)], args := [d1, d2, d3] }
  | _ => none }
def AeadPutsWrongFalsely : Prop := aeadPutsRow.holds Try.pinned (OpenSpec.ofChange aeadPutsWrong)

/-- 'soughlaw05.AeadOpens': WHATEVER THE INPUT: true; the input reads as it did. -/
def aeadOpensSpec : ChangeSpec := { name := "aeadOpens", fn := fun _ => fun
  | [d1, d2, d3] => { results := [.lit (.bool true)], args := [d1, d2, d3] }
  | _ => none }
def aeadOpensRow : OpenClaim := { program := "ythbailkfhmkfoaa", sum := "c20f46a0b111c95d9eda40125c0fe4e11be06610f58cda4d580d9a8dbbe56539", func := "sough/soughlaw05.AeadOpens", spec := "aeadOpens", plainKeys := false, apart := false }
def AeadOpensSaid : Prop := aeadOpensRow.holds Try.pinned (OpenSpec.ofChange aeadOpensSpec)

/-- ITS FALSE NEIGHBOUR: 'it returns false'. Refute it at one input. -/
def aeadOpensWrong : ChangeSpec := { name := "aeadOpens", fn := fun _ => fun
  | [d1, d2, d3] => { results := [.lit (.bool false)], args := [d1, d2, d3] }
  | _ => none }
def AeadOpensWrongFalsely : Prop := aeadOpensRow.holds Try.pinned (OpenSpec.ofChange aeadOpensWrong)

/-- 'soughlaw05.AeadRoom': WHATEVER THE INPUT: true; the input reads as it did. -/
def aeadRoomSpec : ChangeSpec := { name := "aeadRoom", fn := fun _ => fun
  | [d1, d2] => { results := [.lit (.bool true)], args := [d1, d2] }
  | _ => none }
def aeadRoomRow : OpenClaim := { program := "ythbailkfhmkfoaa", sum := "c20f46a0b111c95d9eda40125c0fe4e11be06610f58cda4d580d9a8dbbe56539", func := "sough/soughlaw05.AeadRoom", spec := "aeadRoom", plainKeys := false, apart := false }
def AeadRoomSaid : Prop := aeadRoomRow.holds Try.pinned (OpenSpec.ofChange aeadRoomSpec)

/-- ITS FALSE NEIGHBOUR: 'it returns false'. Refute it at one input. -/
def aeadRoomWrong : ChangeSpec := { name := "aeadRoom", fn := fun _ => fun
  | [d1, d2] => { results := [.lit (.bool false)], args := [d1, d2] }
  | _ => none }
def AeadRoomWrongFalsely : Prop := aeadRoomRow.holds Try.pinned (OpenSpec.ofChange aeadRoomWrong)

/-- 'soughlaw15.ChainSteps': WHATEVER THE INPUT: true; the input reads as it did. -/
def chainStepsSpec : ChangeSpec := { name := "chainSteps", fn := fun _ => fun
  | [d1, d2] => { results := [.lit (.bool true)], args := [d1, d2] }
  | _ => none }
def chainStepsRow : OpenClaim := { program := "ythbailkfhmkfoaa", sum := "c20f46a0b111c95d9eda40125c0fe4e11be06610f58cda4d580d9a8dbbe56539", func := "sough/soughlaw15.ChainSteps", spec := "chainSteps", unfollowed := true, recurses := true, plainKeys := false, apart := false }
def ChainStepsSaid : Prop := chainStepsRow.holds Try.pinned (OpenSpec.ofChange chainStepsSpec)

/-- ITS FALSE NEIGHBOUR: 'it returns false'. Refute it at one input. -/
def chainStepsWrong : ChangeSpec := { name := "chainSteps", fn := fun _ => fun
  | [d1, d2] => { results := [.lit (.bool false)], args := [d1, d2] }
  | _ => none }
def ChainStepsWrongFalsely : Prop := chainStepsRow.holds Try.pinned (OpenSpec.ofChange chainStepsWrong)

/-- 'soughlaw15.ChainLimits': WHATEVER THE INPUT: true; the input reads as it did. -/
def chainLimitsSpec : ChangeSpec := { name := "chainLimits", fn := fun _ => fun
  | [d1, d2] => { results := [.lit (.bool true)], args := [d1, d2] }
  | _ => none }
def chainLimitsRow : OpenClaim := { program := "ythbailkfhmkfoaa", sum := "c20f46a0b111c95d9eda40125c0fe4e11be06610f58cda4d580d9a8dbbe56539", func := "sough/soughlaw15.ChainLimits", spec := "chainLimits", unfollowed := true, recurses := true, plainKeys := false, apart := false }
def ChainLimitsSaid : Prop := chainLimitsRow.holds Try.pinned (OpenSpec.ofChange chainLimitsSpec)

/-- ITS FALSE NEIGHBOUR: 'it returns false'. Refute it at one input. -/
def chainLimitsWrong : ChangeSpec := { name := "chainLimits", fn := fun _ => fun
  | [d1, d2] => { results := [.lit (.bool false)], args := [d1, d2] }
  | _ => none }
def ChainLimitsWrongFalsely : Prop := chainLimitsRow.holds Try.pinned (OpenSpec.ofChange chainLimitsWrong)

/-- 'soughlaw15.ChainApart': WHATEVER THE INPUT: true; the input reads as it did. -/
def chainApartSpec : ChangeSpec := { name := "chainApart", fn := fun _ => fun
  | [d1, d2, d3] => { results := [.lit (.bool true)], args := [d1, d2, d3] }
  | _ => none }
def chainApartRow : OpenClaim := { program := "ythbailkfhmkfoaa", sum := "c20f46a0b111c95d9eda40125c0fe4e11be06610f58cda4d580d9a8dbbe56539", func := "sough/soughlaw15.ChainApart", spec := "chainApart", unfollowed := true, recurses := true, plainKeys := false, apart := false }
def ChainApartSaid : Prop := chainApartRow.holds Try.pinned (OpenSpec.ofChange chainApartSpec)

/-- ITS FALSE NEIGHBOUR: 'it returns false'. Refute it at one input. -/
def chainApartWrong : ChangeSpec := { name := "chainApart", fn := fun _ => fun
  | [d1, d2, d3] => { results := [.lit (.bool false)], args := [d1, d2, d3] }
  | _ => none }
def ChainApartWrongFalsely : Prop := chainApartRow.holds Try.pinned (OpenSpec.ofChange chainApartWrong)

/-- 'soughlaw15.ChainStays': WHATEVER THE INPUT: true; the input reads as it did. -/
def chainStaysSpec : ChangeSpec := { name := "chainStays", fn := fun _ => fun
  | [d1, d2] => { results := [.lit (.bool true)], args := [d1, d2] }
  | _ => none }
def chainStaysRow : OpenClaim := { program := "ythbailkfhmkfoaa", sum := "c20f46a0b111c95d9eda40125c0fe4e11be06610f58cda4d580d9a8dbbe56539", func := "sough/soughlaw15.ChainStays", spec := "chainStays", unfollowed := true, recurses := true, plainKeys := false, apart := false }
def ChainStaysSaid : Prop := chainStaysRow.holds Try.pinned (OpenSpec.ofChange chainStaysSpec)

/-- ITS FALSE NEIGHBOUR: 'it returns false'. Refute it at one input. -/
def chainStaysWrong : ChangeSpec := { name := "chainStays", fn := fun _ => fun
  | [d1, d2] => { results := [.lit (.bool false)], args := [d1, d2] }
  | _ => none }
def ChainStaysWrongFalsely : Prop := chainStaysRow.holds Try.pinned (OpenSpec.ofChange chainStaysWrong)

/-- 'soughlaw15.ChainTells': WHATEVER THE INPUT: true; the input reads as it did. -/
def chainTellsSpec : ChangeSpec := { name := "chainTells", fn := fun _ => fun
  | [d1, d2] => { results := [.lit (.bool true)], args := [d1, d2] }
  | _ => none }
def chainTellsRow : OpenClaim := { program := "ythbailkfhmkfoaa", sum := "c20f46a0b111c95d9eda40125c0fe4e11be06610f58cda4d580d9a8dbbe56539", func := "sough/soughlaw15.ChainTells", spec := "chainTells", unfollowed := true, recurses := true, plainKeys := false, apart := false }
def ChainTellsSaid : Prop := chainTellsRow.holds Try.pinned (OpenSpec.ofChange chainTellsSpec)

/-- ITS FALSE NEIGHBOUR: 'it returns false'. Refute it at one input. -/
def chainTellsWrong : ChangeSpec := { name := "chainTells", fn := fun _ => fun
  | [d1, d2] => { results := [.lit (.bool false)], args := [d1, d2] }
  | _ => none }
def ChainTellsWrongFalsely : Prop := chainTellsRow.holds Try.pinned (OpenSpec.ofChange chainTellsWrong)

/-- 'soughlaw15.ChainBack': WHATEVER THE INPUT: true; the input reads as it did. -/
def chainBackSpec : ChangeSpec := { name := "chainBack", fn := fun _ => fun
  | [d1, d2] => { results := [.lit (.bool true)], args := [d1, d2] }
  | _ => none }
def chainBackRow : OpenClaim := { program := "ythbailkfhmkfoaa", sum := "c20f46a0b111c95d9eda40125c0fe4e11be06610f58cda4d580d9a8dbbe56539", func := "sough/soughlaw15.ChainBack", spec := "chainBack", unfollowed := true, recurses := true, plainKeys := false, apart := false }
def ChainBackSaid : Prop := chainBackRow.holds Try.pinned (OpenSpec.ofChange chainBackSpec)

/-- ITS FALSE NEIGHBOUR: 'it returns false'. Refute it at one input. -/
def chainBackWrong : ChangeSpec := { name := "chainBack", fn := fun _ => fun
  | [d1, d2] => { results := [.lit (.bool false)], args := [d1, d2] }
  | _ => none }
def ChainBackWrongFalsely : Prop := chainBackRow.holds Try.pinned (OpenSpec.ofChange chainBackWrong)

/- THE SECOND FORM. 'bulk': how many values and letters a reading holds, each counted each time it is reached (what is shared counts as often as it is met; a slice's spare places count too). A statement '..UptoSaid' is the law's where the arguments, and the package variables that the reading takes, are together of bulk at most 1048576: NARROWER than '..Said'. Prove '..Said' where nothing that the law and all that it calls make is longer than what came in: it says more and counts as full. Else prove '..UptoSaid'. A law counts once. -/
mutual
def uptoBulk {H : Type} : DataW H → Nat
  | .lit (.string bytes) => bytes.length + 1
  | .lit _ => 1
  | .nil => 1
  | .ptr d => uptoBulk d + 1
  | .slice elems spare => uptoBulkAll elems + uptoBulkAll spare + 1
  | .agg parts => uptoBulkAll parts + 1
  | .iface _ d => uptoBulk d + 1
  | .map entries => uptoBulkEntries entries + 1
  | .held _ => 1
def uptoBulkAll {H : Type} : List (DataW H) → Nat
  | [] => 0
  | d :: r => uptoBulk d + uptoBulkAll r
def uptoBulkEntries {H : Type} : List (Lit × DataW H) → Nat
  | [] => 0
  | x :: r => uptoBulkEntry x + uptoBulkEntries r
def uptoBulkEntry {H : Type} : Lit × DataW H → Nat
  | (.string bytes, d) => bytes.length + uptoBulk d + 1
  | (_, d) => uptoBulk d + 1
 end
def uptoSmall : (H : Type) → List (DataW H) → Bool := fun _ ds => decide (uptoBulkAll ds ≤ 1048576)
def OpenSpec.upto (s : _root_.Go.ChangeSpec) : _root_.Go.OpenSpec := { _root_.Go.OpenSpec.ofChange s with cond := some uptoSmall }

/-- 'soughlaw04.KemTells', WHERE WHAT IT READS IS OF BULK AT MOST 1048576: true; the input reads as it did. -/
def kemTellsUptoRow : OpenClaim := { program := "ythbailkfhmkfoaa", sum := "c20f46a0b111c95d9eda40125c0fe4e11be06610f58cda4d580d9a8dbbe56539", func := "sough/soughlaw04.KemTells", spec := "kemTells", plainKeys := false, apart := false, narrowed := true }
def KemTellsUptoSaid : Prop := kemTellsUptoRow.holds Try.pinned (OpenSpec.upto kemTellsSpec)

/-- 'soughlaw04.KemBack', WHERE WHAT IT READS IS OF BULK AT MOST 1048576: true; the input reads as it did. -/
def kemBackUptoRow : OpenClaim := { program := "ythbailkfhmkfoaa", sum := "c20f46a0b111c95d9eda40125c0fe4e11be06610f58cda4d580d9a8dbbe56539", func := "sough/soughlaw04.KemBack", spec := "kemBack", plainKeys := false, apart := false, narrowed := true }
def KemBackUptoSaid : Prop := kemBackUptoRow.holds Try.pinned (OpenSpec.upto kemBackSpec)

/-- 'soughlaw04.KemRoom', WHERE WHAT IT READS IS OF BULK AT MOST 1048576: true; the input reads as it did. -/
def kemRoomUptoRow : OpenClaim := { program := "ythbailkfhmkfoaa", sum := "c20f46a0b111c95d9eda40125c0fe4e11be06610f58cda4d580d9a8dbbe56539", func := "sough/soughlaw04.KemRoom", spec := "kemRoom", plainKeys := false, apart := false, narrowed := true }
def KemRoomUptoSaid : Prop := kemRoomUptoRow.holds Try.pinned (OpenSpec.upto kemRoomSpec)

/-- 'soughlaw04.KemPuts', WHERE WHAT IT READS IS OF BULK AT MOST 1048576: true; the input reads as it did. -/
def kemPutsUptoRow : OpenClaim := { program := "ythbailkfhmkfoaa", sum := "c20f46a0b111c95d9eda40125c0fe4e11be06610f58cda4d580d9a8dbbe56539", func := "sough/soughlaw04.KemPuts", spec := "kemPuts", plainKeys := false, apart := false, narrowed := true }
def KemPutsUptoSaid : Prop := kemPutsUptoRow.holds Try.pinned (OpenSpec.upto kemPutsSpec)

/-- 'soughlaw04.KemOpens', WHERE WHAT IT READS IS OF BULK AT MOST 1048576: true; the input reads as it did. -/
def kemOpensUptoRow : OpenClaim := { program := "ythbailkfhmkfoaa", sum := "c20f46a0b111c95d9eda40125c0fe4e11be06610f58cda4d580d9a8dbbe56539", func := "sough/soughlaw04.KemOpens", spec := "kemOpens", plainKeys := false, apart := false, narrowed := true }
def KemOpensUptoSaid : Prop := kemOpensUptoRow.holds Try.pinned (OpenSpec.upto kemOpensSpec)

/-- 'soughlaw06.KdfTells', WHERE WHAT IT READS IS OF BULK AT MOST 1048576: true; the input reads as it did. -/
def kdfTellsUptoRow : OpenClaim := { program := "ythbailkfhmkfoaa", sum := "c20f46a0b111c95d9eda40125c0fe4e11be06610f58cda4d580d9a8dbbe56539", func := "sough/soughlaw06.KdfTells", spec := "kdfTells", unfollowed := true, recurses := true, plainKeys := false, apart := false, narrowed := true }
def KdfTellsUptoSaid : Prop := kdfTellsUptoRow.holds Try.pinned (OpenSpec.upto kdfTellsSpec)

/-- 'soughlaw06.KdfChains', WHERE WHAT IT READS IS OF BULK AT MOST 1048576: true; the input reads as it did. -/
def kdfChainsUptoRow : OpenClaim := { program := "ythbailkfhmkfoaa", sum := "c20f46a0b111c95d9eda40125c0fe4e11be06610f58cda4d580d9a8dbbe56539", func := "sough/soughlaw06.KdfChains", spec := "kdfChains", unfollowed := true, recurses := true, plainKeys := false, apart := false, narrowed := true }
def KdfChainsUptoSaid : Prop := kdfChainsUptoRow.holds Try.pinned (OpenSpec.upto kdfChainsSpec)

/-- 'soughlaw06.KdfMixes', WHERE WHAT IT READS IS OF BULK AT MOST 1048576: true; the input reads as it did. -/
def kdfMixesUptoRow : OpenClaim := { program := "ythbailkfhmkfoaa", sum := "c20f46a0b111c95d9eda40125c0fe4e11be06610f58cda4d580d9a8dbbe56539", func := "sough/soughlaw06.KdfMixes", spec := "kdfMixes", unfollowed := true, recurses := true, plainKeys := false, apart := false, narrowed := true }
def KdfMixesUptoSaid : Prop := kdfMixesUptoRow.holds Try.pinned (OpenSpec.upto kdfMixesSpec)

/-- 'soughlaw06.KdfPuts', WHERE WHAT IT READS IS OF BULK AT MOST 1048576: true; the input reads as it did. -/
def kdfPutsUptoRow : OpenClaim := { program := "ythbailkfhmkfoaa", sum := "c20f46a0b111c95d9eda40125c0fe4e11be06610f58cda4d580d9a8dbbe56539", func := "sough/soughlaw06.KdfPuts", spec := "kdfPuts", unfollowed := true, recurses := true, plainKeys := false, apart := false, narrowed := true }
def KdfPutsUptoSaid : Prop := kdfPutsUptoRow.holds Try.pinned (OpenSpec.upto kdfPutsSpec)

/-- 'soughlaw06.KdfOrder', WHERE WHAT IT READS IS OF BULK AT MOST 1048576: true; the input reads as it did. -/
def kdfOrderUptoRow : OpenClaim := { program := "ythbailkfhmkfoaa", sum := "c20f46a0b111c95d9eda40125c0fe4e11be06610f58cda4d580d9a8dbbe56539", func := "sough/soughlaw06.KdfOrder", spec := "kdfOrder", unfollowed := true, recurses := true, plainKeys := false, apart := false, narrowed := true }
def KdfOrderUptoSaid : Prop := kdfOrderUptoRow.holds Try.pinned (OpenSpec.upto kdfOrderSpec)

/-- 'soughlaw06.KdfRoom', WHERE WHAT IT READS IS OF BULK AT MOST 1048576: true; the input reads as it did. -/
def kdfRoomUptoRow : OpenClaim := { program := "ythbailkfhmkfoaa", sum := "c20f46a0b111c95d9eda40125c0fe4e11be06610f58cda4d580d9a8dbbe56539", func := "sough/soughlaw06.KdfRoom", spec := "kdfRoom", unfollowed := true, recurses := true, plainKeys := false, apart := false, narrowed := true }
def KdfRoomUptoSaid : Prop := kdfRoomUptoRow.holds Try.pinned (OpenSpec.upto kdfRoomSpec)

/-- 'soughlaw05.AeadTells', WHERE WHAT IT READS IS OF BULK AT MOST 1048576: true; the input reads as it did. -/
def aeadTellsUptoRow : OpenClaim := { program := "ythbailkfhmkfoaa", sum := "c20f46a0b111c95d9eda40125c0fe4e11be06610f58cda4d580d9a8dbbe56539", func := "sough/soughlaw05.AeadTells", spec := "aeadTells", plainKeys := false, apart := false, narrowed := true }
def AeadTellsUptoSaid : Prop := aeadTellsUptoRow.holds Try.pinned (OpenSpec.upto aeadTellsSpec)

/-- 'soughlaw05.AeadTexts', WHERE WHAT IT READS IS OF BULK AT MOST 1048576: true; the input reads as it did. -/
def aeadTextsUptoRow : OpenClaim := { program := "ythbailkfhmkfoaa", sum := "c20f46a0b111c95d9eda40125c0fe4e11be06610f58cda4d580d9a8dbbe56539", func := "sough/soughlaw05.AeadTexts", spec := "aeadTexts", plainKeys := false, apart := false, narrowed := true }
def AeadTextsUptoSaid : Prop := aeadTextsUptoRow.holds Try.pinned (OpenSpec.upto aeadTextsSpec)

/-- 'soughlaw05.AeadBack', WHERE WHAT IT READS IS OF BULK AT MOST 1048576: true; the input reads as it did. -/
def aeadBackUptoRow : OpenClaim := { program := "ythbailkfhmkfoaa", sum := "c20f46a0b111c95d9eda40125c0fe4e11be06610f58cda4d580d9a8dbbe56539", func := "sough/soughlaw05.AeadBack", spec := "aeadBack", plainKeys := false, apart := false, narrowed := true }
def AeadBackUptoSaid : Prop := aeadBackUptoRow.holds Try.pinned (OpenSpec.upto aeadBackSpec)

/-- 'soughlaw05.AeadPuts', WHERE WHAT IT READS IS OF BULK AT MOST 1048576: true; the input reads as it did. -/
def aeadPutsUptoRow : OpenClaim := { program := "ythbailkfhmkfoaa", sum := "c20f46a0b111c95d9eda40125c0fe4e11be06610f58cda4d580d9a8dbbe56539", func := "sough/soughlaw05.AeadPuts", spec := "aeadPuts", plainKeys := false, apart := false, narrowed := true }
def AeadPutsUptoSaid : Prop := aeadPutsUptoRow.holds Try.pinned (OpenSpec.upto aeadPutsSpec)

/-- 'soughlaw05.AeadOpens', WHERE WHAT IT READS IS OF BULK AT MOST 1048576: true; the input reads as it did. -/
def aeadOpensUptoRow : OpenClaim := { program := "ythbailkfhmkfoaa", sum := "c20f46a0b111c95d9eda40125c0fe4e11be06610f58cda4d580d9a8dbbe56539", func := "sough/soughlaw05.AeadOpens", spec := "aeadOpens", plainKeys := false, apart := false, narrowed := true }
def AeadOpensUptoSaid : Prop := aeadOpensUptoRow.holds Try.pinned (OpenSpec.upto aeadOpensSpec)

/-- 'soughlaw05.AeadRoom', WHERE WHAT IT READS IS OF BULK AT MOST 1048576: true; the input reads as it did. -/
def aeadRoomUptoRow : OpenClaim := { program := "ythbailkfhmkfoaa", sum := "c20f46a0b111c95d9eda40125c0fe4e11be06610f58cda4d580d9a8dbbe56539", func := "sough/soughlaw05.AeadRoom", spec := "aeadRoom", plainKeys := false, apart := false, narrowed := true }
def AeadRoomUptoSaid : Prop := aeadRoomUptoRow.holds Try.pinned (OpenSpec.upto aeadRoomSpec)

/-- 'soughlaw15.ChainSteps', WHERE WHAT IT READS IS OF BULK AT MOST 1048576: true; the input reads as it did. -/
def chainStepsUptoRow : OpenClaim := { program := "ythbailkfhmkfoaa", sum := "c20f46a0b111c95d9eda40125c0fe4e11be06610f58cda4d580d9a8dbbe56539", func := "sough/soughlaw15.ChainSteps", spec := "chainSteps", unfollowed := true, recurses := true, plainKeys := false, apart := false, narrowed := true }
def ChainStepsUptoSaid : Prop := chainStepsUptoRow.holds Try.pinned (OpenSpec.upto chainStepsSpec)

/-- 'soughlaw15.ChainLimits', WHERE WHAT IT READS IS OF BULK AT MOST 1048576: true; the input reads as it did. -/
def chainLimitsUptoRow : OpenClaim := { program := "ythbailkfhmkfoaa", sum := "c20f46a0b111c95d9eda40125c0fe4e11be06610f58cda4d580d9a8dbbe56539", func := "sough/soughlaw15.ChainLimits", spec := "chainLimits", unfollowed := true, recurses := true, plainKeys := false, apart := false, narrowed := true }
def ChainLimitsUptoSaid : Prop := chainLimitsUptoRow.holds Try.pinned (OpenSpec.upto chainLimitsSpec)

/-- 'soughlaw15.ChainApart', WHERE WHAT IT READS IS OF BULK AT MOST 1048576: true; the input reads as it did. -/
def chainApartUptoRow : OpenClaim := { program := "ythbailkfhmkfoaa", sum := "c20f46a0b111c95d9eda40125c0fe4e11be06610f58cda4d580d9a8dbbe56539", func := "sough/soughlaw15.ChainApart", spec := "chainApart", unfollowed := true, recurses := true, plainKeys := false, apart := false, narrowed := true }
def ChainApartUptoSaid : Prop := chainApartUptoRow.holds Try.pinned (OpenSpec.upto chainApartSpec)

/-- 'soughlaw15.ChainStays', WHERE WHAT IT READS IS OF BULK AT MOST 1048576: true; the input reads as it did. -/
def chainStaysUptoRow : OpenClaim := { program := "ythbailkfhmkfoaa", sum := "c20f46a0b111c95d9eda40125c0fe4e11be06610f58cda4d580d9a8dbbe56539", func := "sough/soughlaw15.ChainStays", spec := "chainStays", unfollowed := true, recurses := true, plainKeys := false, apart := false, narrowed := true }
def ChainStaysUptoSaid : Prop := chainStaysUptoRow.holds Try.pinned (OpenSpec.upto chainStaysSpec)

/-- 'soughlaw15.ChainTells', WHERE WHAT IT READS IS OF BULK AT MOST 1048576: true; the input reads as it did. -/
def chainTellsUptoRow : OpenClaim := { program := "ythbailkfhmkfoaa", sum := "c20f46a0b111c95d9eda40125c0fe4e11be06610f58cda4d580d9a8dbbe56539", func := "sough/soughlaw15.ChainTells", spec := "chainTells", unfollowed := true, recurses := true, plainKeys := false, apart := false, narrowed := true }
def ChainTellsUptoSaid : Prop := chainTellsUptoRow.holds Try.pinned (OpenSpec.upto chainTellsSpec)

/-- 'soughlaw15.ChainBack', WHERE WHAT IT READS IS OF BULK AT MOST 1048576: true; the input reads as it did. -/
def chainBackUptoRow : OpenClaim := { program := "ythbailkfhmkfoaa", sum := "c20f46a0b111c95d9eda40125c0fe4e11be06610f58cda4d580d9a8dbbe56539", func := "sough/soughlaw15.ChainBack", spec := "chainBack", unfollowed := true, recurses := true, plainKeys := false, apart := false, narrowed := true }
def ChainBackUptoSaid : Prop := chainBackUptoRow.holds Try.pinned (OpenSpec.upto chainBackSpec)

end Rows
end Go.Proofs.Ythbailkfhmkfoaa
