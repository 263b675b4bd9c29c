/-
  No cell of these rows narrows 'for every input' (looked for: loops, veiled, ifaces, maps, wideKeys, modest, calm, conditions, laid).
  DERIVED. THE GIVEN ROWS OF THIS SEAT. 17 by the template 'for every input the law returns true; each argument reads behind the call as it read before'; 0 by the template 'total and deterministic' (their statements: YtkojlembanldcaaGreatTotals.lean).
  GIVEN WITH THE SEED: the statements are not yours to turn. If you find one false, say at which input.
  Laid BY PROGRAM, IN A SANDBOX (cutbox-rows.mjs): the forced cells as the released guide's own fill.sh prints them over the translation 244441211477d351… (all of the seat's roots in one cut). By AI agents, Wed Nov 11 2026. No macro, syntax, notation, axiom, sorry.
-/
import Derived.Test.YtkojlembanldcaaGreatChecked
import GoSem.Claim
import GoSem.ClaimJoined
import GoSem.ClaimMapViews
import Derived.JoinedTies
import Derived.KernelRfl
namespace Go.Proofs.YtkojlembanldcaaGreat
/- THE CELL 'sum', in the pinned program and in every row, IS THE sha256 OF THE DUMP (.gsa) THAT YtkojlembanldcaaGreatProg.lean LOADS. Nothing in Lean hashes anything: it is a label: what it is worth is what the hold of that sum in a sandbox is worth. -/
noncomputable def Tryz.pinned : Pinned := { name := "ytkojlembanldcaagreat", sum := "244441211477d35116583d0e0a836678c2b49806f2477c67f77605f438d9b07b", checked := Tryz.checked }
namespace Rows
def none {H : Type} : Left H := { results := [], args := [] }

/-- 'homesteadlaw18.LedgerJoins': WHATEVER THE INPUT: true; the input reads as it did. -/
def ledgerJoinsSpec : ChangeSpec := { name := "ledgerJoins", fn := fun _ => fun
  | [d1, d2, d3] => { results := [.lit (.bool true)], args := [d1, d2, d3] }
  | _ => none }
def ledgerJoinsRow : OpenClaim := { program := "ytkojlembanldcaagreat", sum := "244441211477d35116583d0e0a836678c2b49806f2477c67f77605f438d9b07b", func := "homestead/homesteadlaw18.LedgerJoins", spec := "ledgerJoins", inPlace := ["slices.overlaps[homestead/api.Player]", "slices.overlaps[homestead/api.Box]", "slices.overlaps[homestead/api.Chunk]"], unfollowed := true, recurses := true, plainKeys := false, apart := false }
def LedgerJoinsSaid : Prop := ledgerJoinsRow.holds Tryz.pinned (OpenSpec.ofChange ledgerJoinsSpec)

/-- ITS FALSE NEIGHBOUR: 'it returns false'. Refute it at one input. -/
def ledgerJoinsWrong : ChangeSpec := { name := "ledgerJoins", fn := fun _ => fun
  | [d1, d2, d3] => { results := [.lit (.bool false)], args := [d1, d2, d3] }
  | _ => none }
def LedgerJoinsWrongFalsely : Prop := ledgerJoinsRow.holds Tryz.pinned (OpenSpec.ofChange ledgerJoinsWrong)

/-- 'homesteadlaw16.RulesFar': WHATEVER THE INPUT: true; the input reads as it did. -/
def rulesFarSpec : ChangeSpec := { name := "rulesFar", fn := fun _ => fun
  | [d1, d2, d3] => { results := [.lit (.bool true)], args := [d1, d2, d3] }
  | _ => none }
def rulesFarRow : OpenClaim := { program := "ytkojlembanldcaagreat", sum := "244441211477d35116583d0e0a836678c2b49806f2477c67f77605f438d9b07b", func := "homestead/homesteadlaw16.RulesFar", spec := "rulesFar", inPlace := ["slices.overlaps[homestead/api.Player]", "slices.overlaps[homestead/api.Box]", "slices.overlaps[homestead/api.Chunk]"], unfollowed := true, recurses := true, plainKeys := false, apart := false }
def RulesFarSaid : Prop := rulesFarRow.holds Tryz.pinned (OpenSpec.ofChange rulesFarSpec)

/-- ITS FALSE NEIGHBOUR: 'it returns false'. Refute it at one input. -/
def rulesFarWrong : ChangeSpec := { name := "rulesFar", fn := fun _ => fun
  | [d1, d2, d3] => { results := [.lit (.bool false)], args := [d1, d2, d3] }
  | _ => none }
def RulesFarWrongFalsely : Prop := rulesFarRow.holds Tryz.pinned (OpenSpec.ofChange rulesFarWrong)

/-- 'homesteadlaw16.RulesBack': WHATEVER THE INPUT: true; the input reads as it did. -/
def rulesBackSpec : ChangeSpec := { name := "rulesBack", fn := fun _ => fun
  | [d1, d2] => { results := [.lit (.bool true)], args := [d1, d2] }
  | _ => none }
def rulesBackRow : OpenClaim := { program := "ytkojlembanldcaagreat", sum := "244441211477d35116583d0e0a836678c2b49806f2477c67f77605f438d9b07b", func := "homestead/homesteadlaw16.RulesBack", spec := "rulesBack", inPlace := ["slices.overlaps[homestead/api.Player]", "slices.overlaps[homestead/api.Box]", "slices.overlaps[homestead/api.Chunk]"], unfollowed := true, recurses := true, plainKeys := false, apart := false }
def RulesBackSaid : Prop := rulesBackRow.holds Tryz.pinned (OpenSpec.ofChange rulesBackSpec)

/-- ITS FALSE NEIGHBOUR: 'it returns false'. Refute it at one input. -/
def rulesBackWrong : ChangeSpec := { name := "rulesBack", fn := fun _ => fun
  | [d1, d2] => { results := [.lit (.bool false)], args := [d1, d2] }
  | _ => none }
def RulesBackWrongFalsely : Prop := rulesBackRow.holds Tryz.pinned (OpenSpec.ofChange rulesBackWrong)

/-- 'homesteadlaw16.RulesApart': WHATEVER THE INPUT: true; the input reads as it did. -/
def rulesApartSpec : ChangeSpec := { name := "rulesApart", fn := fun _ => fun
  | [d1, d2, d3] => { results := [.lit (.bool true)], args := [d1, d2, d3] }
  | _ => none }
def rulesApartRow : OpenClaim := { program := "ytkojlembanldcaagreat", sum := "244441211477d35116583d0e0a836678c2b49806f2477c67f77605f438d9b07b", func := "homestead/homesteadlaw16.RulesApart", spec := "rulesApart", inPlace := ["slices.overlaps[homestead/api.Player]", "slices.overlaps[homestead/api.Box]", "slices.overlaps[homestead/api.Chunk]"], unfollowed := true, recurses := true, plainKeys := false, apart := false }
def RulesApartSaid : Prop := rulesApartRow.holds Tryz.pinned (OpenSpec.ofChange rulesApartSpec)

/-- ITS FALSE NEIGHBOUR: 'it returns false'. Refute it at one input. -/
def rulesApartWrong : ChangeSpec := { name := "rulesApart", fn := fun _ => fun
  | [d1, d2, d3] => { results := [.lit (.bool false)], args := [d1, d2, d3] }
  | _ => none }
def RulesApartWrongFalsely : Prop := rulesApartRow.holds Tryz.pinned (OpenSpec.ofChange rulesApartWrong)

/-- 'homesteadlaw16.RulesComes': WHATEVER THE INPUT: true; the input reads as it did. -/
def rulesComesSpec : ChangeSpec := { name := "rulesComes", fn := fun _ => fun
  | [d1, d2] => { results := [.lit (.bool true)], args := [d1, d2] }
  | _ => none }
def rulesComesRow : OpenClaim := { program := "ytkojlembanldcaagreat", sum := "244441211477d35116583d0e0a836678c2b49806f2477c67f77605f438d9b07b", func := "homestead/homesteadlaw16.RulesComes", spec := "rulesComes", inPlace := ["slices.overlaps[homestead/api.Player]", "slices.overlaps[homestead/api.Box]", "slices.overlaps[homestead/api.Chunk]"], unfollowed := true, recurses := true, plainKeys := false, apart := false }
def RulesComesSaid : Prop := rulesComesRow.holds Tryz.pinned (OpenSpec.ofChange rulesComesSpec)

/-- ITS FALSE NEIGHBOUR: 'it returns false'. Refute it at one input. -/
def rulesComesWrong : ChangeSpec := { name := "rulesComes", fn := fun _ => fun
  | [d1, d2] => { results := [.lit (.bool false)], args := [d1, d2] }
  | _ => none }
def RulesComesWrongFalsely : Prop := rulesComesRow.holds Tryz.pinned (OpenSpec.ofChange rulesComesWrong)

/-- 'homesteadlaw16.RulesTell': WHATEVER THE INPUT: true; the input reads as it did. -/
def rulesTellSpec : ChangeSpec := { name := "rulesTell", fn := fun _ => fun
  | [d1, d2] => { results := [.lit (.bool true)], args := [d1, d2] }
  | _ => none }
def rulesTellRow : OpenClaim := { program := "ytkojlembanldcaagreat", sum := "244441211477d35116583d0e0a836678c2b49806f2477c67f77605f438d9b07b", func := "homestead/homesteadlaw16.RulesTell", spec := "rulesTell", inPlace := ["slices.overlaps[homestead/api.Player]", "slices.overlaps[homestead/api.Box]", "slices.overlaps[homestead/api.Chunk]"], unfollowed := true, recurses := true, plainKeys := false, apart := false }
def RulesTellSaid : Prop := rulesTellRow.holds Tryz.pinned (OpenSpec.ofChange rulesTellSpec)

/-- ITS FALSE NEIGHBOUR: 'it returns false'. Refute it at one input. -/
def rulesTellWrong : ChangeSpec := { name := "rulesTell", fn := fun _ => fun
  | [d1, d2] => { results := [.lit (.bool false)], args := [d1, d2] }
  | _ => none }
def RulesTellWrongFalsely : Prop := rulesTellRow.holds Tryz.pinned (OpenSpec.ofChange rulesTellWrong)

/-- 'homesteadlaw16.RulesKeep': WHATEVER THE INPUT: true; the input reads as it did. -/
def rulesKeepSpec : ChangeSpec := { name := "rulesKeep", fn := fun _ => fun
  | [d1, d2] => { results := [.lit (.bool true)], args := [d1, d2] }
  | _ => none }
def rulesKeepRow : OpenClaim := { program := "ytkojlembanldcaagreat", sum := "244441211477d35116583d0e0a836678c2b49806f2477c67f77605f438d9b07b", func := "homestead/homesteadlaw16.RulesKeep", spec := "rulesKeep", inPlace := ["slices.overlaps[homestead/api.Player]", "slices.overlaps[homestead/api.Box]", "slices.overlaps[homestead/api.Chunk]"], unfollowed := true, recurses := true, plainKeys := false, apart := false }
def RulesKeepSaid : Prop := rulesKeepRow.holds Tryz.pinned (OpenSpec.ofChange rulesKeepSpec)

/-- ITS FALSE NEIGHBOUR: 'it returns false'. Refute it at one input. -/
def rulesKeepWrong : ChangeSpec := { name := "rulesKeep", fn := fun _ => fun
  | [d1, d2] => { results := [.lit (.bool false)], args := [d1, d2] }
  | _ => none }
def RulesKeepWrongFalsely : Prop := rulesKeepRow.holds Tryz.pinned (OpenSpec.ofChange rulesKeepWrong)

/-- 'homesteadlaw17.TickTells': WHATEVER THE INPUT: true; the input reads as it did. -/
def tickTellsSpec : ChangeSpec := { name := "tickTells", fn := fun _ => fun
  | [d1, d2, d3] => { results := [.lit (.bool true)], args := [d1, d2, d3] }
  | _ => none }
def tickTellsRow : OpenClaim := { program := "ytkojlembanldcaagreat", sum := "244441211477d35116583d0e0a836678c2b49806f2477c67f77605f438d9b07b", func := "homestead/homesteadlaw17.TickTells", spec := "tickTells", inPlace := ["slices.overlaps[homestead/api.Player]", "slices.overlaps[homestead/api.Box]", "slices.overlaps[homestead/api.Chunk]"], unfollowed := true, recurses := true, plainKeys := false, apart := false }
def TickTellsSaid : Prop := tickTellsRow.holds Tryz.pinned (OpenSpec.ofChange tickTellsSpec)

/-- ITS FALSE NEIGHBOUR: 'it returns false'. Refute it at one input. -/
def tickTellsWrong : ChangeSpec := { name := "tickTells", fn := fun _ => fun
  | [d1, d2, d3] => { results := [.lit (.bool false)], args := [d1, d2, d3] }
  | _ => none }
def TickTellsWrongFalsely : Prop := tickTellsRow.holds Tryz.pinned (OpenSpec.ofChange tickTellsWrong)

/-- 'homesteadlaw17.TickEmpty': WHATEVER THE INPUT: true; the input reads as it did. -/
def tickEmptySpec : ChangeSpec := { name := "tickEmpty", fn := fun _ => fun
  | [d1, d2] => { results := [.lit (.bool true)], args := [d1, d2] }
  | _ => none }
def tickEmptyRow : OpenClaim := { program := "ytkojlembanldcaagreat", sum := "244441211477d35116583d0e0a836678c2b49806f2477c67f77605f438d9b07b", func := "homestead/homesteadlaw17.TickEmpty", spec := "tickEmpty", inPlace := ["slices.overlaps[homestead/api.Player]", "slices.overlaps[homestead/api.Box]", "slices.overlaps[homestead/api.Chunk]"], unfollowed := true, recurses := true, plainKeys := false, apart := false }
def TickEmptySaid : Prop := tickEmptyRow.holds Tryz.pinned (OpenSpec.ofChange tickEmptySpec)

/-- ITS FALSE NEIGHBOUR: 'it returns false'. Refute it at one input. -/
def tickEmptyWrong : ChangeSpec := { name := "tickEmpty", fn := fun _ => fun
  | [d1, d2] => { results := [.lit (.bool false)], args := [d1, d2] }
  | _ => none }
def TickEmptyWrongFalsely : Prop := tickEmptyRow.holds Tryz.pinned (OpenSpec.ofChange tickEmptyWrong)

/-- 'homesteadlaw17.TickReplies': WHATEVER THE INPUT: true; the input reads as it did. -/
def tickRepliesSpec : ChangeSpec := { name := "tickReplies", fn := fun _ => fun
  | [d1, d2] => { results := [.lit (.bool true)], args := [d1, d2] }
  | _ => none }
def tickRepliesRow : OpenClaim := { program := "ytkojlembanldcaagreat", sum := "244441211477d35116583d0e0a836678c2b49806f2477c67f77605f438d9b07b", func := "homestead/homesteadlaw17.TickReplies", spec := "tickReplies", inPlace := ["slices.overlaps[homestead/api.Player]", "slices.overlaps[homestead/api.Box]", "slices.overlaps[homestead/api.Chunk]"], unfollowed := true, recurses := true, plainKeys := false, apart := false }
def TickRepliesSaid : Prop := tickRepliesRow.holds Tryz.pinned (OpenSpec.ofChange tickRepliesSpec)

/-- ITS FALSE NEIGHBOUR: 'it returns false'. Refute it at one input. -/
def tickRepliesWrong : ChangeSpec := { name := "tickReplies", fn := fun _ => fun
  | [d1, d2] => { results := [.lit (.bool false)], args := [d1, d2] }
  | _ => none }
def TickRepliesWrongFalsely : Prop := tickRepliesRow.holds Tryz.pinned (OpenSpec.ofChange tickRepliesWrong)

/-- 'homesteadlaw17.TickSorts': WHATEVER THE INPUT: true; the input reads as it did. -/
def tickSortsSpec : ChangeSpec := { name := "tickSorts", fn := fun _ => fun
  | [d] => { results := [.lit (.bool true)], args := [d] }
  | _ => none }
def tickSortsRow : OpenClaim := { program := "ytkojlembanldcaagreat", sum := "244441211477d35116583d0e0a836678c2b49806f2477c67f77605f438d9b07b", func := "homestead/homesteadlaw17.TickSorts", spec := "tickSorts", inPlace := ["slices.overlaps[homestead/api.Player]", "slices.overlaps[homestead/api.Box]", "slices.overlaps[homestead/api.Chunk]"], unfollowed := true, recurses := true, plainKeys := false, apart := false }
def TickSortsSaid : Prop := tickSortsRow.holds Tryz.pinned (OpenSpec.ofChange tickSortsSpec)

/-- ITS FALSE NEIGHBOUR: 'it returns false'. Refute it at one input. -/
def tickSortsWrong : ChangeSpec := { name := "tickSorts", fn := fun _ => fun
  | [d] => { results := [.lit (.bool false)], args := [d] }
  | _ => none }
def TickSortsWrongFalsely : Prop := tickSortsRow.holds Tryz.pinned (OpenSpec.ofChange tickSortsWrong)

/-- 'homesteadlaw17.TickParts': WHATEVER THE INPUT: true; the input reads as it did. -/
def tickPartsSpec : ChangeSpec := { name := "tickParts", fn := fun _ => fun
  | [d1, d2, d3] => { results := [.lit (.bool true)], args := [d1, d2, d3] }
  | _ => none }
def tickPartsRow : OpenClaim := { program := "ytkojlembanldcaagreat", sum := "244441211477d35116583d0e0a836678c2b49806f2477c67f77605f438d9b07b", func := "homestead/homesteadlaw17.TickParts", spec := "tickParts", inPlace := ["slices.overlaps[homestead/api.Player]", "slices.overlaps[homestead/api.Box]", "slices.overlaps[homestead/api.Chunk]"], unfollowed := true, recurses := true, plainKeys := false, apart := false }
def TickPartsSaid : Prop := tickPartsRow.holds Tryz.pinned (OpenSpec.ofChange tickPartsSpec)

/-- ITS FALSE NEIGHBOUR: 'it returns false'. Refute it at one input. -/
def tickPartsWrong : ChangeSpec := { name := "tickParts", fn := fun _ => fun
  | [d1, d2, d3] => { results := [.lit (.bool false)], args := [d1, d2, d3] }
  | _ => none }
def TickPartsWrongFalsely : Prop := tickPartsRow.holds Tryz.pinned (OpenSpec.ofChange tickPartsWrong)

/-- 'homesteadlaw17.TickOrder': WHATEVER THE INPUT: true; the input reads as it did. -/
def tickOrderSpec : ChangeSpec := { name := "tickOrder", fn := fun _ => fun
  | [d1, d2, d3] => { results := [.lit (.bool true)], args := [d1, d2, d3] }
  | _ => none }
def tickOrderRow : OpenClaim := { program := "ytkojlembanldcaagreat", sum := "244441211477d35116583d0e0a836678c2b49806f2477c67f77605f438d9b07b", func := "homestead/homesteadlaw17.TickOrder", spec := "tickOrder", inPlace := ["slices.overlaps[homestead/api.Player]", "slices.overlaps[homestead/api.Box]", "slices.overlaps[homestead/api.Chunk]"], unfollowed := true, recurses := true, plainKeys := false, apart := false }
def TickOrderSaid : Prop := tickOrderRow.holds Tryz.pinned (OpenSpec.ofChange tickOrderSpec)

/-- ITS FALSE NEIGHBOUR: 'it returns false'. Refute it at one input. -/
def tickOrderWrong : ChangeSpec := { name := "tickOrder", fn := fun _ => fun
  | [d1, d2, d3] => { results := [.lit (.bool false)], args := [d1, d2, d3] }
  | _ => none }
def TickOrderWrongFalsely : Prop := tickOrderRow.holds Tryz.pinned (OpenSpec.ofChange tickOrderWrong)

/-- 'homesteadlaw28.DeedsParts': WHATEVER THE INPUT: true; the input reads as it did. -/
def deedsPartsSpec : ChangeSpec := { name := "deedsParts", fn := fun _ => fun
  | [d1, d2, d3] => { results := [.lit (.bool true)], args := [d1, d2, d3] }
  | _ => none }
def deedsPartsRow : OpenClaim := { program := "ytkojlembanldcaagreat", sum := "244441211477d35116583d0e0a836678c2b49806f2477c67f77605f438d9b07b", func := "homestead/homesteadlaw28.DeedsParts", spec := "deedsParts", inPlace := ["slices.overlaps[homestead/api.Player]", "slices.overlaps[homestead/api.Box]", "slices.overlaps[homestead/api.Chunk]"], unfollowed := true, recurses := true, plainKeys := false, apart := false }
def DeedsPartsSaid : Prop := deedsPartsRow.holds Tryz.pinned (OpenSpec.ofChange deedsPartsSpec)

/-- ITS FALSE NEIGHBOUR: 'it returns false'. Refute it at one input. -/
def deedsPartsWrong : ChangeSpec := { name := "deedsParts", fn := fun _ => fun
  | [d1, d2, d3] => { results := [.lit (.bool false)], args := [d1, d2, d3] }
  | _ => none }
def DeedsPartsWrongFalsely : Prop := deedsPartsRow.holds Tryz.pinned (OpenSpec.ofChange deedsPartsWrong)

/-- 'homesteadlaw18.LedgerTells': WHATEVER THE INPUT: true; the input reads as it did. -/
def ledgerTellsSpec : ChangeSpec := { name := "ledgerTells", fn := fun _ => fun
  | [d1, d2] => { results := [.lit (.bool true)], args := [d1, d2] }
  | _ => none }
def ledgerTellsRow : OpenClaim := { program := "ytkojlembanldcaagreat", sum := "244441211477d35116583d0e0a836678c2b49806f2477c67f77605f438d9b07b", func := "homestead/homesteadlaw18.LedgerTells", spec := "ledgerTells", inPlace := ["slices.overlaps[homestead/api.Player]", "slices.overlaps[homestead/api.Box]", "slices.overlaps[homestead/api.Chunk]"], unfollowed := true, recurses := true, plainKeys := false, apart := false }
def LedgerTellsSaid : Prop := ledgerTellsRow.holds Tryz.pinned (OpenSpec.ofChange ledgerTellsSpec)

/-- ITS FALSE NEIGHBOUR: 'it returns false'. Refute it at one input. -/
def ledgerTellsWrong : ChangeSpec := { name := "ledgerTells", fn := fun _ => fun
  | [d1, d2] => { results := [.lit (.bool false)], args := [d1, d2] }
  | _ => none }
def LedgerTellsWrongFalsely : Prop := ledgerTellsRow.holds Tryz.pinned (OpenSpec.ofChange ledgerTellsWrong)

/-- 'homesteadlaw18.LedgerHolds': WHATEVER THE INPUT: true; the input reads as it did. -/
def ledgerHoldsSpec : ChangeSpec := { name := "ledgerHolds", fn := fun _ => fun
  | [d1, d2] => { results := [.lit (.bool true)], args := [d1, d2] }
  | _ => none }
def ledgerHoldsRow : OpenClaim := { program := "ytkojlembanldcaagreat", sum := "244441211477d35116583d0e0a836678c2b49806f2477c67f77605f438d9b07b", func := "homestead/homesteadlaw18.LedgerHolds", spec := "ledgerHolds", inPlace := ["slices.overlaps[homestead/api.Player]", "slices.overlaps[homestead/api.Box]", "slices.overlaps[homestead/api.Chunk]"], unfollowed := true, recurses := true, plainKeys := false, apart := false }
def LedgerHoldsSaid : Prop := ledgerHoldsRow.holds Tryz.pinned (OpenSpec.ofChange ledgerHoldsSpec)

/-- ITS FALSE NEIGHBOUR: 'it returns false'. Refute it at one input. -/
def ledgerHoldsWrong : ChangeSpec := { name := "ledgerHolds", fn := fun _ => fun
  | [d1, d2] => { results := [.lit (.bool false)], args := [d1, d2] }
  | _ => none }
def LedgerHoldsWrongFalsely : Prop := ledgerHoldsRow.holds Tryz.pinned (OpenSpec.ofChange ledgerHoldsWrong)

/-- 'homesteadlaw18.LedgerZero': WHATEVER THE INPUT: true; the input reads as it did. -/
def ledgerZeroSpec : ChangeSpec := { name := "ledgerZero", fn := fun _ => fun
  | [d1, d2] => { results := [.lit (.bool true)], args := [d1, d2] }
  | _ => none }
def ledgerZeroRow : OpenClaim := { program := "ytkojlembanldcaagreat", sum := "244441211477d35116583d0e0a836678c2b49806f2477c67f77605f438d9b07b", func := "homestead/homesteadlaw18.LedgerZero", spec := "ledgerZero", inPlace := ["slices.overlaps[homestead/api.Player]", "slices.overlaps[homestead/api.Box]", "slices.overlaps[homestead/api.Chunk]"], unfollowed := true, recurses := true, plainKeys := false, apart := false }
def LedgerZeroSaid : Prop := ledgerZeroRow.holds Tryz.pinned (OpenSpec.ofChange ledgerZeroSpec)

/-- ITS FALSE NEIGHBOUR: 'it returns false'. Refute it at one input. -/
def ledgerZeroWrong : ChangeSpec := { name := "ledgerZero", fn := fun _ => fun
  | [d1, d2] => { results := [.lit (.bool false)], args := [d1, d2] }
  | _ => none }
def LedgerZeroWrongFalsely : Prop := ledgerZeroRow.holds Tryz.pinned (OpenSpec.ofChange ledgerZeroWrong)

/- THE SECOND FORM. 'bulk': how many values and letters a reading holds, each counted each time it is reached (what is shared counts as often as it is met; a slice's spare places count too). A statement '..UptoSaid' is the law's where the arguments, and the package variables that the reading takes, are together of bulk at most 1048576: NARROWER than '..Said'. Prove '..Said' where nothing that the law and all that it calls make is longer than what came in: it says more and counts as full. Else prove '..UptoSaid'. A law counts once. -/
mutual
def uptoBulk {H : Type} : DataW H → Nat
  | .lit (.string bytes) => bytes.length + 1
  | .lit _ => 1
  | .nil => 1
  | .ptr d => uptoBulk d + 1
  | .slice elems spare => uptoBulkAll elems + uptoBulkAll spare + 1
  | .agg parts => uptoBulkAll parts + 1
  | .iface _ d => uptoBulk d + 1
  | .map entries => uptoBulkEntries entries + 1
  | .held _ => 1
def uptoBulkAll {H : Type} : List (DataW H) → Nat
  | [] => 0
  | d :: r => uptoBulk d + uptoBulkAll r
def uptoBulkEntries {H : Type} : List (Lit × DataW H) → Nat
  | [] => 0
  | x :: r => uptoBulkEntry x + uptoBulkEntries r
def uptoBulkEntry {H : Type} : Lit × DataW H → Nat
  | (.string bytes, d) => bytes.length + uptoBulk d + 1
  | (_, d) => uptoBulk d + 1
 end
def uptoSmall : (H : Type) → List (DataW H) → Bool := fun _ ds => decide (uptoBulkAll ds ≤ 1048576)
def OpenSpec.upto (s : _root_.Go.ChangeSpec) : _root_.Go.OpenSpec := { _root_.Go.OpenSpec.ofChange s with cond := some uptoSmall }

/-- 'homesteadlaw18.LedgerJoins', WHERE WHAT IT READS IS OF BULK AT MOST 1048576: true; the input reads as it did. -/
def ledgerJoinsUptoRow : OpenClaim := { program := "ytkojlembanldcaagreat", sum := "244441211477d35116583d0e0a836678c2b49806f2477c67f77605f438d9b07b", func := "homestead/homesteadlaw18.LedgerJoins", spec := "ledgerJoins", inPlace := ["slices.overlaps[homestead/api.Player]", "slices.overlaps[homestead/api.Box]", "slices.overlaps[homestead/api.Chunk]"], unfollowed := true, recurses := true, plainKeys := false, apart := false, narrowed := true }
def LedgerJoinsUptoSaid : Prop := ledgerJoinsUptoRow.holds Tryz.pinned (OpenSpec.upto ledgerJoinsSpec)

/-- 'homesteadlaw16.RulesFar', WHERE WHAT IT READS IS OF BULK AT MOST 1048576: true; the input reads as it did. -/
def rulesFarUptoRow : OpenClaim := { program := "ytkojlembanldcaagreat", sum := "244441211477d35116583d0e0a836678c2b49806f2477c67f77605f438d9b07b", func := "homestead/homesteadlaw16.RulesFar", spec := "rulesFar", inPlace := ["slices.overlaps[homestead/api.Player]", "slices.overlaps[homestead/api.Box]", "slices.overlaps[homestead/api.Chunk]"], unfollowed := true, recurses := true, plainKeys := false, apart := false, narrowed := true }
def RulesFarUptoSaid : Prop := rulesFarUptoRow.holds Tryz.pinned (OpenSpec.upto rulesFarSpec)

/-- 'homesteadlaw16.RulesBack', WHERE WHAT IT READS IS OF BULK AT MOST 1048576: true; the input reads as it did. -/
def rulesBackUptoRow : OpenClaim := { program := "ytkojlembanldcaagreat", sum := "244441211477d35116583d0e0a836678c2b49806f2477c67f77605f438d9b07b", func := "homestead/homesteadlaw16.RulesBack", spec := "rulesBack", inPlace := ["slices.overlaps[homestead/api.Player]", "slices.overlaps[homestead/api.Box]", "slices.overlaps[homestead/api.Chunk]"], unfollowed := true, recurses := true, plainKeys := false, apart := false, narrowed := true }
def RulesBackUptoSaid : Prop := rulesBackUptoRow.holds Tryz.pinned (OpenSpec.upto rulesBackSpec)

/-- 'homesteadlaw16.RulesApart', WHERE WHAT IT READS IS OF BULK AT MOST 1048576: true; the input reads as it did. -/
def rulesApartUptoRow : OpenClaim := { program := "ytkojlembanldcaagreat", sum := "244441211477d35116583d0e0a836678c2b49806f2477c67f77605f438d9b07b", func := "homestead/homesteadlaw16.RulesApart", spec := "rulesApart", inPlace := ["slices.overlaps[homestead/api.Player]", "slices.overlaps[homestead/api.Box]", "slices.overlaps[homestead/api.Chunk]"], unfollowed := true, recurses := true, plainKeys := false, apart := false, narrowed := true }
def RulesApartUptoSaid : Prop := rulesApartUptoRow.holds Tryz.pinned (OpenSpec.upto rulesApartSpec)

/-- 'homesteadlaw16.RulesComes', WHERE WHAT IT READS IS OF BULK AT MOST 1048576: true; the input reads as it did. -/
def rulesComesUptoRow : OpenClaim := { program := "ytkojlembanldcaagreat", sum := "244441211477d35116583d0e0a836678c2b49806f2477c67f77605f438d9b07b", func := "homestead/homesteadlaw16.RulesComes", spec := "rulesComes", inPlace := ["slices.overlaps[homestead/api.Player]", "slices.overlaps[homestead/api.Box]", "slices.overlaps[homestead/api.Chunk]"], unfollowed := true, recurses := true, plainKeys := false, apart := false, narrowed := true }
def RulesComesUptoSaid : Prop := rulesComesUptoRow.holds Tryz.pinned (OpenSpec.upto rulesComesSpec)

/-- 'homesteadlaw16.RulesTell', WHERE WHAT IT READS IS OF BULK AT MOST 1048576: true; the input reads as it did. -/
def rulesTellUptoRow : OpenClaim := { program := "ytkojlembanldcaagreat", sum := "244441211477d35116583d0e0a836678c2b49806f2477c67f77605f438d9b07b", func := "homestead/homesteadlaw16.RulesTell", spec := "rulesTell", inPlace := ["slices.overlaps[homestead/api.Player]", "slices.overlaps[homestead/api.Box]", "slices.overlaps[homestead/api.Chunk]"], unfollowed := true, recurses := true, plainKeys := false, apart := false, narrowed := true }
def RulesTellUptoSaid : Prop := rulesTellUptoRow.holds Tryz.pinned (OpenSpec.upto rulesTellSpec)

/-- 'homesteadlaw16.RulesKeep', WHERE WHAT IT READS IS OF BULK AT MOST 1048576: true; the input reads as it did. -/
def rulesKeepUptoRow : OpenClaim := { program := "ytkojlembanldcaagreat", sum := "244441211477d35116583d0e0a836678c2b49806f2477c67f77605f438d9b07b", func := "homestead/homesteadlaw16.RulesKeep", spec := "rulesKeep", inPlace := ["slices.overlaps[homestead/api.Player]", "slices.overlaps[homestead/api.Box]", "slices.overlaps[homestead/api.Chunk]"], unfollowed := true, recurses := true, plainKeys := false, apart := false, narrowed := true }
def RulesKeepUptoSaid : Prop := rulesKeepUptoRow.holds Tryz.pinned (OpenSpec.upto rulesKeepSpec)

/-- 'homesteadlaw17.TickTells', WHERE WHAT IT READS IS OF BULK AT MOST 1048576: true; the input reads as it did. -/
def tickTellsUptoRow : OpenClaim := { program := "ytkojlembanldcaagreat", sum := "244441211477d35116583d0e0a836678c2b49806f2477c67f77605f438d9b07b", func := "homestead/homesteadlaw17.TickTells", spec := "tickTells", inPlace := ["slices.overlaps[homestead/api.Player]", "slices.overlaps[homestead/api.Box]", "slices.overlaps[homestead/api.Chunk]"], unfollowed := true, recurses := true, plainKeys := false, apart := false, narrowed := true }
def TickTellsUptoSaid : Prop := tickTellsUptoRow.holds Tryz.pinned (OpenSpec.upto tickTellsSpec)

/-- 'homesteadlaw17.TickEmpty', WHERE WHAT IT READS IS OF BULK AT MOST 1048576: true; the input reads as it did. -/
def tickEmptyUptoRow : OpenClaim := { program := "ytkojlembanldcaagreat", sum := "244441211477d35116583d0e0a836678c2b49806f2477c67f77605f438d9b07b", func := "homestead/homesteadlaw17.TickEmpty", spec := "tickEmpty", inPlace := ["slices.overlaps[homestead/api.Player]", "slices.overlaps[homestead/api.Box]", "slices.overlaps[homestead/api.Chunk]"], unfollowed := true, recurses := true, plainKeys := false, apart := false, narrowed := true }
def TickEmptyUptoSaid : Prop := tickEmptyUptoRow.holds Tryz.pinned (OpenSpec.upto tickEmptySpec)

/-- 'homesteadlaw17.TickReplies', WHERE WHAT IT READS IS OF BULK AT MOST 1048576: true; the input reads as it did. -/
def tickRepliesUptoRow : OpenClaim := { program := "ytkojlembanldcaagreat", sum := "244441211477d35116583d0e0a836678c2b49806f2477c67f77605f438d9b07b", func := "homestead/homesteadlaw17.TickReplies", spec := "tickReplies", inPlace := ["slices.overlaps[homestead/api.Player]", "slices.overlaps[homestead/api.Box]", "slices.overlaps[homestead/api.Chunk]"], unfollowed := true, recurses := true, plainKeys := false, apart := false, narrowed := true }
def TickRepliesUptoSaid : Prop := tickRepliesUptoRow.holds Tryz.pinned (OpenSpec.upto tickRepliesSpec)

/-- 'homesteadlaw17.TickSorts', WHERE WHAT IT READS IS OF BULK AT MOST 1048576: true; the input reads as it did. -/
def tickSortsUptoRow : OpenClaim := { program := "ytkojlembanldcaagreat", sum := "244441211477d35116583d0e0a836678c2b49806f2477c67f77605f438d9b07b", func := "homestead/homesteadlaw17.TickSorts", spec := "tickSorts", inPlace := ["slices.overlaps[homestead/api.Player]", "slices.overlaps[homestead/api.Box]", "slices.overlaps[homestead/api.Chunk]"], unfollowed := true, recurses := true, plainKeys := false, apart := false, narrowed := true }
def TickSortsUptoSaid : Prop := tickSortsUptoRow.holds Tryz.pinned (OpenSpec.upto tickSortsSpec)

/-- 'homesteadlaw17.TickParts', WHERE WHAT IT READS IS OF BULK AT MOST 1048576: true; the input reads as it did. -/
def tickPartsUptoRow : OpenClaim := { program := "ytkojlembanldcaagreat", sum := "244441211477d35116583d0e0a836678c2b49806f2477c67f77605f438d9b07b", func := "homestead/homesteadlaw17.TickParts", spec := "tickParts", inPlace := ["slices.overlaps[homestead/api.Player]", "slices.overlaps[homestead/api.Box]", "slices.overlaps[homestead/api.Chunk]"], unfollowed := true, recurses := true, plainKeys := false, apart := false, narrowed := true }
def TickPartsUptoSaid : Prop := tickPartsUptoRow.holds Tryz.pinned (OpenSpec.upto tickPartsSpec)

/-- 'homesteadlaw17.TickOrder', WHERE WHAT IT READS IS OF BULK AT MOST 1048576: true; the input reads as it did. -/
def tickOrderUptoRow : OpenClaim := { program := "ytkojlembanldcaagreat", sum := "244441211477d35116583d0e0a836678c2b49806f2477c67f77605f438d9b07b", func := "homestead/homesteadlaw17.TickOrder", spec := "tickOrder", inPlace := ["slices.overlaps[homestead/api.Player]", "slices.overlaps[homestead/api.Box]", "slices.overlaps[homestead/api.Chunk]"], unfollowed := true, recurses := true, plainKeys := false, apart := false, narrowed := true }
def TickOrderUptoSaid : Prop := tickOrderUptoRow.holds Tryz.pinned (OpenSpec.upto tickOrderSpec)

/-- 'homesteadlaw28.DeedsParts', WHERE WHAT IT READS IS OF BULK AT MOST 1048576: true; the input reads as it did. -/
def deedsPartsUptoRow : OpenClaim := { program := "ytkojlembanldcaagreat", sum := "244441211477d35116583d0e0a836678c2b49806f2477c67f77605f438d9b07b", func := "homestead/homesteadlaw28.DeedsParts", spec := "deedsParts", inPlace := ["slices.overlaps[homestead/api.Player]", "slices.overlaps[homestead/api.Box]", "slices.overlaps[homestead/api.Chunk]"], unfollowed := true, recurses := true, plainKeys := false, apart := false, narrowed := true }
def DeedsPartsUptoSaid : Prop := deedsPartsUptoRow.holds Tryz.pinned (OpenSpec.upto deedsPartsSpec)

/-- 'homesteadlaw18.LedgerTells', WHERE WHAT IT READS IS OF BULK AT MOST 1048576: true; the input reads as it did. -/
def ledgerTellsUptoRow : OpenClaim := { program := "ytkojlembanldcaagreat", sum := "244441211477d35116583d0e0a836678c2b49806f2477c67f77605f438d9b07b", func := "homestead/homesteadlaw18.LedgerTells", spec := "ledgerTells", inPlace := ["slices.overlaps[homestead/api.Player]", "slices.overlaps[homestead/api.Box]", "slices.overlaps[homestead/api.Chunk]"], unfollowed := true, recurses := true, plainKeys := false, apart := false, narrowed := true }
def LedgerTellsUptoSaid : Prop := ledgerTellsUptoRow.holds Tryz.pinned (OpenSpec.upto ledgerTellsSpec)

/-- 'homesteadlaw18.LedgerHolds', WHERE WHAT IT READS IS OF BULK AT MOST 1048576: true; the input reads as it did. -/
def ledgerHoldsUptoRow : OpenClaim := { program := "ytkojlembanldcaagreat", sum := "244441211477d35116583d0e0a836678c2b49806f2477c67f77605f438d9b07b", func := "homestead/homesteadlaw18.LedgerHolds", spec := "ledgerHolds", inPlace := ["slices.overlaps[homestead/api.Player]", "slices.overlaps[homestead/api.Box]", "slices.overlaps[homestead/api.Chunk]"], unfollowed := true, recurses := true, plainKeys := false, apart := false, narrowed := true }
def LedgerHoldsUptoSaid : Prop := ledgerHoldsUptoRow.holds Tryz.pinned (OpenSpec.upto ledgerHoldsSpec)

/-- 'homesteadlaw18.LedgerZero', WHERE WHAT IT READS IS OF BULK AT MOST 1048576: true; the input reads as it did. -/
def ledgerZeroUptoRow : OpenClaim := { program := "ytkojlembanldcaagreat", sum := "244441211477d35116583d0e0a836678c2b49806f2477c67f77605f438d9b07b", func := "homestead/homesteadlaw18.LedgerZero", spec := "ledgerZero", inPlace := ["slices.overlaps[homestead/api.Player]", "slices.overlaps[homestead/api.Box]", "slices.overlaps[homestead/api.Chunk]"], unfollowed := true, recurses := true, plainKeys := false, apart := false, narrowed := true }
def LedgerZeroUptoSaid : Prop := ledgerZeroUptoRow.holds Tryz.pinned (OpenSpec.upto ledgerZeroSpec)

end Rows
end Go.Proofs.YtkojlembanldcaaGreat
