/-
  No cell of these rows narrows 'for every input' (looked for: loops, veiled, ifaces, maps, wideKeys, modest, calm, conditions, laid).
  DERIVED. THE GIVEN ROWS OF THIS SEAT. 8 by the template 'for every input the law returns true; each argument reads behind the call as it read before'; 0 by the template 'total and deterministic' (their statements: YtaecchphjploaaaGreatTotals.lean).
  GIVEN WITH THE SEED: the statements are not yours to turn. If you find one false, say at which input.
  Laid BY PROGRAM, IN A SANDBOX (cutbox-rows.mjs): the forced cells as the released guide's own fill.sh prints them over the translation 9c8e223df01bf517… (all of the seat's roots in one cut). By AI agents, Wed Nov 11 2026. No macro, syntax, notation, axiom, sorry.
-/
import Derived.Test.YtaecchphjploaaaGreatChecked
import GoSem.Claim
import GoSem.ClaimJoined
import GoSem.ClaimMapViews
import Derived.JoinedTies
import Derived.KernelRfl
namespace Go.Proofs.YtaecchphjploaaaGreat
/- THE CELL 'sum', in the pinned program and in every row, IS THE sha256 OF THE DUMP (.gsa) THAT YtaecchphjploaaaGreatProg.lean LOADS. Nothing in Lean hashes anything: it is a label: what it is worth is what the hold of that sum in a sandbox is worth. -/
noncomputable def Tryz.pinned : Pinned := { name := "ytaecchphjploaaagreat", sum := "9c8e223df01bf51716721cfb5f226498e9c8a73dc63f0a883e92b6ede4bd1d55", checked := Tryz.checked }
namespace Rows
def none {H : Type} : Left H := { results := [], args := [] }

/-- 'homesteadlaw13.WorldTells': WHATEVER THE INPUT: true; the input reads as it did. -/
def worldTellsSpec : ChangeSpec := { name := "worldTells", fn := fun _ => fun
  | [d1, d2] => { results := [.lit (.bool true)], args := [d1, d2] }
  | _ => none }
def worldTellsRow : OpenClaim := { program := "ytaecchphjploaaagreat", sum := "9c8e223df01bf51716721cfb5f226498e9c8a73dc63f0a883e92b6ede4bd1d55", func := "homestead/homesteadlaw13.WorldTells", spec := "worldTells", inPlace := ["slices.overlaps[homestead/api.Chunk]", "slices.overlaps[homestead/api.Player]"], unfollowed := true, recurses := true, apart := false }
def WorldTellsSaid : Prop := worldTellsRow.holds Tryz.pinned (OpenSpec.ofChange worldTellsSpec)

/-- ITS FALSE NEIGHBOUR: 'it returns false'. Refute it at one input. -/
def worldTellsWrong : ChangeSpec := { name := "worldTells", fn := fun _ => fun
  | [d1, d2] => { results := [.lit (.bool false)], args := [d1, d2] }
  | _ => none }
def WorldTellsWrongFalsely : Prop := worldTellsRow.holds Tryz.pinned (OpenSpec.ofChange worldTellsWrong)

/-- 'homesteadlaw13.WorldBack': WHATEVER THE INPUT: true; the input reads as it did. -/
def worldBackSpec : ChangeSpec := { name := "worldBack", fn := fun _ => fun
  | [d1, d2] => { results := [.lit (.bool true)], args := [d1, d2] }
  | _ => none }
def worldBackRow : OpenClaim := { program := "ytaecchphjploaaagreat", sum := "9c8e223df01bf51716721cfb5f226498e9c8a73dc63f0a883e92b6ede4bd1d55", func := "homestead/homesteadlaw13.WorldBack", spec := "worldBack", inPlace := ["slices.overlaps[homestead/api.Chunk]", "slices.overlaps[homestead/api.Player]"], unfollowed := true, recurses := true, apart := false }
def WorldBackSaid : Prop := worldBackRow.holds Tryz.pinned (OpenSpec.ofChange worldBackSpec)

/-- ITS FALSE NEIGHBOUR: 'it returns false'. Refute it at one input. -/
def worldBackWrong : ChangeSpec := { name := "worldBack", fn := fun _ => fun
  | [d1, d2] => { results := [.lit (.bool false)], args := [d1, d2] }
  | _ => none }
def WorldBackWrongFalsely : Prop := worldBackRow.holds Tryz.pinned (OpenSpec.ofChange worldBackWrong)

/-- 'homesteadlaw20.SnapShort': WHATEVER THE INPUT: true; the input reads as it did. -/
def snapShortSpec : ChangeSpec := { name := "snapShort", fn := fun _ => fun
  | [d] => { results := [.lit (.bool true)], args := [d] }
  | _ => none }
def snapShortRow : OpenClaim := { program := "ytaecchphjploaaagreat", sum := "9c8e223df01bf51716721cfb5f226498e9c8a73dc63f0a883e92b6ede4bd1d55", func := "homestead/homesteadlaw20.SnapShort", spec := "snapShort", inPlace := ["slices.overlaps[homestead/api.Player]"], unfollowed := true, recurses := true, apart := false }
def SnapShortSaid : Prop := snapShortRow.holds Tryz.pinned (OpenSpec.ofChange snapShortSpec)

/-- ITS FALSE NEIGHBOUR: 'it returns false'. Refute it at one input. -/
def snapShortWrong : ChangeSpec := { name := "snapShort", fn := fun _ => fun
  | [d] => { results := [.lit (.bool false)], args := [d] }
  | _ => none }
def SnapShortWrongFalsely : Prop := snapShortRow.holds Tryz.pinned (OpenSpec.ofChange snapShortWrong)

/-- 'homesteadlaw20.SnapChain': WHATEVER THE INPUT: true; the input reads as it did. -/
def snapChainSpec : ChangeSpec := { name := "snapChain", fn := fun _ => fun
  | [d] => { results := [.lit (.bool true)], args := [d] }
  | _ => none }
def snapChainRow : OpenClaim := { program := "ytaecchphjploaaagreat", sum := "9c8e223df01bf51716721cfb5f226498e9c8a73dc63f0a883e92b6ede4bd1d55", func := "homestead/homesteadlaw20.SnapChain", spec := "snapChain", inPlace := ["slices.overlaps[homestead/api.Player]"], unfollowed := true, recurses := true, apart := false }
def SnapChainSaid : Prop := snapChainRow.holds Tryz.pinned (OpenSpec.ofChange snapChainSpec)

/-- ITS FALSE NEIGHBOUR: 'it returns false'. Refute it at one input. -/
def snapChainWrong : ChangeSpec := { name := "snapChain", fn := fun _ => fun
  | [d] => { results := [.lit (.bool false)], args := [d] }
  | _ => none }
def SnapChainWrongFalsely : Prop := snapChainRow.holds Tryz.pinned (OpenSpec.ofChange snapChainWrong)

/-- 'homesteadlaw20.SnapTells': WHATEVER THE INPUT: true; the input reads as it did. -/
def snapTellsSpec : ChangeSpec := { name := "snapTells", fn := fun _ => fun
  | [d1, d2, d3] => { results := [.lit (.bool true)], args := [d1, d2, d3] }
  | _ => none }
def snapTellsRow : OpenClaim := { program := "ytaecchphjploaaagreat", sum := "9c8e223df01bf51716721cfb5f226498e9c8a73dc63f0a883e92b6ede4bd1d55", func := "homestead/homesteadlaw20.SnapTells", spec := "snapTells", inPlace := ["slices.overlaps[homestead/api.Player]"], unfollowed := true, recurses := true, apart := false }
def SnapTellsSaid : Prop := snapTellsRow.holds Tryz.pinned (OpenSpec.ofChange snapTellsSpec)

/-- ITS FALSE NEIGHBOUR: 'it returns false'. Refute it at one input. -/
def snapTellsWrong : ChangeSpec := { name := "snapTells", fn := fun _ => fun
  | [d1, d2, d3] => { results := [.lit (.bool false)], args := [d1, d2, d3] }
  | _ => none }
def SnapTellsWrongFalsely : Prop := snapTellsRow.holds Tryz.pinned (OpenSpec.ofChange snapTellsWrong)

/-- 'homesteadlaw20.SnapBack': WHATEVER THE INPUT: true; the input reads as it did. -/
def snapBackSpec : ChangeSpec := { name := "snapBack", fn := fun _ => fun
  | [d1, d2, d3] => { results := [.lit (.bool true)], args := [d1, d2, d3] }
  | _ => none }
def snapBackRow : OpenClaim := { program := "ytaecchphjploaaagreat", sum := "9c8e223df01bf51716721cfb5f226498e9c8a73dc63f0a883e92b6ede4bd1d55", func := "homestead/homesteadlaw20.SnapBack", spec := "snapBack", inPlace := ["slices.overlaps[homestead/api.Player]"], unfollowed := true, recurses := true, apart := false }
def SnapBackSaid : Prop := snapBackRow.holds Tryz.pinned (OpenSpec.ofChange snapBackSpec)

/-- ITS FALSE NEIGHBOUR: 'it returns false'. Refute it at one input. -/
def snapBackWrong : ChangeSpec := { name := "snapBack", fn := fun _ => fun
  | [d1, d2, d3] => { results := [.lit (.bool false)], args := [d1, d2, d3] }
  | _ => none }
def SnapBackWrongFalsely : Prop := snapBackRow.holds Tryz.pinned (OpenSpec.ofChange snapBackWrong)

/-- 'homesteadlaw20.SnapOther': WHATEVER THE INPUT: true; the input reads as it did. -/
def snapOtherSpec : ChangeSpec := { name := "snapOther", fn := fun _ => fun
  | [d1, d2, d3] => { results := [.lit (.bool true)], args := [d1, d2, d3] }
  | _ => none }
def snapOtherRow : OpenClaim := { program := "ytaecchphjploaaagreat", sum := "9c8e223df01bf51716721cfb5f226498e9c8a73dc63f0a883e92b6ede4bd1d55", func := "homestead/homesteadlaw20.SnapOther", spec := "snapOther", inPlace := ["slices.overlaps[homestead/api.Player]"], unfollowed := true, recurses := true, apart := false }
def SnapOtherSaid : Prop := snapOtherRow.holds Tryz.pinned (OpenSpec.ofChange snapOtherSpec)

/-- ITS FALSE NEIGHBOUR: 'it returns false'. Refute it at one input. -/
def snapOtherWrong : ChangeSpec := { name := "snapOther", fn := fun _ => fun
  | [d1, d2, d3] => { results := [.lit (.bool false)], args := [d1, d2, d3] }
  | _ => none }
def SnapOtherWrongFalsely : Prop := snapOtherRow.holds Tryz.pinned (OpenSpec.ofChange snapOtherWrong)

/-- 'homesteadlaw20.SnapCells': WHATEVER THE INPUT: true; the input reads as it did. -/
def snapCellsSpec : ChangeSpec := { name := "snapCells", fn := fun _ => fun
  | [d1, d2, d3] => { results := [.lit (.bool true)], args := [d1, d2, d3] }
  | _ => none }
def snapCellsRow : OpenClaim := { program := "ytaecchphjploaaagreat", sum := "9c8e223df01bf51716721cfb5f226498e9c8a73dc63f0a883e92b6ede4bd1d55", func := "homestead/homesteadlaw20.SnapCells", spec := "snapCells", inPlace := ["slices.overlaps[homestead/api.Player]"], unfollowed := true, recurses := true, apart := false }
def SnapCellsSaid : Prop := snapCellsRow.holds Tryz.pinned (OpenSpec.ofChange snapCellsSpec)

/-- ITS FALSE NEIGHBOUR: 'it returns false'. Refute it at one input. -/
def snapCellsWrong : ChangeSpec := { name := "snapCells", fn := fun _ => fun
  | [d1, d2, d3] => { results := [.lit (.bool false)], args := [d1, d2, d3] }
  | _ => none }
def SnapCellsWrongFalsely : Prop := snapCellsRow.holds Tryz.pinned (OpenSpec.ofChange snapCellsWrong)

/- THE SECOND FORM. 'bulk': how many values and letters a reading holds, each counted each time it is reached (what is shared counts as often as it is met; a slice's spare places count too). A statement '..UptoSaid' is the law's where the arguments, and the package variables that the reading takes, are together of bulk at most 1048576: NARROWER than '..Said'. Prove '..Said' where nothing that the law and all that it calls make is longer than what came in: it says more and counts as full. Else prove '..UptoSaid'. A law counts once. -/
mutual
def uptoBulk {H : Type} : DataW H → Nat
  | .lit (.string bytes) => bytes.length + 1
  | .lit _ => 1
  | .nil => 1
  | .ptr d => uptoBulk d + 1
  | .slice elems spare => uptoBulkAll elems + uptoBulkAll spare + 1
  | .agg parts => uptoBulkAll parts + 1
  | .iface _ d => uptoBulk d + 1
  | .map entries => uptoBulkEntries entries + 1
  | .held _ => 1
def uptoBulkAll {H : Type} : List (DataW H) → Nat
  | [] => 0
  | d :: r => uptoBulk d + uptoBulkAll r
def uptoBulkEntries {H : Type} : List (Lit × DataW H) → Nat
  | [] => 0
  | x :: r => uptoBulkEntry x + uptoBulkEntries r
def uptoBulkEntry {H : Type} : Lit × DataW H → Nat
  | (.string bytes, d) => bytes.length + uptoBulk d + 1
  | (_, d) => uptoBulk d + 1
 end
def uptoSmall : (H : Type) → List (DataW H) → Bool := fun _ ds => decide (uptoBulkAll ds ≤ 1048576)
def OpenSpec.upto (s : _root_.Go.ChangeSpec) : _root_.Go.OpenSpec := { _root_.Go.OpenSpec.ofChange s with cond := some uptoSmall }

/-- 'homesteadlaw13.WorldTells', WHERE WHAT IT READS IS OF BULK AT MOST 1048576: true; the input reads as it did. -/
def worldTellsUptoRow : OpenClaim := { program := "ytaecchphjploaaagreat", sum := "9c8e223df01bf51716721cfb5f226498e9c8a73dc63f0a883e92b6ede4bd1d55", func := "homestead/homesteadlaw13.WorldTells", spec := "worldTells", inPlace := ["slices.overlaps[homestead/api.Chunk]", "slices.overlaps[homestead/api.Player]"], unfollowed := true, recurses := true, apart := false, narrowed := true }
def WorldTellsUptoSaid : Prop := worldTellsUptoRow.holds Tryz.pinned (OpenSpec.upto worldTellsSpec)

/-- 'homesteadlaw13.WorldBack', WHERE WHAT IT READS IS OF BULK AT MOST 1048576: true; the input reads as it did. -/
def worldBackUptoRow : OpenClaim := { program := "ytaecchphjploaaagreat", sum := "9c8e223df01bf51716721cfb5f226498e9c8a73dc63f0a883e92b6ede4bd1d55", func := "homestead/homesteadlaw13.WorldBack", spec := "worldBack", inPlace := ["slices.overlaps[homestead/api.Chunk]", "slices.overlaps[homestead/api.Player]"], unfollowed := true, recurses := true, apart := false, narrowed := true }
def WorldBackUptoSaid : Prop := worldBackUptoRow.holds Tryz.pinned (OpenSpec.upto worldBackSpec)

/-- 'homesteadlaw20.SnapShort', WHERE WHAT IT READS IS OF BULK AT MOST 1048576: true; the input reads as it did. -/
def snapShortUptoRow : OpenClaim := { program := "ytaecchphjploaaagreat", sum := "9c8e223df01bf51716721cfb5f226498e9c8a73dc63f0a883e92b6ede4bd1d55", func := "homestead/homesteadlaw20.SnapShort", spec := "snapShort", inPlace := ["slices.overlaps[homestead/api.Player]"], unfollowed := true, recurses := true, apart := false, narrowed := true }
def SnapShortUptoSaid : Prop := snapShortUptoRow.holds Tryz.pinned (OpenSpec.upto snapShortSpec)

/-- 'homesteadlaw20.SnapChain', WHERE WHAT IT READS IS OF BULK AT MOST 1048576: true; the input reads as it did. -/
def snapChainUptoRow : OpenClaim := { program := "ytaecchphjploaaagreat", sum := "9c8e223df01bf51716721cfb5f226498e9c8a73dc63f0a883e92b6ede4bd1d55", func := "homestead/homesteadlaw20.SnapChain", spec := "snapChain", inPlace := ["slices.overlaps[homestead/api.Player]"], unfollowed := true, recurses := true, apart := false, narrowed := true }
def SnapChainUptoSaid : Prop := snapChainUptoRow.holds Tryz.pinned (OpenSpec.upto snapChainSpec)

/-- 'homesteadlaw20.SnapTells', WHERE WHAT IT READS IS OF BULK AT MOST 1048576: true; the input reads as it did. -/
def snapTellsUptoRow : OpenClaim := { program := "ytaecchphjploaaagreat", sum := "9c8e223df01bf51716721cfb5f226498e9c8a73dc63f0a883e92b6ede4bd1d55", func := "homestead/homesteadlaw20.SnapTells", spec := "snapTells", inPlace := ["slices.overlaps[homestead/api.Player]"], unfollowed := true, recurses := true, apart := false, narrowed := true }
def SnapTellsUptoSaid : Prop := snapTellsUptoRow.holds Tryz.pinned (OpenSpec.upto snapTellsSpec)

/-- 'homesteadlaw20.SnapBack', WHERE WHAT IT READS IS OF BULK AT MOST 1048576: true; the input reads as it did. -/
def snapBackUptoRow : OpenClaim := { program := "ytaecchphjploaaagreat", sum := "9c8e223df01bf51716721cfb5f226498e9c8a73dc63f0a883e92b6ede4bd1d55", func := "homestead/homesteadlaw20.SnapBack", spec := "snapBack", inPlace := ["slices.overlaps[homestead/api.Player]"], unfollowed := true, recurses := true, apart := false, narrowed := true }
def SnapBackUptoSaid : Prop := snapBackUptoRow.holds Tryz.pinned (OpenSpec.upto snapBackSpec)

/-- 'homesteadlaw20.SnapOther', WHERE WHAT IT READS IS OF BULK AT MOST 1048576: true; the input reads as it did. -/
def snapOtherUptoRow : OpenClaim := { program := "ytaecchphjploaaagreat", sum := "9c8e223df01bf51716721cfb5f226498e9c8a73dc63f0a883e92b6ede4bd1d55", func := "homestead/homesteadlaw20.SnapOther", spec := "snapOther", inPlace := ["slices.overlaps[homestead/api.Player]"], unfollowed := true, recurses := true, apart := false, narrowed := true }
def SnapOtherUptoSaid : Prop := snapOtherUptoRow.holds Tryz.pinned (OpenSpec.upto snapOtherSpec)

/-- 'homesteadlaw20.SnapCells', WHERE WHAT IT READS IS OF BULK AT MOST 1048576: true; the input reads as it did. -/
def snapCellsUptoRow : OpenClaim := { program := "ytaecchphjploaaagreat", sum := "9c8e223df01bf51716721cfb5f226498e9c8a73dc63f0a883e92b6ede4bd1d55", func := "homestead/homesteadlaw20.SnapCells", spec := "snapCells", inPlace := ["slices.overlaps[homestead/api.Player]"], unfollowed := true, recurses := true, apart := false, narrowed := true }
def SnapCellsUptoSaid : Prop := snapCellsUptoRow.holds Tryz.pinned (OpenSpec.upto snapCellsSpec)

end Rows
end Go.Proofs.YtaecchphjploaaaGreat
