/-
  No cell of these rows narrows 'for every input' (looked for: loops, veiled, ifaces, maps, wideKeys, modest, calm, conditions, laid).
  DERIVED. THE GIVEN ROWS OF THIS SEAT. 5 by the template 'for every input the law returns true; each argument reads behind the call as it read before'; 0 by the template 'total and deterministic' (their statements: YtokdgkdpdepaeaaTotals.lean).
  GIVEN WITH THE SEED: the statements are not yours to turn. If you find one false, say at which input.
  Laid BY PROGRAM, IN A SANDBOX (cutbox-rows.mjs): the forced cells as the released guide's own fill.sh prints them over the translation c8b14b6f3b7a37e4… (all of the seat's roots in one cut). By AI agents, Wed Nov 11 2026. No macro, syntax, notation, axiom, sorry.
-/
import Derived.Test.YtokdgkdpdepaeaaChecked
import GoSem.Claim
import GoSem.ClaimJoined
import GoSem.ClaimMapViews
import Derived.JoinedTies
import Derived.KernelRfl
namespace Go.Proofs.Ytokdgkdpdepaeaa
/- THE CELL 'sum', in the pinned program and in every row, IS THE sha256 OF THE DUMP (.gsa) THAT YtokdgkdpdepaeaaProg.lean LOADS. Nothing in Lean hashes anything: it is a label: what it is worth is what the hold of that sum in a sandbox is worth. -/
noncomputable def Try.pinned : Pinned := { name := "ytokdgkdpdepaeaa", sum := "c8b14b6f3b7a37e4d143d249b78761bffb627fcd58eb3539a0d82e38de9153ba", checked := Try.checked }
namespace Rows
def none {H : Type} : Left H := { results := [], args := [] }

/-- 'homesteadlaw11.ChunkSets': WHATEVER THE INPUT: true; the input reads as it did. -/
def chunkSetsSpec : ChangeSpec := { name := "chunkSets", fn := fun _ => fun
  | [d1, d2, d3] => { results := [.lit (.bool true)], args := [d1, d2, d3] }
  | _ => none }
def chunkSetsRow : OpenClaim := { program := "ytokdgkdpdepaeaa", sum := "c8b14b6f3b7a37e4d143d249b78761bffb627fcd58eb3539a0d82e38de9153ba", func := "homestead/homesteadlaw11.ChunkSets", spec := "chunkSets", inPlace := ["slices.overlaps[homestead/api.Box]"], unfollowed := true, recurses := true, apart := false }
def ChunkSetsSaid : Prop := chunkSetsRow.holds Try.pinned (OpenSpec.ofChange chunkSetsSpec)

/-- ITS FALSE NEIGHBOUR: 'it returns false'. Refute it at one input. -/
def chunkSetsWrong : ChangeSpec := { name := "chunkSets", fn := fun _ => fun
  | [d1, d2, d3] => { results := [.lit (.bool false)], args := [d1, d2, d3] }
  | _ => none }
def ChunkSetsWrongFalsely : Prop := chunkSetsRow.holds Try.pinned (OpenSpec.ofChange chunkSetsWrong)

/-- 'homesteadlaw11.ChunkBoxes': WHATEVER THE INPUT: true; the input reads as it did. -/
def chunkBoxesSpec : ChangeSpec := { name := "chunkBoxes", fn := fun _ => fun
  | [d1, d2, d3] => { results := [.lit (.bool true)], args := [d1, d2, d3] }
  | _ => none }
def chunkBoxesRow : OpenClaim := { program := "ytokdgkdpdepaeaa", sum := "c8b14b6f3b7a37e4d143d249b78761bffb627fcd58eb3539a0d82e38de9153ba", func := "homestead/homesteadlaw11.ChunkBoxes", spec := "chunkBoxes", inPlace := ["slices.overlaps[homestead/api.Box]"], unfollowed := true, recurses := true, apart := false }
def ChunkBoxesSaid : Prop := chunkBoxesRow.holds Try.pinned (OpenSpec.ofChange chunkBoxesSpec)

/-- ITS FALSE NEIGHBOUR: 'it returns false'. Refute it at one input. -/
def chunkBoxesWrong : ChangeSpec := { name := "chunkBoxes", fn := fun _ => fun
  | [d1, d2, d3] => { results := [.lit (.bool false)], args := [d1, d2, d3] }
  | _ => none }
def ChunkBoxesWrongFalsely : Prop := chunkBoxesRow.holds Try.pinned (OpenSpec.ofChange chunkBoxesWrong)

/-- 'homesteadlaw11.ChunkLimits': WHATEVER THE INPUT: true; the input reads as it did. -/
def chunkLimitsSpec : ChangeSpec := { name := "chunkLimits", fn := fun _ => fun
  | [d1, d2, d3] => { results := [.lit (.bool true)], args := [d1, d2, d3] }
  | _ => none }
def chunkLimitsRow : OpenClaim := { program := "ytokdgkdpdepaeaa", sum := "c8b14b6f3b7a37e4d143d249b78761bffb627fcd58eb3539a0d82e38de9153ba", func := "homestead/homesteadlaw11.ChunkLimits", spec := "chunkLimits", inPlace := ["slices.overlaps[homestead/api.Box]"], unfollowed := true, recurses := true, apart := false }
def ChunkLimitsSaid : Prop := chunkLimitsRow.holds Try.pinned (OpenSpec.ofChange chunkLimitsSpec)

/-- ITS FALSE NEIGHBOUR: 'it returns false'. Refute it at one input. -/
def chunkLimitsWrong : ChangeSpec := { name := "chunkLimits", fn := fun _ => fun
  | [d1, d2, d3] => { results := [.lit (.bool false)], args := [d1, d2, d3] }
  | _ => none }
def ChunkLimitsWrongFalsely : Prop := chunkLimitsRow.holds Try.pinned (OpenSpec.ofChange chunkLimitsWrong)

/-- 'homesteadlaw11.ChunkLifts': WHATEVER THE INPUT: true; the input reads as it did. -/
def chunkLiftsSpec : ChangeSpec := { name := "chunkLifts", fn := fun _ => fun
  | [d1, d2, d3] => { results := [.lit (.bool true)], args := [d1, d2, d3] }
  | _ => none }
def chunkLiftsRow : OpenClaim := { program := "ytokdgkdpdepaeaa", sum := "c8b14b6f3b7a37e4d143d249b78761bffb627fcd58eb3539a0d82e38de9153ba", func := "homestead/homesteadlaw11.ChunkLifts", spec := "chunkLifts", inPlace := ["slices.overlaps[homestead/api.Box]"], unfollowed := true, recurses := true, apart := false }
def ChunkLiftsSaid : Prop := chunkLiftsRow.holds Try.pinned (OpenSpec.ofChange chunkLiftsSpec)

/-- ITS FALSE NEIGHBOUR: 'it returns false'. Refute it at one input. -/
def chunkLiftsWrong : ChangeSpec := { name := "chunkLifts", fn := fun _ => fun
  | [d1, d2, d3] => { results := [.lit (.bool false)], args := [d1, d2, d3] }
  | _ => none }
def ChunkLiftsWrongFalsely : Prop := chunkLiftsRow.holds Try.pinned (OpenSpec.ofChange chunkLiftsWrong)

/-- 'homesteadlaw11.ChunkBack': WHATEVER THE INPUT: true; the input reads as it did. -/
def chunkBackSpec : ChangeSpec := { name := "chunkBack", fn := fun _ => fun
  | [d1, d2] => { results := [.lit (.bool true)], args := [d1, d2] }
  | _ => none }
def chunkBackRow : OpenClaim := { program := "ytokdgkdpdepaeaa", sum := "c8b14b6f3b7a37e4d143d249b78761bffb627fcd58eb3539a0d82e38de9153ba", func := "homestead/homesteadlaw11.ChunkBack", spec := "chunkBack", inPlace := ["slices.overlaps[homestead/api.Box]"], unfollowed := true, recurses := true, apart := false }
def ChunkBackSaid : Prop := chunkBackRow.holds Try.pinned (OpenSpec.ofChange chunkBackSpec)

/-- ITS FALSE NEIGHBOUR: 'it returns false'. Refute it at one input. -/
def chunkBackWrong : ChangeSpec := { name := "chunkBack", fn := fun _ => fun
  | [d1, d2] => { results := [.lit (.bool false)], args := [d1, d2] }
  | _ => none }
def ChunkBackWrongFalsely : Prop := chunkBackRow.holds Try.pinned (OpenSpec.ofChange chunkBackWrong)

/- THE SECOND FORM. 'bulk': how many values and letters a reading holds, each counted each time it is reached (what is shared counts as often as it is met; a slice's spare places count too). A statement '..UptoSaid' is the law's where the arguments, and the package variables that the reading takes, are together of bulk at most 1048576: NARROWER than '..Said'. Prove '..Said' where nothing that the law and all that it calls make is longer than what came in: it says more and counts as full. Else prove '..UptoSaid'. A law counts once. -/
mutual
def uptoBulk {H : Type} : DataW H → Nat
  | .lit (.string bytes) => bytes.length + 1
  | .lit _ => 1
  | .nil => 1
  | .ptr d => uptoBulk d + 1
  | .slice elems spare => uptoBulkAll elems + uptoBulkAll spare + 1
  | .agg parts => uptoBulkAll parts + 1
  | .iface _ d => uptoBulk d + 1
  | .map entries => uptoBulkEntries entries + 1
  | .held _ => 1
def uptoBulkAll {H : Type} : List (DataW H) → Nat
  | [] => 0
  | d :: r => uptoBulk d + uptoBulkAll r
def uptoBulkEntries {H : Type} : List (Lit × DataW H) → Nat
  | [] => 0
  | x :: r => uptoBulkEntry x + uptoBulkEntries r
def uptoBulkEntry {H : Type} : Lit × DataW H → Nat
  | (.string bytes, d) => bytes.length + uptoBulk d + 1
  | (_, d) => uptoBulk d + 1
 end
def uptoSmall : (H : Type) → List (DataW H) → Bool := fun _ ds => decide (uptoBulkAll ds ≤ 1048576)
def OpenSpec.upto (s : _root_.Go.ChangeSpec) : _root_.Go.OpenSpec := { _root_.Go.OpenSpec.ofChange s with cond := some uptoSmall }

/-- 'homesteadlaw11.ChunkSets', WHERE WHAT IT READS IS OF BULK AT MOST 1048576: true; the input reads as it did. -/
def chunkSetsUptoRow : OpenClaim := { program := "ytokdgkdpdepaeaa", sum := "c8b14b6f3b7a37e4d143d249b78761bffb627fcd58eb3539a0d82e38de9153ba", func := "homestead/homesteadlaw11.ChunkSets", spec := "chunkSets", inPlace := ["slices.overlaps[homestead/api.Box]"], unfollowed := true, recurses := true, apart := false, narrowed := true }
def ChunkSetsUptoSaid : Prop := chunkSetsUptoRow.holds Try.pinned (OpenSpec.upto chunkSetsSpec)

/-- 'homesteadlaw11.ChunkBoxes', WHERE WHAT IT READS IS OF BULK AT MOST 1048576: true; the input reads as it did. -/
def chunkBoxesUptoRow : OpenClaim := { program := "ytokdgkdpdepaeaa", sum := "c8b14b6f3b7a37e4d143d249b78761bffb627fcd58eb3539a0d82e38de9153ba", func := "homestead/homesteadlaw11.ChunkBoxes", spec := "chunkBoxes", inPlace := ["slices.overlaps[homestead/api.Box]"], unfollowed := true, recurses := true, apart := false, narrowed := true }
def ChunkBoxesUptoSaid : Prop := chunkBoxesUptoRow.holds Try.pinned (OpenSpec.upto chunkBoxesSpec)

/-- 'homesteadlaw11.ChunkLimits', WHERE WHAT IT READS IS OF BULK AT MOST 1048576: true; the input reads as it did. -/
def chunkLimitsUptoRow : OpenClaim := { program := "ytokdgkdpdepaeaa", sum := "c8b14b6f3b7a37e4d143d249b78761bffb627fcd58eb3539a0d82e38de9153ba", func := "homestead/homesteadlaw11.ChunkLimits", spec := "chunkLimits", inPlace := ["slices.overlaps[homestead/api.Box]"], unfollowed := true, recurses := true, apart := false, narrowed := true }
def ChunkLimitsUptoSaid : Prop := chunkLimitsUptoRow.holds Try.pinned (OpenSpec.upto chunkLimitsSpec)

/-- 'homesteadlaw11.ChunkLifts', WHERE WHAT IT READS IS OF BULK AT MOST 1048576: true; the input reads as it did. -/
def chunkLiftsUptoRow : OpenClaim := { program := "ytokdgkdpdepaeaa", sum := "c8b14b6f3b7a37e4d143d249b78761bffb627fcd58eb3539a0d82e38de9153ba", func := "homestead/homesteadlaw11.ChunkLifts", spec := "chunkLifts", inPlace := ["slices.overlaps[homestead/api.Box]"], unfollowed := true, recurses := true, apart := false, narrowed := true }
def ChunkLiftsUptoSaid : Prop := chunkLiftsUptoRow.holds Try.pinned (OpenSpec.upto chunkLiftsSpec)

/-- 'homesteadlaw11.ChunkBack', WHERE WHAT IT READS IS OF BULK AT MOST 1048576: true; the input reads as it did. -/
def chunkBackUptoRow : OpenClaim := { program := "ytokdgkdpdepaeaa", sum := "c8b14b6f3b7a37e4d143d249b78761bffb627fcd58eb3539a0d82e38de9153ba", func := "homestead/homesteadlaw11.ChunkBack", spec := "chunkBack", inPlace := ["slices.overlaps[homestead/api.Box]"], unfollowed := true, recurses := true, apart := false, narrowed := true }
def ChunkBackUptoSaid : Prop := chunkBackUptoRow.holds Try.pinned (OpenSpec.upto chunkBackSpec)

end Rows
end Go.Proofs.Ytokdgkdpdepaeaa
