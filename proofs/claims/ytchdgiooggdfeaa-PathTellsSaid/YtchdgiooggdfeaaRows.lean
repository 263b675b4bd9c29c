/-
  No cell of these rows narrows 'for every input' (looked for: loops, veiled, ifaces, maps, wideKeys, modest, calm, conditions, laid).
  DERIVED. THE GIVEN ROWS OF THIS SEAT. 6 by the template 'for every input the law returns true; each argument reads behind the call as it read before'; 0 by the template 'total and deterministic' (their statements: YtchdgiooggdfeaaTotals.lean).
  GIVEN WITH THE SEED: the statements are not yours to turn. If you find one false, say at which input.
  Laid BY PROGRAM, IN A SANDBOX (cutbox-rows.mjs): the forced cells as the released guide's own fill.sh prints them over the translation 3b3534aca2f58639… (all of the seat's roots in one cut). By AI agents, Wed Nov 11 2026. No macro, syntax, notation, axiom, sorry.
-/
import Derived.Test.YtchdgiooggdfeaaChecked
import GoSem.Claim
import GoSem.ClaimJoined
import GoSem.ClaimMapViews
import Derived.JoinedTies
import Derived.KernelRfl
namespace Go.Proofs.Ytchdgiooggdfeaa
/- THE CELL 'sum', in the pinned program and in every row, IS THE sha256 OF THE DUMP (.gsa) THAT YtchdgiooggdfeaaProg.lean LOADS. Nothing in Lean hashes anything: it is a label: what it is worth is what the hold of that sum in a sandbox is worth. -/
noncomputable def Try.pinned : Pinned := { name := "ytchdgiooggdfeaa", sum := "3b3534aca2f586392ce90644e84b7a67f235e28752c154d4272d5bc1c768c900", checked := Try.checked }
namespace Rows
def none {H : Type} : Left H := { results := [], args := [] }

/-- 'homesteadlaw26.LightTells': WHATEVER THE INPUT: true; the input reads as it did. -/
def lightTellsSpec : ChangeSpec := { name := "lightTells", fn := fun _ => fun
  | [d1, d2, d3] => { results := [.lit (.bool true)], args := [d1, d2, d3] }
  | _ => none }
def lightTellsRow : OpenClaim := { program := "ytchdgiooggdfeaa", sum := "3b3534aca2f586392ce90644e84b7a67f235e28752c154d4272d5bc1c768c900", func := "homestead/homesteadlaw26.LightTells", spec := "lightTells", inPlace := ["slices.overlaps[homestead/api.Chunk]"], unfollowed := true, recurses := true, plainKeys := false, apart := false }
def LightTellsSaid : Prop := lightTellsRow.holds Try.pinned (OpenSpec.ofChange lightTellsSpec)

/-- ITS FALSE NEIGHBOUR: 'it returns false'. Refute it at one input. -/
def lightTellsWrong : ChangeSpec := { name := "lightTells", fn := fun _ => fun
  | [d1, d2, d3] => { results := [.lit (.bool false)], args := [d1, d2, d3] }
  | _ => none }
def LightTellsWrongFalsely : Prop := lightTellsRow.holds Try.pinned (OpenSpec.ofChange lightTellsWrong)

/-- 'homesteadlaw26.LightMaps': WHATEVER THE INPUT: true; the input reads as it did. -/
def lightMapsSpec : ChangeSpec := { name := "lightMaps", fn := fun _ => fun
  | [d1, d2, d3] => { results := [.lit (.bool true)], args := [d1, d2, d3] }
  | _ => none }
def lightMapsRow : OpenClaim := { program := "ytchdgiooggdfeaa", sum := "3b3534aca2f586392ce90644e84b7a67f235e28752c154d4272d5bc1c768c900", func := "homestead/homesteadlaw26.LightMaps", spec := "lightMaps", inPlace := ["slices.overlaps[homestead/api.Chunk]"], unfollowed := true, recurses := true, plainKeys := false, apart := false }
def LightMapsSaid : Prop := lightMapsRow.holds Try.pinned (OpenSpec.ofChange lightMapsSpec)

/-- ITS FALSE NEIGHBOUR: 'it returns false'. Refute it at one input. -/
def lightMapsWrong : ChangeSpec := { name := "lightMaps", fn := fun _ => fun
  | [d1, d2, d3] => { results := [.lit (.bool false)], args := [d1, d2, d3] }
  | _ => none }
def LightMapsWrongFalsely : Prop := lightMapsRow.holds Try.pinned (OpenSpec.ofChange lightMapsWrong)

/-- 'homesteadlaw26.LightTorch': WHATEVER THE INPUT: true; the input reads as it did. -/
def lightTorchSpec : ChangeSpec := { name := "lightTorch", fn := fun _ => fun
  | [d1, d2] => { results := [.lit (.bool true)], args := [d1, d2] }
  | _ => none }
def lightTorchRow : OpenClaim := { program := "ytchdgiooggdfeaa", sum := "3b3534aca2f586392ce90644e84b7a67f235e28752c154d4272d5bc1c768c900", func := "homestead/homesteadlaw26.LightTorch", spec := "lightTorch", inPlace := ["slices.overlaps[homestead/api.Chunk]"], unfollowed := true, recurses := true, plainKeys := false, apart := false }
def LightTorchSaid : Prop := lightTorchRow.holds Try.pinned (OpenSpec.ofChange lightTorchSpec)

/-- ITS FALSE NEIGHBOUR: 'it returns false'. Refute it at one input. -/
def lightTorchWrong : ChangeSpec := { name := "lightTorch", fn := fun _ => fun
  | [d1, d2] => { results := [.lit (.bool false)], args := [d1, d2] }
  | _ => none }
def LightTorchWrongFalsely : Prop := lightTorchRow.holds Try.pinned (OpenSpec.ofChange lightTorchWrong)

/-- 'homesteadlaw27.PathTells': WHATEVER THE INPUT: true; the input reads as it did. -/
def pathTellsSpec : ChangeSpec := { name := "pathTells", fn := fun _ => fun
  | [d1, d2, d3] => { results := [.lit (.bool true)], args := [d1, d2, d3] }
  | _ => none }
def pathTellsRow : OpenClaim := { program := "ytchdgiooggdfeaa", sum := "3b3534aca2f586392ce90644e84b7a67f235e28752c154d4272d5bc1c768c900", func := "homestead/homesteadlaw27.PathTells", spec := "pathTells", inPlace := ["slices.overlaps[homestead/api.Chunk]", "slices.overlaps[homestead/api.Player]"], unfollowed := true, recurses := true, plainKeys := false, apart := false }
def PathTellsSaid : Prop := pathTellsRow.holds Try.pinned (OpenSpec.ofChange pathTellsSpec)

/-- ITS FALSE NEIGHBOUR: 'it returns false'. Refute it at one input. -/
def pathTellsWrong : ChangeSpec := { name := "pathTells", fn := fun _ => fun
  | [d1, d2, d3] => { results := [.lit (.bool false)], args := [d1, d2, d3] }
  | _ => none }
def PathTellsWrongFalsely : Prop := pathTellsRow.holds Try.pinned (OpenSpec.ofChange pathTellsWrong)

/-- 'homesteadlaw27.PathWalls': WHATEVER THE INPUT: true; the input reads as it did. -/
def pathWallsSpec : ChangeSpec := { name := "pathWalls", fn := fun _ => fun
  | [d1, d2] => { results := [.lit (.bool true)], args := [d1, d2] }
  | _ => none }
def pathWallsRow : OpenClaim := { program := "ytchdgiooggdfeaa", sum := "3b3534aca2f586392ce90644e84b7a67f235e28752c154d4272d5bc1c768c900", func := "homestead/homesteadlaw27.PathWalls", spec := "pathWalls", inPlace := ["slices.overlaps[homestead/api.Chunk]", "slices.overlaps[homestead/api.Player]"], unfollowed := true, recurses := true, plainKeys := false, apart := false }
def PathWallsSaid : Prop := pathWallsRow.holds Try.pinned (OpenSpec.ofChange pathWallsSpec)

/-- ITS FALSE NEIGHBOUR: 'it returns false'. Refute it at one input. -/
def pathWallsWrong : ChangeSpec := { name := "pathWalls", fn := fun _ => fun
  | [d1, d2] => { results := [.lit (.bool false)], args := [d1, d2] }
  | _ => none }
def PathWallsWrongFalsely : Prop := pathWallsRow.holds Try.pinned (OpenSpec.ofChange pathWallsWrong)

/-- 'homesteadlaw26.LightNear': WHATEVER THE INPUT: true; the input reads as it did. -/
def lightNearSpec : ChangeSpec := { name := "lightNear", fn := fun _ => fun
  | [d] => { results := [.lit (.bool true)], args := [d] }
  | _ => none }
def lightNearRow : OpenClaim := { program := "ytchdgiooggdfeaa", sum := "3b3534aca2f586392ce90644e84b7a67f235e28752c154d4272d5bc1c768c900", func := "homestead/homesteadlaw26.LightNear", spec := "lightNear", inPlace := ["slices.overlaps[homestead/api.Chunk]"], unfollowed := true, recurses := true, plainKeys := false, apart := false }
def LightNearSaid : Prop := lightNearRow.holds Try.pinned (OpenSpec.ofChange lightNearSpec)

/-- ITS FALSE NEIGHBOUR: 'it returns false'. Refute it at one input. -/
def lightNearWrong : ChangeSpec := { name := "lightNear", fn := fun _ => fun
  | [d] => { results := [.lit (.bool false)], args := [d] }
  | _ => none }
def LightNearWrongFalsely : Prop := lightNearRow.holds Try.pinned (OpenSpec.ofChange lightNearWrong)

/- THE SECOND FORM. 'bulk': how many values and letters a reading holds, each counted each time it is reached (what is shared counts as often as it is met; a slice's spare places count too). A statement '..UptoSaid' is the law's where the arguments, and the package variables that the reading takes, are together of bulk at most 1048576: NARROWER than '..Said'. Prove '..Said' where nothing that the law and all that it calls make is longer than what came in: it says more and counts as full. Else prove '..UptoSaid'. A law counts once. -/
mutual
def uptoBulk {H : Type} : DataW H → Nat
  | .lit (.string bytes) => bytes.length + 1
  | .lit _ => 1
  | .nil => 1
  | .ptr d => uptoBulk d + 1
  | .slice elems spare => uptoBulkAll elems + uptoBulkAll spare + 1
  | .agg parts => uptoBulkAll parts + 1
  | .iface _ d => uptoBulk d + 1
  | .map entries => uptoBulkEntries entries + 1
  | .held _ => 1
def uptoBulkAll {H : Type} : List (DataW H) → Nat
  | [] => 0
  | d :: r => uptoBulk d + uptoBulkAll r
def uptoBulkEntries {H : Type} : List (Lit × DataW H) → Nat
  | [] => 0
  | x :: r => uptoBulkEntry x + uptoBulkEntries r
def uptoBulkEntry {H : Type} : Lit × DataW H → Nat
  | (.string bytes, d) => bytes.length + uptoBulk d + 1
  | (_, d) => uptoBulk d + 1
 end
def uptoSmall : (H : Type) → List (DataW H) → Bool := fun _ ds => decide (uptoBulkAll ds ≤ 1048576)
def OpenSpec.upto (s : _root_.Go.ChangeSpec) : _root_.Go.OpenSpec := { _root_.Go.OpenSpec.ofChange s with cond := some uptoSmall }

/-- 'homesteadlaw26.LightTells', WHERE WHAT IT READS IS OF BULK AT MOST 1048576: true; the input reads as it did. -/
def lightTellsUptoRow : OpenClaim := { program := "ytchdgiooggdfeaa", sum := "3b3534aca2f586392ce90644e84b7a67f235e28752c154d4272d5bc1c768c900", func := "homestead/homesteadlaw26.LightTells", spec := "lightTells", inPlace := ["slices.overlaps[homestead/api.Chunk]"], unfollowed := true, recurses := true, plainKeys := false, apart := false, narrowed := true }
def LightTellsUptoSaid : Prop := lightTellsUptoRow.holds Try.pinned (OpenSpec.upto lightTellsSpec)

/-- 'homesteadlaw26.LightMaps', WHERE WHAT IT READS IS OF BULK AT MOST 1048576: true; the input reads as it did. -/
def lightMapsUptoRow : OpenClaim := { program := "ytchdgiooggdfeaa", sum := "3b3534aca2f586392ce90644e84b7a67f235e28752c154d4272d5bc1c768c900", func := "homestead/homesteadlaw26.LightMaps", spec := "lightMaps", inPlace := ["slices.overlaps[homestead/api.Chunk]"], unfollowed := true, recurses := true, plainKeys := false, apart := false, narrowed := true }
def LightMapsUptoSaid : Prop := lightMapsUptoRow.holds Try.pinned (OpenSpec.upto lightMapsSpec)

/-- 'homesteadlaw26.LightTorch', WHERE WHAT IT READS IS OF BULK AT MOST 1048576: true; the input reads as it did. -/
def lightTorchUptoRow : OpenClaim := { program := "ytchdgiooggdfeaa", sum := "3b3534aca2f586392ce90644e84b7a67f235e28752c154d4272d5bc1c768c900", func := "homestead/homesteadlaw26.LightTorch", spec := "lightTorch", inPlace := ["slices.overlaps[homestead/api.Chunk]"], unfollowed := true, recurses := true, plainKeys := false, apart := false, narrowed := true }
def LightTorchUptoSaid : Prop := lightTorchUptoRow.holds Try.pinned (OpenSpec.upto lightTorchSpec)

/-- 'homesteadlaw27.PathTells', WHERE WHAT IT READS IS OF BULK AT MOST 1048576: true; the input reads as it did. -/
def pathTellsUptoRow : OpenClaim := { program := "ytchdgiooggdfeaa", sum := "3b3534aca2f586392ce90644e84b7a67f235e28752c154d4272d5bc1c768c900", func := "homestead/homesteadlaw27.PathTells", spec := "pathTells", inPlace := ["slices.overlaps[homestead/api.Chunk]", "slices.overlaps[homestead/api.Player]"], unfollowed := true, recurses := true, plainKeys := false, apart := false, narrowed := true }
def PathTellsUptoSaid : Prop := pathTellsUptoRow.holds Try.pinned (OpenSpec.upto pathTellsSpec)

/-- 'homesteadlaw27.PathWalls', WHERE WHAT IT READS IS OF BULK AT MOST 1048576: true; the input reads as it did. -/
def pathWallsUptoRow : OpenClaim := { program := "ytchdgiooggdfeaa", sum := "3b3534aca2f586392ce90644e84b7a67f235e28752c154d4272d5bc1c768c900", func := "homestead/homesteadlaw27.PathWalls", spec := "pathWalls", inPlace := ["slices.overlaps[homestead/api.Chunk]", "slices.overlaps[homestead/api.Player]"], unfollowed := true, recurses := true, plainKeys := false, apart := false, narrowed := true }
def PathWallsUptoSaid : Prop := pathWallsUptoRow.holds Try.pinned (OpenSpec.upto pathWallsSpec)

/-- 'homesteadlaw26.LightNear', WHERE WHAT IT READS IS OF BULK AT MOST 1048576: true; the input reads as it did. -/
def lightNearUptoRow : OpenClaim := { program := "ytchdgiooggdfeaa", sum := "3b3534aca2f586392ce90644e84b7a67f235e28752c154d4272d5bc1c768c900", func := "homestead/homesteadlaw26.LightNear", spec := "lightNear", inPlace := ["slices.overlaps[homestead/api.Chunk]"], unfollowed := true, recurses := true, plainKeys := false, apart := false, narrowed := true }
def LightNearUptoSaid : Prop := lightNearUptoRow.holds Try.pinned (OpenSpec.upto lightNearSpec)

end Rows
end Go.Proofs.Ytchdgiooggdfeaa
