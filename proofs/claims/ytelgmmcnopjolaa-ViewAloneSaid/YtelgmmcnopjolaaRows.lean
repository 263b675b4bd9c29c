/-
  No cell of these rows narrows 'for every input' (looked for: loops, veiled, ifaces, maps, wideKeys, modest, calm, conditions, laid).
  DERIVED. THE GIVEN ROWS OF THIS SEAT. 10 by the template 'for every input the law returns true; each argument reads behind the call as it read before'; 0 by the template 'total and deterministic' (their statements: YtelgmmcnopjolaaTotals.lean).
  GIVEN WITH THE SEED: the statements are not yours to turn. If you find one false, say at which input.
  Laid BY PROGRAM, IN A SANDBOX (cutbox-rows.mjs): the forced cells as the released guide's own fill.sh prints them over the translation 63acfce7afa2cd99… (all of the seat's roots in one cut). By AI agents, Wed Nov 11 2026. No macro, syntax, notation, axiom, sorry.
-/
import Derived.Test.YtelgmmcnopjolaaChecked
import GoSem.Claim
import GoSem.ClaimJoined
import GoSem.ClaimMapViews
import Derived.JoinedTies
import Derived.KernelRfl
namespace Go.Proofs.Ytelgmmcnopjolaa
/- THE CELL 'sum', in the pinned program and in every row, IS THE sha256 OF THE DUMP (.gsa) THAT YtelgmmcnopjolaaProg.lean LOADS. Nothing in Lean hashes anything: it is a label: what it is worth is what the hold of that sum in a sandbox is worth. -/
noncomputable def Try.pinned : Pinned := { name := "ytelgmmcnopjolaa", sum := "63acfce7afa2cd9909fa3f50a2da3d63f51ecc6af1ab3c4df2d3053b658f5d9d", checked := Try.checked }
namespace Rows
def none {H : Type} : Left H := { results := [], args := [] }

/-- 'homesteadlaw18.LedgerBounds': WHATEVER THE INPUT: true; the input reads as it did. -/
def ledgerBoundsSpec : ChangeSpec := { name := "ledgerBounds", fn := fun _ => fun
  | [d] => { results := [.lit (.bool true)], args := [d] }
  | _ => none }
def ledgerBoundsRow : OpenClaim := { program := "ytelgmmcnopjolaa", sum := "63acfce7afa2cd9909fa3f50a2da3d63f51ecc6af1ab3c4df2d3053b658f5d9d", func := "homestead/homesteadlaw18.LedgerBounds", spec := "ledgerBounds", inPlace := ["slices.overlaps[homestead/api.Player]"], unfollowed := true, recurses := true, apart := false }
def LedgerBoundsSaid : Prop := ledgerBoundsRow.holds Try.pinned (OpenSpec.ofChange ledgerBoundsSpec)

/-- ITS FALSE NEIGHBOUR: 'it returns false'. Refute it at one input. -/
def ledgerBoundsWrong : ChangeSpec := { name := "ledgerBounds", fn := fun _ => fun
  | [d] => { results := [.lit (.bool false)], args := [d] }
  | _ => none }
def LedgerBoundsWrongFalsely : Prop := ledgerBoundsRow.holds Try.pinned (OpenSpec.ofChange ledgerBoundsWrong)

/-- 'homesteadlaw13.WorldCells': WHATEVER THE INPUT: true; the input reads as it did. -/
def worldCellsSpec : ChangeSpec := { name := "worldCells", fn := fun _ => fun
  | [d1, d2, d3] => { results := [.lit (.bool true)], args := [d1, d2, d3] }
  | _ => none }
def worldCellsRow : OpenClaim := { program := "ytelgmmcnopjolaa", sum := "63acfce7afa2cd9909fa3f50a2da3d63f51ecc6af1ab3c4df2d3053b658f5d9d", func := "homestead/homesteadlaw13.WorldCells", spec := "worldCells", inPlace := ["slices.overlaps[homestead/api.Chunk]"], unfollowed := true, recurses := true, apart := false }
def WorldCellsSaid : Prop := worldCellsRow.holds Try.pinned (OpenSpec.ofChange worldCellsSpec)

/-- ITS FALSE NEIGHBOUR: 'it returns false'. Refute it at one input. -/
def worldCellsWrong : ChangeSpec := { name := "worldCells", fn := fun _ => fun
  | [d1, d2, d3] => { results := [.lit (.bool false)], args := [d1, d2, d3] }
  | _ => none }
def WorldCellsWrongFalsely : Prop := worldCellsRow.holds Try.pinned (OpenSpec.ofChange worldCellsWrong)

/-- 'homesteadlaw19.ViewMore': WHATEVER THE INPUT: true; the input reads as it did. -/
def viewMoreSpec : ChangeSpec := { name := "viewMore", fn := fun _ => fun
  | [d1, d2, d3] => { results := [.lit (.bool true)], args := [d1, d2, d3] }
  | _ => none }
def viewMoreRow : OpenClaim := { program := "ytelgmmcnopjolaa", sum := "63acfce7afa2cd9909fa3f50a2da3d63f51ecc6af1ab3c4df2d3053b658f5d9d", func := "homestead/homesteadlaw19.ViewMore", spec := "viewMore", inPlace := ["slices.overlaps[homestead/api.Player]"], unfollowed := true, recurses := true, apart := false }
def ViewMoreSaid : Prop := viewMoreRow.holds Try.pinned (OpenSpec.ofChange viewMoreSpec)

/-- ITS FALSE NEIGHBOUR: 'it returns false'. Refute it at one input. -/
def viewMoreWrong : ChangeSpec := { name := "viewMore", fn := fun _ => fun
  | [d1, d2, d3] => { results := [.lit (.bool false)], args := [d1, d2, d3] }
  | _ => none }
def ViewMoreWrongFalsely : Prop := viewMoreRow.holds Try.pinned (OpenSpec.ofChange viewMoreWrong)

/-- 'homesteadlaw19.ViewCopies': WHATEVER THE INPUT: true; the input reads as it did. -/
def viewCopiesSpec : ChangeSpec := { name := "viewCopies", fn := fun _ => fun
  | [d1, d2, d3] => { results := [.lit (.bool true)], args := [d1, d2, d3] }
  | _ => none }
def viewCopiesRow : OpenClaim := { program := "ytelgmmcnopjolaa", sum := "63acfce7afa2cd9909fa3f50a2da3d63f51ecc6af1ab3c4df2d3053b658f5d9d", func := "homestead/homesteadlaw19.ViewCopies", spec := "viewCopies", inPlace := ["slices.overlaps[homestead/api.Player]"], unfollowed := true, recurses := true, apart := false }
def ViewCopiesSaid : Prop := viewCopiesRow.holds Try.pinned (OpenSpec.ofChange viewCopiesSpec)

/-- ITS FALSE NEIGHBOUR: 'it returns false'. Refute it at one input. -/
def viewCopiesWrong : ChangeSpec := { name := "viewCopies", fn := fun _ => fun
  | [d1, d2, d3] => { results := [.lit (.bool false)], args := [d1, d2, d3] }
  | _ => none }
def ViewCopiesWrongFalsely : Prop := viewCopiesRow.holds Try.pinned (OpenSpec.ofChange viewCopiesWrong)

/-- 'homesteadlaw19.ViewBoth': WHATEVER THE INPUT: true; the input reads as it did. -/
def viewBothSpec : ChangeSpec := { name := "viewBoth", fn := fun _ => fun
  | [d1, d2, d3] => { results := [.lit (.bool true)], args := [d1, d2, d3] }
  | _ => none }
def viewBothRow : OpenClaim := { program := "ytelgmmcnopjolaa", sum := "63acfce7afa2cd9909fa3f50a2da3d63f51ecc6af1ab3c4df2d3053b658f5d9d", func := "homestead/homesteadlaw19.ViewBoth", spec := "viewBoth", inPlace := ["slices.overlaps[homestead/api.Player]"], unfollowed := true, recurses := true, apart := false }
def ViewBothSaid : Prop := viewBothRow.holds Try.pinned (OpenSpec.ofChange viewBothSpec)

/-- ITS FALSE NEIGHBOUR: 'it returns false'. Refute it at one input. -/
def viewBothWrong : ChangeSpec := { name := "viewBoth", fn := fun _ => fun
  | [d1, d2, d3] => { results := [.lit (.bool false)], args := [d1, d2, d3] }
  | _ => none }
def ViewBothWrongFalsely : Prop := viewBothRow.holds Try.pinned (OpenSpec.ofChange viewBothWrong)

/-- 'homesteadlaw19.ViewCounts': WHATEVER THE INPUT: true; the input reads as it did. -/
def viewCountsSpec : ChangeSpec := { name := "viewCounts", fn := fun _ => fun
  | [d1, d2, d3] => { results := [.lit (.bool true)], args := [d1, d2, d3] }
  | _ => none }
def viewCountsRow : OpenClaim := { program := "ytelgmmcnopjolaa", sum := "63acfce7afa2cd9909fa3f50a2da3d63f51ecc6af1ab3c4df2d3053b658f5d9d", func := "homestead/homesteadlaw19.ViewCounts", spec := "viewCounts", inPlace := ["slices.overlaps[homestead/api.Player]"], unfollowed := true, recurses := true, apart := false }
def ViewCountsSaid : Prop := viewCountsRow.holds Try.pinned (OpenSpec.ofChange viewCountsSpec)

/-- ITS FALSE NEIGHBOUR: 'it returns false'. Refute it at one input. -/
def viewCountsWrong : ChangeSpec := { name := "viewCounts", fn := fun _ => fun
  | [d1, d2, d3] => { results := [.lit (.bool false)], args := [d1, d2, d3] }
  | _ => none }
def ViewCountsWrongFalsely : Prop := viewCountsRow.holds Try.pinned (OpenSpec.ofChange viewCountsWrong)

/-- 'homesteadlaw13.WorldPuts': WHATEVER THE INPUT: true; the input reads as it did. -/
def worldPutsSpec : ChangeSpec := { name := "worldPuts", fn := fun _ => fun
  | [d1, d2, d3] => { results := [.lit (.bool true)], args := [d1, d2, d3] }
  | _ => none }
def worldPutsRow : OpenClaim := { program := "ytelgmmcnopjolaa", sum := "63acfce7afa2cd9909fa3f50a2da3d63f51ecc6af1ab3c4df2d3053b658f5d9d", func := "homestead/homesteadlaw13.WorldPuts", spec := "worldPuts", inPlace := ["slices.overlaps[homestead/api.Chunk]", "slices.overlaps[homestead/api.Player]"], unfollowed := true, recurses := true, apart := false }
def WorldPutsSaid : Prop := worldPutsRow.holds Try.pinned (OpenSpec.ofChange worldPutsSpec)

/-- ITS FALSE NEIGHBOUR: 'it returns false'. Refute it at one input. -/
def worldPutsWrong : ChangeSpec := { name := "worldPuts", fn := fun _ => fun
  | [d1, d2, d3] => { results := [.lit (.bool false)], args := [d1, d2, d3] }
  | _ => none }
def WorldPutsWrongFalsely : Prop := worldPutsRow.holds Try.pinned (OpenSpec.ofChange worldPutsWrong)

/-- 'homesteadlaw13.WorldPlayers': WHATEVER THE INPUT: true; the input reads as it did. -/
def worldPlayersSpec : ChangeSpec := { name := "worldPlayers", fn := fun _ => fun
  | [d1, d2] => { results := [.lit (.bool true)], args := [d1, d2] }
  | _ => none }
def worldPlayersRow : OpenClaim := { program := "ytelgmmcnopjolaa", sum := "63acfce7afa2cd9909fa3f50a2da3d63f51ecc6af1ab3c4df2d3053b658f5d9d", func := "homestead/homesteadlaw13.WorldPlayers", spec := "worldPlayers", inPlace := ["slices.overlaps[homestead/api.Player]", "slices.overlaps[homestead/api.Chunk]"], unfollowed := true, recurses := true, apart := false }
def WorldPlayersSaid : Prop := worldPlayersRow.holds Try.pinned (OpenSpec.ofChange worldPlayersSpec)

/-- ITS FALSE NEIGHBOUR: 'it returns false'. Refute it at one input. -/
def worldPlayersWrong : ChangeSpec := { name := "worldPlayers", fn := fun _ => fun
  | [d1, d2] => { results := [.lit (.bool false)], args := [d1, d2] }
  | _ => none }
def WorldPlayersWrongFalsely : Prop := worldPlayersRow.holds Try.pinned (OpenSpec.ofChange worldPlayersWrong)

/-- 'homesteadlaw13.WorldFirst': WHATEVER THE INPUT: true; the input reads as it did. -/
def worldFirstSpec : ChangeSpec := { name := "worldFirst", fn := fun _ => fun
  | [d1, d2, d3] => { results := [.lit (.bool true)], args := [d1, d2, d3] }
  | _ => none }
def worldFirstRow : OpenClaim := { program := "ytelgmmcnopjolaa", sum := "63acfce7afa2cd9909fa3f50a2da3d63f51ecc6af1ab3c4df2d3053b658f5d9d", func := "homestead/homesteadlaw13.WorldFirst", spec := "worldFirst", inPlace := ["slices.overlaps[homestead/api.Chunk]"], unfollowed := true, recurses := true, apart := false }
def WorldFirstSaid : Prop := worldFirstRow.holds Try.pinned (OpenSpec.ofChange worldFirstSpec)

/-- ITS FALSE NEIGHBOUR: 'it returns false'. Refute it at one input. -/
def worldFirstWrong : ChangeSpec := { name := "worldFirst", fn := fun _ => fun
  | [d1, d2, d3] => { results := [.lit (.bool false)], args := [d1, d2, d3] }
  | _ => none }
def WorldFirstWrongFalsely : Prop := worldFirstRow.holds Try.pinned (OpenSpec.ofChange worldFirstWrong)

/-- 'homesteadlaw19.ViewAlone': WHATEVER THE INPUT: true; the input reads as it did. -/
def viewAloneSpec : ChangeSpec := { name := "viewAlone", fn := fun _ => fun
  | [d1, d2, d3] => { results := [.lit (.bool true)], args := [d1, d2, d3] }
  | _ => none }
def viewAloneRow : OpenClaim := { program := "ytelgmmcnopjolaa", sum := "63acfce7afa2cd9909fa3f50a2da3d63f51ecc6af1ab3c4df2d3053b658f5d9d", func := "homestead/homesteadlaw19.ViewAlone", spec := "viewAlone", inPlace := ["slices.overlaps[homestead/api.Player]", "slices.overlaps[homestead/api.Chunk]"], unfollowed := true, recurses := true, apart := false }
def ViewAloneSaid : Prop := viewAloneRow.holds Try.pinned (OpenSpec.ofChange viewAloneSpec)

/-- ITS FALSE NEIGHBOUR: 'it returns false'. Refute it at one input. -/
def viewAloneWrong : ChangeSpec := { name := "viewAlone", fn := fun _ => fun
  | [d1, d2, d3] => { results := [.lit (.bool false)], args := [d1, d2, d3] }
  | _ => none }
def ViewAloneWrongFalsely : Prop := viewAloneRow.holds Try.pinned (OpenSpec.ofChange viewAloneWrong)

/- THE SECOND FORM. 'bulk': how many values and letters a reading holds, each counted each time it is reached (what is shared counts as often as it is met; a slice's spare places count too). A statement '..UptoSaid' is the law's where the arguments, and the package variables that the reading takes, are together of bulk at most 1048576: NARROWER than '..Said'. Prove '..Said' where nothing that the law and all that it calls make is longer than what came in: it says more and counts as full. Else prove '..UptoSaid'. A law counts once. -/
mutual
def uptoBulk {H : Type} : DataW H → Nat
  | .lit (.string bytes) => bytes.length + 1
  | .lit _ => 1
  | .nil => 1
  | .ptr d => uptoBulk d + 1
  | .slice elems spare => uptoBulkAll elems + uptoBulkAll spare + 1
  | .agg parts => uptoBulkAll parts + 1
  | .iface _ d => uptoBulk d + 1
  | .map entries => uptoBulkEntries entries + 1
  | .held _ => 1
def uptoBulkAll {H : Type} : List (DataW H) → Nat
  | [] => 0
  | d :: r => uptoBulk d + uptoBulkAll r
def uptoBulkEntries {H : Type} : List (Lit × DataW H) → Nat
  | [] => 0
  | x :: r => uptoBulkEntry x + uptoBulkEntries r
def uptoBulkEntry {H : Type} : Lit × DataW H → Nat
  | (.string bytes, d) => bytes.length + uptoBulk d + 1
  | (_, d) => uptoBulk d + 1
 end
def uptoSmall : (H : Type) → List (DataW H) → Bool := fun _ ds => decide (uptoBulkAll ds ≤ 1048576)
def OpenSpec.upto (s : _root_.Go.ChangeSpec) : _root_.Go.OpenSpec := { _root_.Go.OpenSpec.ofChange s with cond := some uptoSmall }

/-- 'homesteadlaw18.LedgerBounds', WHERE WHAT IT READS IS OF BULK AT MOST 1048576: true; the input reads as it did. -/
def ledgerBoundsUptoRow : OpenClaim := { program := "ytelgmmcnopjolaa", sum := "63acfce7afa2cd9909fa3f50a2da3d63f51ecc6af1ab3c4df2d3053b658f5d9d", func := "homestead/homesteadlaw18.LedgerBounds", spec := "ledgerBounds", inPlace := ["slices.overlaps[homestead/api.Player]"], unfollowed := true, recurses := true, apart := false, narrowed := true }
def LedgerBoundsUptoSaid : Prop := ledgerBoundsUptoRow.holds Try.pinned (OpenSpec.upto ledgerBoundsSpec)

/-- 'homesteadlaw13.WorldCells', WHERE WHAT IT READS IS OF BULK AT MOST 1048576: true; the input reads as it did. -/
def worldCellsUptoRow : OpenClaim := { program := "ytelgmmcnopjolaa", sum := "63acfce7afa2cd9909fa3f50a2da3d63f51ecc6af1ab3c4df2d3053b658f5d9d", func := "homestead/homesteadlaw13.WorldCells", spec := "worldCells", inPlace := ["slices.overlaps[homestead/api.Chunk]"], unfollowed := true, recurses := true, apart := false, narrowed := true }
def WorldCellsUptoSaid : Prop := worldCellsUptoRow.holds Try.pinned (OpenSpec.upto worldCellsSpec)

/-- 'homesteadlaw19.ViewMore', WHERE WHAT IT READS IS OF BULK AT MOST 1048576: true; the input reads as it did. -/
def viewMoreUptoRow : OpenClaim := { program := "ytelgmmcnopjolaa", sum := "63acfce7afa2cd9909fa3f50a2da3d63f51ecc6af1ab3c4df2d3053b658f5d9d", func := "homestead/homesteadlaw19.ViewMore", spec := "viewMore", inPlace := ["slices.overlaps[homestead/api.Player]"], unfollowed := true, recurses := true, apart := false, narrowed := true }
def ViewMoreUptoSaid : Prop := viewMoreUptoRow.holds Try.pinned (OpenSpec.upto viewMoreSpec)

/-- 'homesteadlaw19.ViewCopies', WHERE WHAT IT READS IS OF BULK AT MOST 1048576: true; the input reads as it did. -/
def viewCopiesUptoRow : OpenClaim := { program := "ytelgmmcnopjolaa", sum := "63acfce7afa2cd9909fa3f50a2da3d63f51ecc6af1ab3c4df2d3053b658f5d9d", func := "homestead/homesteadlaw19.ViewCopies", spec := "viewCopies", inPlace := ["slices.overlaps[homestead/api.Player]"], unfollowed := true, recurses := true, apart := false, narrowed := true }
def ViewCopiesUptoSaid : Prop := viewCopiesUptoRow.holds Try.pinned (OpenSpec.upto viewCopiesSpec)

/-- 'homesteadlaw19.ViewBoth', WHERE WHAT IT READS IS OF BULK AT MOST 1048576: true; the input reads as it did. -/
def viewBothUptoRow : OpenClaim := { program := "ytelgmmcnopjolaa", sum := "63acfce7afa2cd9909fa3f50a2da3d63f51ecc6af1ab3c4df2d3053b658f5d9d", func := "homestead/homesteadlaw19.ViewBoth", spec := "viewBoth", inPlace := ["slices.overlaps[homestead/api.Player]"], unfollowed := true, recurses := true, apart := false, narrowed := true }
def ViewBothUptoSaid : Prop := viewBothUptoRow.holds Try.pinned (OpenSpec.upto viewBothSpec)

/-- 'homesteadlaw19.ViewCounts', WHERE WHAT IT READS IS OF BULK AT MOST 1048576: true; the input reads as it did. -/
def viewCountsUptoRow : OpenClaim := { program := "ytelgmmcnopjolaa", sum := "63acfce7afa2cd9909fa3f50a2da3d63f51ecc6af1ab3c4df2d3053b658f5d9d", func := "homestead/homesteadlaw19.ViewCounts", spec := "viewCounts", inPlace := ["slices.overlaps[homestead/api.Player]"], unfollowed := true, recurses := true, apart := false, narrowed := true }
def ViewCountsUptoSaid : Prop := viewCountsUptoRow.holds Try.pinned (OpenSpec.upto viewCountsSpec)

/-- 'homesteadlaw13.WorldPuts', WHERE WHAT IT READS IS OF BULK AT MOST 1048576: true; the input reads as it did. -/
def worldPutsUptoRow : OpenClaim := { program := "ytelgmmcnopjolaa", sum := "63acfce7afa2cd9909fa3f50a2da3d63f51ecc6af1ab3c4df2d3053b658f5d9d", func := "homestead/homesteadlaw13.WorldPuts", spec := "worldPuts", inPlace := ["slices.overlaps[homestead/api.Chunk]", "slices.overlaps[homestead/api.Player]"], unfollowed := true, recurses := true, apart := false, narrowed := true }
def WorldPutsUptoSaid : Prop := worldPutsUptoRow.holds Try.pinned (OpenSpec.upto worldPutsSpec)

/-- 'homesteadlaw13.WorldPlayers', WHERE WHAT IT READS IS OF BULK AT MOST 1048576: true; the input reads as it did. -/
def worldPlayersUptoRow : OpenClaim := { program := "ytelgmmcnopjolaa", sum := "63acfce7afa2cd9909fa3f50a2da3d63f51ecc6af1ab3c4df2d3053b658f5d9d", func := "homestead/homesteadlaw13.WorldPlayers", spec := "worldPlayers", inPlace := ["slices.overlaps[homestead/api.Player]", "slices.overlaps[homestead/api.Chunk]"], unfollowed := true, recurses := true, apart := false, narrowed := true }
def WorldPlayersUptoSaid : Prop := worldPlayersUptoRow.holds Try.pinned (OpenSpec.upto worldPlayersSpec)

/-- 'homesteadlaw13.WorldFirst', WHERE WHAT IT READS IS OF BULK AT MOST 1048576: true; the input reads as it did. -/
def worldFirstUptoRow : OpenClaim := { program := "ytelgmmcnopjolaa", sum := "63acfce7afa2cd9909fa3f50a2da3d63f51ecc6af1ab3c4df2d3053b658f5d9d", func := "homestead/homesteadlaw13.WorldFirst", spec := "worldFirst", inPlace := ["slices.overlaps[homestead/api.Chunk]"], unfollowed := true, recurses := true, apart := false, narrowed := true }
def WorldFirstUptoSaid : Prop := worldFirstUptoRow.holds Try.pinned (OpenSpec.upto worldFirstSpec)

/-- 'homesteadlaw19.ViewAlone', WHERE WHAT IT READS IS OF BULK AT MOST 1048576: true; the input reads as it did. -/
def viewAloneUptoRow : OpenClaim := { program := "ytelgmmcnopjolaa", sum := "63acfce7afa2cd9909fa3f50a2da3d63f51ecc6af1ab3c4df2d3053b658f5d9d", func := "homestead/homesteadlaw19.ViewAlone", spec := "viewAlone", inPlace := ["slices.overlaps[homestead/api.Player]", "slices.overlaps[homestead/api.Chunk]"], unfollowed := true, recurses := true, apart := false, narrowed := true }
def ViewAloneUptoSaid : Prop := viewAloneUptoRow.holds Try.pinned (OpenSpec.upto viewAloneSpec)

end Rows
end Go.Proofs.Ytelgmmcnopjolaa
