/-
  No cell of these rows narrows 'for every input' (looked for: loops, veiled, ifaces, maps, wideKeys, modest, calm, conditions, laid).
  DERIVED. THE GIVEN ROWS OF THIS SEAT. 5 by the template 'for every input the law returns true; each argument reads behind the call as it read before'; 0 by the template 'total and deterministic' (their statements: YtdbnihckckekcaaTotals.lean).
  GIVEN WITH THE SEED: the statements are not yours to turn. If you find one false, say at which input.
  Laid BY PROGRAM, IN A SANDBOX (cutbox-rows.mjs): the forced cells as the released guide's own fill.sh prints them over the translation 12d65866e1e7ca71… (all of the seat's roots in one cut). By AI agents, Wed Nov 11 2026. No macro, syntax, notation, axiom, sorry.
-/
import Derived.Test.YtdbnihckckekcaaChecked
import GoSem.Claim
import GoSem.ClaimJoined
import GoSem.ClaimMapViews
import Derived.JoinedTies
import Derived.KernelRfl
namespace Go.Proofs.Ytdbnihckckekcaa
/- THE CELL 'sum', in the pinned program and in every row, IS THE sha256 OF THE DUMP (.gsa) THAT YtdbnihckckekcaaProg.lean LOADS. Nothing in Lean hashes anything: it is a label: what it is worth is what the hold of that sum in a sandbox is worth. -/
noncomputable def Try.pinned : Pinned := { name := "ytdbnihckckekcaa", sum := "12d65866e1e7ca715354dc31391c2ed0a622374fdef061854caf569cdb6dba97", checked := Try.checked }
namespace Rows
def none {H : Type} : Left H := { results := [], args := [] }

/-- 'homesteadlaw14.TradeTurns': WHATEVER THE INPUT: true; the input reads as it did. -/
def tradeTurnsSpec : ChangeSpec := { name := "tradeTurns", fn := fun _ => fun
  | [d1, d2, d3] => { results := [.lit (.bool true)], args := [d1, d2, d3] }
  | _ => none }
def tradeTurnsRow : OpenClaim := { program := "ytdbnihckckekcaa", sum := "12d65866e1e7ca715354dc31391c2ed0a622374fdef061854caf569cdb6dba97", func := "homestead/homesteadlaw14.TradeTurns", spec := "tradeTurns", inPlace := ["slices.overlaps[homestead/api.Player]"], unfollowed := true, recurses := true, apart := false }
def TradeTurnsSaid : Prop := tradeTurnsRow.holds Try.pinned (OpenSpec.ofChange tradeTurnsSpec)

/-- ITS FALSE NEIGHBOUR: 'it returns false'. Refute it at one input. -/
def tradeTurnsWrong : ChangeSpec := { name := "tradeTurns", fn := fun _ => fun
  | [d1, d2, d3] => { results := [.lit (.bool false)], args := [d1, d2, d3] }
  | _ => none }
def TradeTurnsWrongFalsely : Prop := tradeTurnsRow.holds Try.pinned (OpenSpec.ofChange tradeTurnsWrong)

/-- 'homesteadlaw14.TradeTells': WHATEVER THE INPUT: true; the input reads as it did. -/
def tradeTellsSpec : ChangeSpec := { name := "tradeTells", fn := fun _ => fun
  | [d1, d2, d3] => { results := [.lit (.bool true)], args := [d1, d2, d3] }
  | _ => none }
def tradeTellsRow : OpenClaim := { program := "ytdbnihckckekcaa", sum := "12d65866e1e7ca715354dc31391c2ed0a622374fdef061854caf569cdb6dba97", func := "homestead/homesteadlaw14.TradeTells", spec := "tradeTells", inPlace := ["slices.overlaps[homestead/api.Player]"], unfollowed := true, recurses := true, apart := false }
def TradeTellsSaid : Prop := tradeTellsRow.holds Try.pinned (OpenSpec.ofChange tradeTellsSpec)

/-- ITS FALSE NEIGHBOUR: 'it returns false'. Refute it at one input. -/
def tradeTellsWrong : ChangeSpec := { name := "tradeTells", fn := fun _ => fun
  | [d1, d2, d3] => { results := [.lit (.bool false)], args := [d1, d2, d3] }
  | _ => none }
def TradeTellsWrongFalsely : Prop := tradeTellsRow.holds Try.pinned (OpenSpec.ofChange tradeTellsWrong)

/-- 'homesteadlaw14.TradeKeeps': WHATEVER THE INPUT: true; the input reads as it did. -/
def tradeKeepsSpec : ChangeSpec := { name := "tradeKeeps", fn := fun _ => fun
  | [d1, d2, d3] => { results := [.lit (.bool true)], args := [d1, d2, d3] }
  | _ => none }
def tradeKeepsRow : OpenClaim := { program := "ytdbnihckckekcaa", sum := "12d65866e1e7ca715354dc31391c2ed0a622374fdef061854caf569cdb6dba97", func := "homestead/homesteadlaw14.TradeKeeps", spec := "tradeKeeps", inPlace := ["slices.overlaps[homestead/api.Player]"], unfollowed := true, recurses := true, apart := false }
def TradeKeepsSaid : Prop := tradeKeepsRow.holds Try.pinned (OpenSpec.ofChange tradeKeepsSpec)

/-- ITS FALSE NEIGHBOUR: 'it returns false'. Refute it at one input. -/
def tradeKeepsWrong : ChangeSpec := { name := "tradeKeeps", fn := fun _ => fun
  | [d1, d2, d3] => { results := [.lit (.bool false)], args := [d1, d2, d3] }
  | _ => none }
def TradeKeepsWrongFalsely : Prop := tradeKeepsRow.holds Try.pinned (OpenSpec.ofChange tradeKeepsWrong)

/-- 'homesteadlaw14.TradeCancels': WHATEVER THE INPUT: true; the input reads as it did. -/
def tradeCancelsSpec : ChangeSpec := { name := "tradeCancels", fn := fun _ => fun
  | [d1, d2, d3] => { results := [.lit (.bool true)], args := [d1, d2, d3] }
  | _ => none }
def tradeCancelsRow : OpenClaim := { program := "ytdbnihckckekcaa", sum := "12d65866e1e7ca715354dc31391c2ed0a622374fdef061854caf569cdb6dba97", func := "homestead/homesteadlaw14.TradeCancels", spec := "tradeCancels", inPlace := ["slices.overlaps[homestead/api.Player]"], unfollowed := true, recurses := true, apart := false }
def TradeCancelsSaid : Prop := tradeCancelsRow.holds Try.pinned (OpenSpec.ofChange tradeCancelsSpec)

/-- ITS FALSE NEIGHBOUR: 'it returns false'. Refute it at one input. -/
def tradeCancelsWrong : ChangeSpec := { name := "tradeCancels", fn := fun _ => fun
  | [d1, d2, d3] => { results := [.lit (.bool false)], args := [d1, d2, d3] }
  | _ => none }
def TradeCancelsWrongFalsely : Prop := tradeCancelsRow.holds Try.pinned (OpenSpec.ofChange tradeCancelsWrong)

/-- 'homesteadlaw14.TradeAlone': WHATEVER THE INPUT: true; the input reads as it did. -/
def tradeAloneSpec : ChangeSpec := { name := "tradeAlone", fn := fun _ => fun
  | [d1, d2, d3] => { results := [.lit (.bool true)], args := [d1, d2, d3] }
  | _ => none }
def tradeAloneRow : OpenClaim := { program := "ytdbnihckckekcaa", sum := "12d65866e1e7ca715354dc31391c2ed0a622374fdef061854caf569cdb6dba97", func := "homestead/homesteadlaw14.TradeAlone", spec := "tradeAlone", inPlace := ["slices.overlaps[homestead/api.Player]"], unfollowed := true, recurses := true, apart := false }
def TradeAloneSaid : Prop := tradeAloneRow.holds Try.pinned (OpenSpec.ofChange tradeAloneSpec)

/-- ITS FALSE NEIGHBOUR: 'it returns false'. Refute it at one input. -/
def tradeAloneWrong : ChangeSpec := { name := "tradeAlone", fn := fun _ => fun
  | [d1, d2, d3] => { results := [.lit (.bool false)], args := [d1, d2, d3] }
  | _ => none }
def TradeAloneWrongFalsely : Prop := tradeAloneRow.holds Try.pinned (OpenSpec.ofChange tradeAloneWrong)

/- THE SECOND FORM. 'bulk': how many values and letters a reading holds, each counted each time it is reached (what is shared counts as often as it is met; a slice's spare places count too). A statement '..UptoSaid' is the law's where the arguments, and the package variables that the reading takes, are together of bulk at most 1048576: NARROWER than '..Said'. Prove '..Said' where nothing that the law and all that it calls make is longer than what came in: it says more and counts as full. Else prove '..UptoSaid'. A law counts once. -/
mutual
def uptoBulk {H : Type} : DataW H → Nat
  | .lit (.string bytes) => bytes.length + 1
  | .lit _ => 1
  | .nil => 1
  | .ptr d => uptoBulk d + 1
  | .slice elems spare => uptoBulkAll elems + uptoBulkAll spare + 1
  | .agg parts => uptoBulkAll parts + 1
  | .iface _ d => uptoBulk d + 1
  | .map entries => uptoBulkEntries entries + 1
  | .held _ => 1
def uptoBulkAll {H : Type} : List (DataW H) → Nat
  | [] => 0
  | d :: r => uptoBulk d + uptoBulkAll r
def uptoBulkEntries {H : Type} : List (Lit × DataW H) → Nat
  | [] => 0
  | x :: r => uptoBulkEntry x + uptoBulkEntries r
def uptoBulkEntry {H : Type} : Lit × DataW H → Nat
  | (.string bytes, d) => bytes.length + uptoBulk d + 1
  | (_, d) => uptoBulk d + 1
 end
def uptoSmall : (H : Type) → List (DataW H) → Bool := fun _ ds => decide (uptoBulkAll ds ≤ 1048576)
def OpenSpec.upto (s : _root_.Go.ChangeSpec) : _root_.Go.OpenSpec := { _root_.Go.OpenSpec.ofChange s with cond := some uptoSmall }

/-- 'homesteadlaw14.TradeTurns', WHERE WHAT IT READS IS OF BULK AT MOST 1048576: true; the input reads as it did. -/
def tradeTurnsUptoRow : OpenClaim := { program := "ytdbnihckckekcaa", sum := "12d65866e1e7ca715354dc31391c2ed0a622374fdef061854caf569cdb6dba97", func := "homestead/homesteadlaw14.TradeTurns", spec := "tradeTurns", inPlace := ["slices.overlaps[homestead/api.Player]"], unfollowed := true, recurses := true, apart := false, narrowed := true }
def TradeTurnsUptoSaid : Prop := tradeTurnsUptoRow.holds Try.pinned (OpenSpec.upto tradeTurnsSpec)

/-- 'homesteadlaw14.TradeTells', WHERE WHAT IT READS IS OF BULK AT MOST 1048576: true; the input reads as it did. -/
def tradeTellsUptoRow : OpenClaim := { program := "ytdbnihckckekcaa", sum := "12d65866e1e7ca715354dc31391c2ed0a622374fdef061854caf569cdb6dba97", func := "homestead/homesteadlaw14.TradeTells", spec := "tradeTells", inPlace := ["slices.overlaps[homestead/api.Player]"], unfollowed := true, recurses := true, apart := false, narrowed := true }
def TradeTellsUptoSaid : Prop := tradeTellsUptoRow.holds Try.pinned (OpenSpec.upto tradeTellsSpec)

/-- 'homesteadlaw14.TradeKeeps', WHERE WHAT IT READS IS OF BULK AT MOST 1048576: true; the input reads as it did. -/
def tradeKeepsUptoRow : OpenClaim := { program := "ytdbnihckckekcaa", sum := "12d65866e1e7ca715354dc31391c2ed0a622374fdef061854caf569cdb6dba97", func := "homestead/homesteadlaw14.TradeKeeps", spec := "tradeKeeps", inPlace := ["slices.overlaps[homestead/api.Player]"], unfollowed := true, recurses := true, apart := false, narrowed := true }
def TradeKeepsUptoSaid : Prop := tradeKeepsUptoRow.holds Try.pinned (OpenSpec.upto tradeKeepsSpec)

/-- 'homesteadlaw14.TradeCancels', WHERE WHAT IT READS IS OF BULK AT MOST 1048576: true; the input reads as it did. -/
def tradeCancelsUptoRow : OpenClaim := { program := "ytdbnihckckekcaa", sum := "12d65866e1e7ca715354dc31391c2ed0a622374fdef061854caf569cdb6dba97", func := "homestead/homesteadlaw14.TradeCancels", spec := "tradeCancels", inPlace := ["slices.overlaps[homestead/api.Player]"], unfollowed := true, recurses := true, apart := false, narrowed := true }
def TradeCancelsUptoSaid : Prop := tradeCancelsUptoRow.holds Try.pinned (OpenSpec.upto tradeCancelsSpec)

/-- 'homesteadlaw14.TradeAlone', WHERE WHAT IT READS IS OF BULK AT MOST 1048576: true; the input reads as it did. -/
def tradeAloneUptoRow : OpenClaim := { program := "ytdbnihckckekcaa", sum := "12d65866e1e7ca715354dc31391c2ed0a622374fdef061854caf569cdb6dba97", func := "homestead/homesteadlaw14.TradeAlone", spec := "tradeAlone", inPlace := ["slices.overlaps[homestead/api.Player]"], unfollowed := true, recurses := true, apart := false, narrowed := true }
def TradeAloneUptoSaid : Prop := tradeAloneUptoRow.holds Try.pinned (OpenSpec.upto tradeAloneSpec)

end Rows
end Go.Proofs.Ytdbnihckckekcaa
