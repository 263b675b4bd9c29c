
/- chunk.copied. -/
import Derived.Test.YtdbnihckckekcaaLib2
import Derived.Test.YtdbnihckckekcaaRight
set_option linter.unusedSimpArgs false
set_option linter.unusedVariables false
namespace Go.Proofs.Ytdbnihckckekcaa
open Go Go.RowKit Eng

/-- As great as a chunk may be that is read. -/
structure FitC (c : Chunk) : Prop where
  cells : c.cells.length * 1 ≤ 140737488351232
  heaps : c.heaps.length * 24 ≤ 140737488351232
  boxes : c.boxes.length * 32 ≤ 140737488351232
  bags : ∀ b ∈ c.boxes, b.bag.length * 16 ≤ 140737488351232

theorem set_elt_box (l : List Box) (k : Nat) : l.set k ⟨(elt .box l k).cell, (elt .box l k).bag⟩ = l := by
  by_cases h : k < l.length
  · have := elt_get .box l k h
    apply List.ext_getElem? 
    intro i
    rw [List.getElem?_set]
    by_cases hik : k = i
    · subst hik; rw [if_pos rfl, if_pos h, this]
    · simp [hik]
  · rw [List.set_eq_of_length_le (by omega)]

abbrev chunkO (c : Chunk) (a b d : Nat) : List AV := [i64 c.x, i64 c.y, .own .u8 a 0 c.cells.length none, .own .heap b 0 c.heaps.length none, .own .box d 0 c.boxes.length none]
abbrev chunkR (c : Chunk) (a b d : Nat) : Mem := [(a, .row .u8 c.cells), (b, .row .heap c.heaps), (d, .row .box c.boxes)]

end Go.Proofs.Ytdbnihckckekcaa
