
/- From how a chunk reads to what its contracts ask. -/
import Derived.Test.YtokdgkdpdepaeaaReads
import Derived.Test.YtokdgkdpdepaeaaChest
set_option linter.unusedSimpArgs false
set_option linter.unusedVariables false
namespace Go.Proofs.Ytokdgkdpdepaeaa
open Go Go.RowKit Eng
theorem FitChunk.okC {c : Chunk} (h : FitChunk c) : OkC c :=
  ⟨h.cells, fun x hx => (h.heaps x hx).2.1, fun b hb => ⟨fun s hs => ((h.boxes b hb).2.1 s hs).1, by have := (h.boxes b hb).2.2; unfold big; omega⟩, by have := h.nc; unfold big; omega, by have := h.nh; unfold big; omega, by have := h.nb; unfold big; omega⟩
theorem FitChunk.fitC {c : Chunk} (h : FitChunk c) : FitC c := ⟨h.nc, h.nh, h.nb, fun b hb => (h.boxes b hb).2.2⟩
end Go.Proofs.Ytokdgkdpdepaeaa
