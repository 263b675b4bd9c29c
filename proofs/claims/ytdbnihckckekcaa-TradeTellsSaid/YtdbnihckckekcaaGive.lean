
/- Own rows GIVEN to a function of data: they freeze, and what they hold may be kept. -/
import Derived.Test.YtdbnihckckekcaaFin3
set_option linter.unusedSimpArgs false
set_option linter.unusedVariables false
namespace Eng
open Go Go.RowKit

theorem Api.give {P : Program} {fid : FuncId} {args argsV : List AV} {v : AV} (h : Api P fid argsV v) (ha : pureL argsV = true) (hv : pureV v = true) (base : Nat) {rd : List (Nat × Blk)}
    (hfr : ∀ (m' : Nat → Option Blk) (w : World) (g : G) (lim : Nat), MSim w g lim m' → (∀ p ∈ rd, m' p.1 = some p.2) → ∃ g1, MSim w g1 lim (putsM (nones rd) m') ∧ (∀ base, LeG base g g1) ∧
      (∀ v x, Rep w g lim v x → Rep w g1 lim v x) ∧ ∀ xs : List Value, RepL w g lim args xs.toArray → RepL w g1 lim argsV xs.toArray) : CAct P base fid args ⟨v, rd, nones rd, []⟩ := by
  refine ⟨fun m hrd w g vs hm hr => ?_⟩
  obtain ⟨g1, hm1, hl1, hr1, hr2⟩ := hfr m w g (base + L) hm hrd
  refine ((h.cact ha hv base).go (putsM (nones rd) m) (by simp [vA]) w g1 vs hm1 (by have := hr2 vs.toList (by simpa using hr); simpa using this)).mono fun e w' ⟨x, g', e1, e2, e3, e4, e5, e6⟩ => ?_
  refine ⟨x, g', e1, e2, ?_, ⟨e4.os, e4.tape, e4.output, e4.size, fun b hb => e4.same b ((hl1 base).ro b hb), fun b hb => e4.others b ((hl1 base).no b hb)⟩, (hl1 base).trans e5, fun fr xs hfr => ?_⟩
  · simp only [Act1.me, vA, fgtsM, putsM] at e3 ⊢
    exact e3
  · exact e6 fr xs ⟨hfr.1, fun i c x hc hx => hr1 _ _ (hfr.2 i c x hc hx)⟩

theorem callGive {P : Program} {base : Nat} {fid : FuncId} {args argsV : List AV} {v : AV} (h : Api P fid argsV v) {f : List AV} {m : Mem} {d : Option Nat} {K : List AV → Mem → Prop} {J : Prop}
    (ha : pureL argsV = true) (hv : pureV v = true) (hf : frzK args m fun a rd => a = argsV ∧ applyK ⟨v, rd, nones rd, []⟩ f m d K) : (∃ c : Act1, (∀ p ∈ c.rd, mget m p.1 = some p.2) ∧ CAct P base fid args c ∧ applyK c f m d K) ∨ J := by
  obtain ⟨cs', rd, ⟨rfl, hK⟩, hrd, hfr⟩ := frzK_ok args hf
  exact .inl ⟨_, hrd, h.give ha hv base hfr, hK⟩

end Eng
