/- ledger.Count; homesteadlaw18.LedgerBounds. -/
import Derived.Test.YtecbmeadcdchdaaGreatGg
import Derived.Test.YtecbmeadcdchdaaGreatGc
set_option linter.unusedSimpArgs false
set_option linter.unusedVariables false
set_option maxRecDepth 100000
set_option maxHeartbeats 16000000
namespace Go.Proofs.YtecbmeadcdchdaaGreat
open Go Go.RowKit Eng
def addI (C : List Int) (s : Slot) : List Int:=C.set s.item.toNat (elt .i64 C s.item.toNat + s.n)
def inN (b n : Int) : Prop:=0 ≤ n ∧ n ≤ b
structure CntOk (C : List Int) (b : Int) : Prop where
 len : C.length = 13
 bd : ∀ i,i < 13 → inN b (elt .i64 C i)
def fitS (s : Slot) : Prop:=0 ≤ s.item ∧ s.item ≤ 12 ∧ 0 ≤ s.n ∧ s.n ≤ 16
theorem elt_addI {C : List Int} {s : Slot} (hl : C.length = 13) (hs : fitS s) (i : Nat) : elt .i64 (addI C s) i = if i = s.item.toNat then elt .i64 C i + s.n else elt .i64 C i:=by
 unfold addI
 obtain ⟨h0,h1,_,_⟩:=hs
 by_cases h : i = s.item.toNat
 · rw [if_pos h];subst h
   unfold elt
   rw [List.getElem?_set_self (by omega)];rfl
 · rw [if_neg h]
   unfold elt
   rw [List.getElem?_set_ne (fun e=>h e.symm)]
theorem CntOk.mono {C : List Int} {b c : Int} (h : CntOk C b) (hb : b ≤ c) : CntOk C c:=⟨h.len,fun i hi=>by have:=h.bd i hi;unfold inN at *;omega⟩
theorem CntOk.add {C : List Int} {b : Int} {s : Slot} (h : CntOk C b) (hs : fitS s) : CntOk (addI C s) (b + 16):=by
 refine ⟨by unfold addI;rw [List.length_set];exact h.len,fun i hi=>?_⟩
 rw [elt_addI h.len hs]
 have:=h.bd i hi
 obtain ⟨_,_,h2,h3⟩:=hs
 unfold inN at *
 split<;>omega
theorem CntOk.foldl {l : List Slot} : ∀ {C : List Int} {b : Int},CntOk C b → (∀ s ∈ l,fitS s) → CntOk (l.foldl addI C) (b + 16 * l.length):=by
 induction l with
 | nil=>intro C b h _;simpa using h
 | cons a r ih =>
   intro C b h hs
   have:=ih (h.add (hs a (by simp))) fun s hm=>hs s (List.mem_cons_of_mem _ hm)
   rw [List.foldl_cons]
   refine this.mono ?_
   rw [List.length_cons];omega
open Go Go.RowKit Eng
def slotsP (l : List Player) : List Slot:=l.flatMap fun p=>p.bag ++ p.offer
def slotsC (l : List Chunk) : List Slot:=l.flatMap fun c=>c.heaps.map (·.slot) ++ c.boxes.flatMap (·.bag)
def slotsW (w : Wld) : List Slot:=slotsP w.players ++ slotsC w.chunks
structure FitW (w : Wld) : Prop where
 bag : ∀ p ∈ w.players,∀ s ∈ p.bag,fitS s
 offer : ∀ p ∈ w.players,∀ s ∈ p.offer,fitS s
 heap : ∀ c ∈ w.chunks,∀ h ∈ c.heaps,fitS h.slot
 box : ∀ c ∈ w.chunks,∀ b ∈ c.boxes,∀ s ∈ b.bag,fitS s
theorem mem_slotsP {l : List Player} {s : Slot} (h : s ∈ slotsP l) : ∃ p ∈ l,s ∈ p.bag ∨ s ∈ p.offer:=by
 unfold slotsP at h
 rw [List.mem_flatMap] at h
 obtain ⟨p,hp,hs⟩:=h
 exact ⟨p,hp,List.mem_append.1 hs⟩
theorem mem_slotsC {l : List Chunk} {s : Slot} (h : s ∈ slotsC l) : ∃ c ∈ l,(∃ h ∈ c.heaps,h.slot = s) ∨ ∃ b ∈ c.boxes,s ∈ b.bag:=by
 unfold slotsC at h
 rw [List.mem_flatMap] at h
 obtain ⟨c,hc,hs⟩:=h
 refine ⟨c,hc,(List.mem_append.1 hs).imp ?_ ?_⟩
 · intro h;rw [List.mem_map] at h;exact h
 · intro h;rw [List.mem_flatMap] at h;exact h
theorem FitW.fit {w : Wld} (h : FitW w) : ∀ s ∈ slotsW w,fitS s:=by
 intro s hs
 rcases List.mem_append.1 hs with hs|hs
 · obtain ⟨p,hp,hs⟩:=mem_slotsP hs
   rcases hs with hs|hs
   · exact h.bag p hp s hs
   · exact h.offer p hp s hs
 · obtain ⟨c,hc,hs⟩:=mem_slotsC hs
   rcases hs with ⟨x,hx,rfl⟩|⟨b,hb,hs⟩
   · exact h.heap c hc x hx
   · exact h.box c hc b hb s hs
open Go Go.RowKit Eng
def niceS (s : Slot) : Prop:=0 ≤ s.item ∧ s.item ≤ 12 ∧ 0 ≤ s.n ∧ s.n ≤ stackN s.item
theorem niceS.fit {s : Slot} (h : niceS s) : fitS s:=by have:=stackN_bd s.item;unfold niceS at h;unfold fitS;omega
end Go.Proofs.YtecbmeadcdchdaaGreat
