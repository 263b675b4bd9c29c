/- ledger.Count; homesteadlaw18.LedgerBounds. -/
import Derived.Test.YtelgmmcnopjolaaGg
import Derived.Test.YtelgmmcnopjolaaGi
import Derived.Test.YtelgmmcnopjolaaGc
import Derived.Test.YtelgmmcnopjolaaGe
/- ledger.each, ledger.Count. -/
set_option linter.unusedSimpArgs false
set_option linter.unusedVariables false
namespace Go.Proofs.Ytelgmmcnopjolaa
open Go Go.RowKit Eng

def addI (C : List Int) (s : Slot) : List Int := C.set s.item.toNat (elt .i64 C s.item.toNat + s.n)
def inN (b n : Int) : Prop := 0 ≤ n ∧ n ≤ b
structure CntOk (C : List Int) (b : Int) : Prop where
  len : C.length = 13
  bd : ∀ i, i < 13 → inN b (elt .i64 C i)
def fitS (s : Slot) : Prop := 0 ≤ s.item ∧ s.item ≤ 12 ∧ 0 ≤ s.n ∧ s.n ≤ 16
theorem elt_addI {C : List Int} {s : Slot} (hl : C.length = 13) (hs : fitS s) (i : Nat) : elt .i64 (addI C s) i = if i = s.item.toNat then elt .i64 C i + s.n else elt .i64 C i := by
  unfold addI
  obtain ⟨h0, h1, _, _⟩ := hs
  by_cases h : i = s.item.toNat
  · rw [if_pos h]; subst h
    unfold elt
    rw [List.getElem?_set_self (by omega)]; rfl
  · rw [if_neg h]
    unfold elt
    rw [List.getElem?_set_ne (fun e => h e.symm)]
theorem CntOk.mono {C : List Int} {b c : Int} (h : CntOk C b) (hb : b ≤ c) : CntOk C c := ⟨h.len, fun i hi => by have := h.bd i hi; unfold inN at *; omega⟩
theorem CntOk.add {C : List Int} {b : Int} {s : Slot} (h : CntOk C b) (hs : fitS s) : CntOk (addI C s) (b + 16) := by
  refine ⟨by unfold addI; rw [List.length_set]; exact h.len, fun i hi => ?_⟩
  rw [elt_addI h.len hs]
  have := h.bd i hi
  obtain ⟨_, _, h2, h3⟩ := hs
  unfold inN at *
  split <;> omega
theorem CntOk.foldl {l : List Slot} : ∀ {C : List Int} {b : Int}, CntOk C b → (∀ s ∈ l, fitS s) → CntOk (l.foldl addI C) (b + 16 * l.length) := by
  induction l with
  | nil => intro C b h _; simpa using h
  | cons a r ih =>
    intro C b h hs
    have := ih (h.add (hs a (by simp))) fun s hm => hs s (List.mem_cons_of_mem _ hm)
    rw [List.foldl_cons]
    refine this.mono ?_
    rw [List.length_cons]; omega

abbrev cntF (a : Nat) : AV := .clo (.func 44) [] [.ptr a 0]
abbrev cntM (a b : Nat) (C : List (El .i64)) : Mem := [(a, .box [.own .i64 b 0 13 none]), (b, .row .i64 C)]
set_option maxRecDepth 100000 in
set_option maxHeartbeats 4000000 in
theorem count1_ev (C : List (El .i64)) (s : Slot) (b : Int) (hC : CntOk C b) (hs : fitS s) (hb : b ≤ 1152921504606846976) : Ev1 Try.prog 44 [.agg [.lit (.int .u8 s.item), .lit (.int .i64 s.n)], .ptr 0 0] (cntM 0 1 C) (.tup []) (cntM 0 1 (addI C s)) := by
  obtain ⟨h0, h1, h2, h3⟩ := hs
  have hl := hC.len
  have hbd := hC.bd s.item.toNat (by omega)
  have hbd2 : inN b (elt .i64 C (s.item.toNat + 0)) := hbd
  have hbd3 : inN b (elt .i64 C (0 + s.item.toNat)) := by rw [Nat.zero_add]; exact hbd
  unfold inN at *
  refine Ev1.of_fin cfg_ok Try.func44 rfl (nt := 10) rfl rfl rfl ?_
  conv => whnf
  repeat' (first
    | exact trivial
    | ((first | refine i64L ?_ | refine u64L ?_ | refine u8L ?_); (conv => whnf))
    | ((refine ⟨fun hb => ?_, fun hb => ?_⟩) <;> (try simp only [nrm] at hb) <;> (first | (exfalso; omega) | contradiction | exact (tfF hb (by assumption)).elim | exact (ftF hb (by assumption)).elim | (conv => whnf)))
    | ((first | refine Draws.of cfg_ok (by kernel_rfl) ?_ | refine ⟨(by kernel_rfl : confB _ _ _ _ _ = true), ?_⟩ | refine bd1 ?_ | refine bd2 ?_ | refine bdR ?_ | refine bdL ?_ | refine ⟨rfl, ?_⟩ | refine ⟨congrArg (Value.int _) (by omega), ?_⟩); (conv => whnf))
    | (refine And.intro ?_ ?_; rotate_left; (conv => whnf); rotate_right))
  all_goals first | rfl | omega | exact List.take_of_length_le (by rw [List.length_set]; omega) | trace_state

set_option maxRecDepth 100000 in
set_option maxHeartbeats 4000000 in
theorem eachAll_ev (l : List (El .slot)) (C : List (El .i64)) (b : Int) (hC : CntOk C b) (hs : ∀ s ∈ l, fitS s) (hb0 : 0 ≤ b) (hb : b + 16 * l.length ≤ 1152921504606846976) : Ev1 Try.prog 84 [.vec .slot l, .ptr 2 0] ((2, .box [cntF 0]) :: cntM 0 1 C) (.tup []) ((2, .box [cntF 0]) :: cntM 0 1 (l.foldl addI C)) := by
  refine Ev1.of_fin cfg_ok Try.func84 rfl (nt := 13) rfl rfl rfl ?_
  conv => whnf
  refine Runs.loopS cfg_ok (σ := Nat) [1, 5, 6, 7] (fun k => [.ptr 2 0, .vec .slot l, i64 l.length, i64 k]) (fun k => (2, .box [cntF 0]) :: cntM 0 1 ((l.take k).foldl addI C)) (fun k => k ≤ l.length) (fun k => l.length - k) 0 (by omega) ?_ ?_
  · have hl := hC.len
    conv => whnf
    repeat' (first
      | exact trivial
      | ((first | refine i64L ?_ | refine u64L ?_ | refine u8L ?_); (conv => whnf))
      | ((refine ⟨fun hb => ?_, fun hb => ?_⟩) <;> (try simp only [nrm] at hb) <;> (first | (exfalso; omega) | contradiction | exact (tfF hb (by assumption)).elim | exact (ftF hb (by assumption)).elim | (conv => whnf)))
      | ((first | refine Draws.of cfg_ok (by kernel_rfl) ?_ | refine ⟨(by kernel_rfl : confB _ _ _ _ _ = true), ?_⟩ | refine bd1 ?_ | refine bd2 ?_ | refine bdR ?_ | refine bdL ?_ | refine ⟨rfl, ?_⟩ | refine ⟨congrArg (Value.int _) (by omega), ?_⟩); (conv => whnf))
      | (refine And.intro ?_ ?_; rotate_left; (conv => whnf); rotate_right))
    all_goals first | rfl | omega | exact List.take_of_length_le (by omega) | trace_state
  · intro k hk
    by_cases hlt : k < l.length
    · have hok : CntOk ((l.take k).foldl addI C) (b + 16 * (l.take k).length) := hC.foldl fun s hm => hs s (List.mem_of_mem_take hm)
      have hlk : (l.take k).length = k := by rw [List.length_take]; omega
      have hn : (l.take (k + 1)).foldl addI C = addI ((l.take k).foldl addI C) (elt .slot l k) := by
        rw [List.take_add_one, elt_get .slot l k hlt, Option.toList_some, List.foldl_append]; rfl
      have hcl := count1_ev ((l.take k).foldl addI C) (elt .slot l k) _ hok (hs _ (elt_mem (t := .slot) hlt)) (by omega)
      have hl := hok.len
      have hl2 := (hok.add (hs _ (elt_mem (t := .slot) hlt))).len
      rw [← hn] at hcl hl2
      generalize (l.take k).foldl addI C = D at *
      generalize hE : (l.take (k + 1)).foldl addI C = E at *
      conv => whnf
      repeat' (first
        | exact trivial
        | ((first | refine i64L ?_ | refine u64L ?_ | refine u8L ?_); (conv => whnf))
        | ((refine ⟨fun hb => ?_, fun hb => ?_⟩) <;> (try simp only [nrm] at hb) <;> (first | (exfalso; omega) | contradiction | exact (tfF hb (by assumption)).elim | exact (ftF hb (by assumption)).elim | (conv => whnf)))
        | ((first | (refine callEv (hcl) [(0, 0), (1, 1)] rfl ?_ ?_ ?_) | (refine callEvD (hcl) [(0, 0), (1, 1)] rfl ?_ ?_ ?_)); rotate_left; rotate_left; (conv => whnf); rotate_left; (repeat' (first | exact trivial | (refine ⟨rfl, ?_⟩))); kernel_rfl)
        | ((first | refine Draws.of cfg_ok (by kernel_rfl) ?_ | refine ⟨(by kernel_rfl : confB _ _ _ _ _ = true), ?_⟩ | refine bd1 ?_ | refine bd2 ?_ | refine bdR ?_ | refine bdL ?_ | refine ⟨rfl, ?_⟩ | refine ⟨congrArg (Value.int _) (by omega), ?_⟩); (conv => whnf))
        | (refine And.intro ?_ ?_; rotate_left; (conv => whnf); rotate_right))
      refine .to (k + 1) (by omega) (by omega) ?_
      conv => whnf
      repeat' (first
        | exact trivial
        | ((first | refine i64L ?_ | refine u64L ?_ | refine u8L ?_); (conv => whnf))
        | ((refine ⟨fun hb => ?_, fun hb => ?_⟩) <;> (try simp only [nrm] at hb) <;> (first | (exfalso; omega) | contradiction | exact (tfF hb (by assumption)).elim | exact (ftF hb (by assumption)).elim | (conv => whnf)))
        | ((first | refine Draws.of cfg_ok (by kernel_rfl) ?_ | refine ⟨(by kernel_rfl : confB _ _ _ _ _ = true), ?_⟩ | refine bd1 ?_ | refine bd2 ?_ | refine bdR ?_ | refine bdL ?_ | refine ⟨rfl, ?_⟩ | refine ⟨congrArg (Value.int _) (by omega), ?_⟩); (conv => whnf))
        | (refine And.intro ?_ ?_; rotate_left; (conv => whnf); rotate_right))
      all_goals first | rfl | omega | exact List.take_of_length_le (by omega) | (rw [hE]; exact List.take_of_length_le (by omega)) | (rw [hE]; omega) | trace_state
    · obtain rfl : k = l.length := by omega
      conv => whnf
      repeat' (first
        | exact trivial
        | ((first | refine i64L ?_ | refine u64L ?_ | refine u8L ?_); (conv => whnf))
        | ((refine ⟨fun hb => ?_, fun hb => ?_⟩) <;> (try simp only [nrm] at hb) <;> (first | (exfalso; omega) | contradiction | exact (tfF hb (by assumption)).elim | exact (ftF hb (by assumption)).elim | (conv => whnf)))
        | ((first | refine Draws.of cfg_ok (by kernel_rfl) ?_ | refine ⟨(by kernel_rfl : confB _ _ _ _ _ = true), ?_⟩ | refine bd1 ?_ | refine bd2 ?_ | refine bdR ?_ | refine bdL ?_ | refine ⟨rfl, ?_⟩ | refine ⟨congrArg (Value.int _) (by omega), ?_⟩); (conv => whnf))
        | (refine And.intro ?_ ?_; rotate_left; (conv => whnf); rotate_right))
      all_goals first | rfl | omega | (rw [List.take_length]; done) | (rw [List.take_length]; exact List.take_of_length_le (by rw [(hC.foldl hs).len]; omega)) | (rw [List.take_length, (hC.foldl hs).len]; omega) | trace_state

end Go.Proofs.Ytelgmmcnopjolaa

/- ledger.each, ledger.Count: the whole world. -/
set_option linter.unusedSimpArgs false
set_option linter.unusedVariables false
namespace Go.Proofs.Ytelgmmcnopjolaa
open Go Go.RowKit Eng

def slotsP (l : List Player) : List Slot := l.flatMap fun p => p.bag ++ p.offer
def slotsC (l : List Chunk) : List Slot := l.flatMap fun c => c.heaps.map (·.slot) ++ c.boxes.flatMap (·.bag)
def slotsW (w : Wld) : List Slot := slotsP w.players ++ slotsC w.chunks
abbrev zeros13 : List Int := List.replicate 13 0
theorem zeros_ok : CntOk zeros13 0 := ⟨by decide, fun i hi => by
  have : elt .i64 zeros13 i = 0 := by
    unfold elt; rw [List.getElem?_replicate]; rw [if_pos hi]; rfl
  rw [this]; exact ⟨Int.le_refl _, Int.le_refl _⟩⟩
def tot (L : List Slot) : List Int := L.foldl addI zeros13
theorem tot_ok {L : List Slot} (h : ∀ s ∈ L, fitS s) : CntOk (tot L) (16 * L.length) := (zeros_ok.foldl h).mono (by omega)
theorem tot_app (A B : List Slot) : tot (A ++ B) = B.foldl addI (tot A) := List.foldl_append
def lgP (w : Wld) (k : Nat) : List Slot := slotsP (w.players.take k)
def lgC (w : Wld) (k : Nat) : List Slot := slotsP w.players ++ slotsC (w.chunks.take k)
def lgH (w : Wld) (k j : Nat) : List Slot := lgC w k ++ ((elt .chunk w.chunks k).heaps.take j).map (·.slot)
def lgB (w : Wld) (k j : Nat) : List Slot := lgH w k (elt .chunk w.chunks k).heaps.length ++ ((elt .chunk w.chunks k).boxes.take j).flatMap (·.bag)
theorem lgP_zero (w : Wld) : lgP w 0 = [] := rfl
theorem lgP_end (w : Wld) : lgP w w.players.length = lgC w 0 := by unfold lgP lgC slotsC; rw [List.take_length]; simp
theorem lgP_succ {w : Wld} {k : Nat} (h : k < w.players.length) : lgP w (k + 1) = lgP w k ++ ((elt .player w.players k).bag ++ (elt .player w.players k).offer) := by
  unfold lgP slotsP
  rw [List.take_add_one, elt_get .player _ _ h, Option.toList_some, List.flatMap_append]; simp
theorem lgH_zero (w : Wld) (k : Nat) : lgH w k 0 = lgC w k := by unfold lgH; simp
theorem lgH_succ {w : Wld} {k j : Nat} (h : j < (elt .chunk w.chunks k).heaps.length) : lgH w k (j + 1) = lgH w k j ++ [(elt .heap (elt .chunk w.chunks k).heaps j).slot] := by
  unfold lgH
  rw [List.take_add_one, elt_get .heap _ _ h, Option.toList_some, List.map_append, ← List.append_assoc]; rfl
theorem lgB_zero (w : Wld) (k : Nat) : lgB w k 0 = lgH w k (elt .chunk w.chunks k).heaps.length := by unfold lgB; simp
theorem lgB_succ {w : Wld} {k j : Nat} (h : j < (elt .chunk w.chunks k).boxes.length) : lgB w k (j + 1) = lgB w k j ++ (elt .box (elt .chunk w.chunks k).boxes j).bag := by
  unfold lgB
  rw [List.take_add_one, elt_get .box _ _ h, Option.toList_some, List.flatMap_append, ← List.append_assoc]; simp
theorem lgB_end {w : Wld} {k : Nat} (h : k < w.chunks.length) : lgB w k (elt .chunk w.chunks k).boxes.length = lgC w (k + 1) := by
  unfold lgB lgH lgC slotsC
  rw [List.take_length, List.take_length, List.take_add_one, elt_get .chunk _ _ h, Option.toList_some, List.flatMap_append]; simp
theorem lgC_end (w : Wld) : lgC w w.chunks.length = slotsW w := by unfold lgC slotsW; rw [List.take_length]
theorem fitM {α : Type} {l : List α} {k : Nat} {a : α} (h : a ∈ l.take k) : a ∈ l := List.mem_of_mem_take h

structure FitW (w : Wld) : Prop where
  bag : ∀ p ∈ w.players, ∀ s ∈ p.bag, fitS s
  offer : ∀ p ∈ w.players, ∀ s ∈ p.offer, fitS s
  heap : ∀ c ∈ w.chunks, ∀ h ∈ c.heaps, fitS h.slot
  box : ∀ c ∈ w.chunks, ∀ b ∈ c.boxes, ∀ s ∈ b.bag, fitS s
theorem mem_slotsP {l : List Player} {s : Slot} (h : s ∈ slotsP l) : ∃ p ∈ l, s ∈ p.bag ∨ s ∈ p.offer := by
  unfold slotsP at h
  rw [List.mem_flatMap] at h
  obtain ⟨p, hp, hs⟩ := h
  exact ⟨p, hp, List.mem_append.1 hs⟩
theorem mem_slotsC {l : List Chunk} {s : Slot} (h : s ∈ slotsC l) : ∃ c ∈ l, (∃ h ∈ c.heaps, h.slot = s) ∨ ∃ b ∈ c.boxes, s ∈ b.bag := by
  unfold slotsC at h
  rw [List.mem_flatMap] at h
  obtain ⟨c, hc, hs⟩ := h
  refine ⟨c, hc, (List.mem_append.1 hs).imp ?_ ?_⟩
  · intro h; rw [List.mem_map] at h; exact h
  · intro h; rw [List.mem_flatMap] at h; exact h
theorem FitW.fit {w : Wld} (h : FitW w) : ∀ s ∈ slotsW w, fitS s := by
  intro s hs
  rcases List.mem_append.1 hs with hs | hs
  · obtain ⟨p, hp, hs⟩ := mem_slotsP hs
    rcases hs with hs | hs
    · exact h.bag p hp s hs
    · exact h.offer p hp s hs
  · obtain ⟨c, hc, hs⟩ := mem_slotsC hs
    rcases hs with ⟨x, hx, rfl⟩ | ⟨b, hb, hs⟩
    · exact h.heap c hc x hx
    · exact h.box c hc b hb s hs
theorem pre_lgC (w : Wld) (k : Nat) : lgC w k <+: slotsW w := by
  unfold lgC slotsW
  rw [List.prefix_append_right_inj]
  unfold slotsC
  conv => rhs; rw [← List.take_append_drop k w.chunks, List.flatMap_append]
  exact List.prefix_append _ _
theorem pre_lgP (w : Wld) (k : Nat) : lgP w k <+: slotsW w := by
  refine List.IsPrefix.trans ?_ (pre_lgC w 0)
  unfold lgP lgC slotsC
  simp only [List.take_zero, List.flatMap_nil, List.append_nil]
  unfold slotsP
  conv => rhs; rw [← List.take_append_drop k w.players, List.flatMap_append]
  exact List.prefix_append _ _
theorem pre_lgB {w : Wld} {k : Nat} (h : k < w.chunks.length) (j : Nat) : lgB w k j <+: slotsW w := by
  refine List.IsPrefix.trans ?_ (pre_lgC w (k + 1))
  rw [← lgB_end h]
  unfold lgB
  rw [List.prefix_append_right_inj]
  conv => rhs; rw [List.take_length, ← List.take_append_drop j (elt .chunk w.chunks k).boxes, List.flatMap_append]
  exact List.prefix_append _ _
theorem pre_lgH {w : Wld} {k : Nat} (h : k < w.chunks.length) (j : Nat) : lgH w k j <+: slotsW w := by
  refine List.IsPrefix.trans ?_ (pre_lgB h 0)
  rw [lgB_zero]
  unfold lgH
  rw [List.prefix_append_right_inj]
  conv => rhs; rw [List.take_length, ← List.take_append_drop j (elt .chunk w.chunks k).heaps, List.map_append]
  exact List.prefix_append _ _
theorem tot_pre {w : Wld} (h : FitW w) (hl : (slotsW w).length ≤ 18014398509481984) {L : List Slot} (hp : L <+: slotsW w) : CntOk (tot L) 288230376151711744 :=
  (tot_ok fun s hs => h.fit s (hp.subset hs)).mono (by have := hp.length_le; omega)
theorem bag_le {w : Wld} {p : Player} (h : p ∈ w.players) : p.bag.length + p.offer.length ≤ (slotsW w).length := by
  obtain ⟨a, b, e⟩ := List.append_of_mem h
  unfold slotsW slotsP
  rw [e, List.flatMap_append, List.flatMap_cons]
  simp only [List.length_append]
  omega
theorem box_le {w : Wld} {c : Chunk} {b : Box} (h : c ∈ w.chunks) (hb : b ∈ c.boxes) : b.bag.length ≤ (slotsW w).length := by
  obtain ⟨x, y, e⟩ := List.append_of_mem h
  obtain ⟨x2, y2, e2⟩ := List.append_of_mem hb
  unfold slotsW slotsC
  rw [e, List.flatMap_append, List.flatMap_cons, e2, List.flatMap_append, List.flatMap_cons]
  simp only [List.length_append]
  omega

set_option maxRecDepth 100000 in
set_option maxHeartbeats 4000000 in
theorem leach_ev (w : Wld) (hF : FitW w) (hl : (slotsW w).length ≤ 18014398509481984) (hw : OkW w) : Ev1 Try.prog 43 [wldV w, cntF 0] [(0, .box [.own .i64 1 0 13 (some 13)]), (1, .row .i64 zeros13)] (.tup []) (cntM 0 1 (tot (slotsW w))) := by
  have hnp := hw.np
  have hnc := hw.nc
  have hP : ∃ P : Nat → List (El .i64), P 0 = zeros13 ∧ P w.players.length = tot (lgC w 0) ∧ (∀ k, CntOk (P k) 288230376151711744) ∧ (∀ k, k < w.players.length → P (k + 1) = (elt .player w.players k).offer.foldl addI ((elt .player w.players k).bag.foldl addI (P k))) :=
    ⟨fun k => tot (lgP w k), rfl, by dsimp only; rw [lgP_end], fun k => tot_pre hF hl (pre_lgP w k), fun k hk => by dsimp only; rw [lgP_succ hk, tot_app, List.foldl_append]⟩
  have hQ : ∃ Q : Nat → List (El .i64), Q 0 = tot (lgC w 0) ∧ Q w.chunks.length = tot (slotsW w) ∧ (∀ k, CntOk (Q k) 288230376151711744) ∧
      (∀ k, k < w.chunks.length → ∃ H B : Nat → List (El .i64), H 0 = Q k ∧ H (elt .chunk w.chunks k).heaps.length = B 0 ∧ B (elt .chunk w.chunks k).boxes.length = Q (k + 1) ∧ (∀ j, CntOk (H j) 288230376151711744) ∧ (∀ j, CntOk (B j) 288230376151711744) ∧
        (∀ j, j < (elt .chunk w.chunks k).heaps.length → H (j + 1) = addI (H j) (elt .heap (elt .chunk w.chunks k).heaps j).slot) ∧
        (∀ j, j < (elt .chunk w.chunks k).boxes.length → B (j + 1) = (elt .box (elt .chunk w.chunks k).boxes j).bag.foldl addI (B j))) :=
    ⟨fun k => tot (lgC w k), rfl, by dsimp only; rw [lgC_end], fun k => tot_pre hF hl (pre_lgC w k), fun k hk =>
      ⟨fun j => tot (lgH w k j), fun j => tot (lgB w k j), by dsimp only; rw [lgH_zero], by dsimp only; rw [lgB_zero], by dsimp only; rw [lgB_end hk], fun j => tot_pre hF hl (pre_lgH hk j), fun j => tot_pre hF hl (pre_lgB hk j),
        fun j hj => by dsimp only; rw [lgH_succ hj, tot_app]; rfl, fun j hj => by dsimp only; rw [lgB_succ hj, tot_app]⟩⟩
  obtain ⟨P, p0, p1, p2, p3⟩ := hP
  obtain ⟨Q, q0, q1, q2, q3⟩ := hQ
  rw [← q1]
  rw [← q0] at p1
  have hz := zeros_ok.len
  rw [← p0] at hz ⊢
  refine Ev1.of_fin cfg_ok Try.func43 rfl (nt := 60) rfl rfl rfl ?_
  conv => whnf
  repeat' (first
    | exact trivial
    | ((first | refine i64L ?_ | refine u64L ?_ | refine u8L ?_); (conv => whnf))
    | ((refine ⟨fun hb => ?_, fun hb => ?_⟩) <;> (try simp only [nrm] at hb) <;> (first | (exfalso; omega) | contradiction | exact (tfF hb (by assumption)).elim | exact (ftF hb (by assumption)).elim | (conv => whnf)))
    | ((first | refine Draws.of cfg_ok (by kernel_rfl) ?_ | refine ⟨(by kernel_rfl : confB _ _ _ _ _ = true), ?_⟩ | refine bd1 ?_ | refine bd2 ?_ | refine bdR ?_ | refine bdL ?_ | refine ⟨rfl, ?_⟩ | refine ⟨congrArg (Value.int _) (by omega), ?_⟩); (conv => whnf))
    | (refine And.intro ?_ ?_; rotate_left; (conv => whnf); rotate_right))
  refine Runs.loopQ cfg_ok (σ := Nat) [2, 3, 4, 15, 16, 17] (fun k => [.ptr 200004 0, .ptr 200006 0, .clo (.func 84) [] [.ptr 200006 0], .vec .player w.players, i64 w.players.length, i64 k])
    (fun k => (200004, .box (wldC w)) :: (200006, .box [cntF 0]) :: cntM 0 1 (P k)) (fun k => k ≤ w.players.length) (fun k => w.players.length - k) 0 (by omega) ?_ ?_
  · conv => whnf
    repeat' (first
      | exact trivial
      | ((first | refine i64L ?_ | refine u64L ?_ | refine u8L ?_); (conv => whnf))
      | ((refine ⟨fun hb => ?_, fun hb => ?_⟩) <;> (try simp only [nrm] at hb) <;> (first | (exfalso; omega) | contradiction | exact (tfF hb (by assumption)).elim | exact (ftF hb (by assumption)).elim | (conv => whnf)))
      | ((first | refine Draws.of cfg_ok (by kernel_rfl) ?_ | refine ⟨(by kernel_rfl : confB _ _ _ _ _ = true), ?_⟩ | refine bd1 ?_ | refine bd2 ?_ | refine bdR ?_ | refine bdL ?_ | refine ⟨rfl, ?_⟩ | refine ⟨congrArg (Value.int _) (by omega), ?_⟩); (conv => whnf))
      | (refine And.intro ?_ ?_; rotate_left; (conv => whnf); rotate_right))
    all_goals first | rfl | omega | exact List.take_of_length_le (by omega) | trace_state
  · intro k hk N hN hE hT
    have hz2 := (p2 k).len
    by_cases hlt : k < w.players.length
    · have hm := elt_mem (t := .player) hlt
      have hbl := bag_le hm
      have c1 := eachAll_ev (elt .player w.players k).bag (P k) _ (p2 k) (hF.bag _ hm) (by omega) (by omega)
      have o1 := (p2 k).foldl (hF.bag _ hm)
      have c2 := eachAll_ev (elt .player w.players k).offer _ _ o1 (hF.offer _ hm) (by omega) (by omega)
      rw [← p3 k hlt] at c2
      have hz3 := o1.len
      have hz4 := (p2 (k + 1)).len
      generalize (elt .player w.players k).bag.foldl addI (P k) = D at *
      conv => whnf
      repeat' (first
        | exact trivial
        | ((first | refine i64L ?_ | refine u64L ?_ | refine u8L ?_); (conv => whnf))
        | ((refine ⟨fun hb => ?_, fun hb => ?_⟩) <;> (try simp only [nrm] at hb) <;> (first | (exfalso; omega) | contradiction | exact (tfF hb (by assumption)).elim | exact (ftF hb (by assumption)).elim | (conv => whnf)))
        | ((first | (refine callEv (c1) [(0, 0), (1, 1), (2, 200006)] rfl ?_ ?_ ?_) | (refine callEvD (c1) [(0, 0), (1, 1), (2, 200006)] rfl ?_ ?_ ?_)); rotate_left; rotate_left; (conv => whnf); rotate_left; (repeat' (first | exact trivial | (refine ⟨rfl, ?_⟩))); kernel_rfl)
        | ((first | (refine callEv (c2) [(0, 0), (1, 1), (2, 200006)] rfl ?_ ?_ ?_) | (refine callEvD (c2) [(0, 0), (1, 1), (2, 200006)] rfl ?_ ?_ ?_)); rotate_left; rotate_left; (conv => whnf); rotate_left; (repeat' (first | exact trivial | (refine ⟨rfl, ?_⟩))); kernel_rfl)
        | ((first | refine Draws.of cfg_ok (by kernel_rfl) ?_ | refine ⟨(by kernel_rfl : confB _ _ _ _ _ = true), ?_⟩ | refine bd1 ?_ | refine bd2 ?_ | refine bdR ?_ | refine bdL ?_ | refine ⟨rfl, ?_⟩ | refine ⟨congrArg (Value.int _) (by omega), ?_⟩); (conv => whnf))
        | (refine And.intro ?_ ?_; rotate_left; (conv => whnf); rotate_right))
      refine hN _ _ ?_
      conv => whnf
      refine .to (k + 1) (by omega) (by omega) ?_
      conv => whnf
      repeat' (first
        | exact trivial
        | ((first | refine i64L ?_ | refine u64L ?_ | refine u8L ?_); (conv => whnf))
        | ((refine ⟨fun hb => ?_, fun hb => ?_⟩) <;> (try simp only [nrm] at hb) <;> (first | (exfalso; omega) | contradiction | exact (tfF hb (by assumption)).elim | exact (ftF hb (by assumption)).elim | (conv => whnf)))
        | ((first | refine Draws.of cfg_ok (by kernel_rfl) ?_ | refine ⟨(by kernel_rfl : confB _ _ _ _ _ = true), ?_⟩ | refine bd1 ?_ | refine bd2 ?_ | refine bdR ?_ | refine bdL ?_ | refine ⟨rfl, ?_⟩ | refine ⟨congrArg (Value.int _) (by omega), ?_⟩); (conv => whnf))
        | (refine And.intro ?_ ?_; rotate_left; (conv => whnf); rotate_right))
      all_goals first | rfl | omega | exact List.take_of_length_le (by omega) | trace_state
    · obtain rfl : k = w.players.length := by omega
      have hz5 := (q2 0).len
      conv => whnf
      repeat' (first
        | exact trivial
        | ((first | refine i64L ?_ | refine u64L ?_ | refine u8L ?_); (conv => whnf))
        | ((refine ⟨fun hb => ?_, fun hb => ?_⟩) <;> (try simp only [nrm] at hb) <;> (first | (exfalso; omega) | contradiction | exact (tfF hb (by assumption)).elim | exact (ftF hb (by assumption)).elim | (conv => whnf)))
        | ((first | refine Draws.of cfg_ok (by kernel_rfl) ?_ | refine ⟨(by kernel_rfl : confB _ _ _ _ _ = true), ?_⟩ | refine bd1 ?_ | refine bd2 ?_ | refine bdR ?_ | refine bdL ?_ | refine ⟨rfl, ?_⟩ | refine ⟨congrArg (Value.int _) (by omega), ?_⟩); (conv => whnf))
        | (refine And.intro ?_ ?_; rotate_left; (conv => whnf); rotate_right))
      refine hE _ _ _ ?_
      conv => whnf
      repeat' (first
        | exact trivial
        | ((first | refine i64L ?_ | refine u64L ?_ | refine u8L ?_); (conv => whnf))
        | ((refine ⟨fun hb => ?_, fun hb => ?_⟩) <;> (try simp only [nrm] at hb) <;> (first | (exfalso; omega) | contradiction | exact (tfF hb (by assumption)).elim | exact (ftF hb (by assumption)).elim | (conv => whnf)))
        | ((first | refine Draws.of cfg_ok (by kernel_rfl) ?_ | refine ⟨(by kernel_rfl : confB _ _ _ _ _ = true), ?_⟩ | refine bd1 ?_ | refine bd2 ?_ | refine bdR ?_ | refine bdL ?_ | refine ⟨rfl, ?_⟩ | refine ⟨congrArg (Value.int _) (by omega), ?_⟩); (conv => whnf))
        | (refine And.intro ?_ ?_; rotate_left; (conv => whnf); rotate_right))
      refine Runs.loopQ cfg_ok (σ := Nat) [3, 4, 31, 32, 33] (fun k => [.ptr 200006 0, .clo (.func 84) [] [.ptr 200006 0], .vec .chunk w.chunks, i64 w.chunks.length, i64 k])
        (fun k => (200006, .box [cntF 0]) :: cntM 0 1 (Q k)) (fun k => k ≤ w.chunks.length) (fun k => w.chunks.length - k) 0 (by omega) ?_ ?_
      · conv => whnf
        repeat' (first
          | exact trivial
          | ((first | refine i64L ?_ | refine u64L ?_ | refine u8L ?_); (conv => whnf))
          | ((refine ⟨fun hb => ?_, fun hb => ?_⟩) <;> (try simp only [nrm] at hb) <;> (first | (exfalso; omega) | contradiction | exact (tfF hb (by assumption)).elim | exact (ftF hb (by assumption)).elim | (conv => whnf)))
          | ((first | refine Draws.of cfg_ok (by kernel_rfl) ?_ | refine ⟨(by kernel_rfl : confB _ _ _ _ _ = true), ?_⟩ | refine bd1 ?_ | refine bd2 ?_ | refine bdR ?_ | refine bdL ?_ | refine ⟨rfl, ?_⟩ | refine ⟨congrArg (Value.int _) (by omega), ?_⟩); (conv => whnf))
          | (refine And.intro ?_ ?_; rotate_left; (conv => whnf); rotate_right))
        all_goals first | rfl | omega | (rw [p1]; exact List.take_of_length_le (by omega)) | (rw [p1]; omega) | trace_state
      · intro k hk N2 hN2 hE2 hT2
        have hz6 := (q2 k).len
        by_cases hlt2 : k < w.chunks.length
        · have hm := elt_mem (t := .chunk) hlt2
          obtain ⟨H, B, h0, h1, h2, h3, h4, h5, h6⟩ := q3 k hlt2
          have hok := hw.fit _ hm
          have nh := hok.heaps
          have nb := hok.boxes
          have hbl := fun b (hb : b ∈ (elt .chunk w.chunks k).boxes) => box_le hm hb
          have hhp := hF.heap _ hm
          have hbx := hF.box _ hm
          generalize hc : elt .chunk w.chunks k = c at *
          conv => whnf
          repeat' (first
            | exact trivial
            | ((first | refine i64L ?_ | refine u64L ?_ | refine u8L ?_); (conv => whnf))
            | ((refine ⟨fun hb => ?_, fun hb => ?_⟩) <;> (try simp only [nrm] at hb) <;> (first | (exfalso; omega) | contradiction | exact (tfF hb (by assumption)).elim | exact (ftF hb (by assumption)).elim | (conv => whnf)))
            | ((first | refine Draws.of cfg_ok (by kernel_rfl) ?_ | refine ⟨(by kernel_rfl : confB _ _ _ _ _ = true), ?_⟩ | refine bd1 ?_ | refine bd2 ?_ | refine bdR ?_ | refine bdL ?_ | refine ⟨rfl, ?_⟩ | refine ⟨congrArg (Value.int _) (by omega), ?_⟩); (conv => whnf))
            | (refine And.intro ?_ ?_; rotate_left; (conv => whnf); rotate_right))
          rw [show elt .chunk w.chunks ((k : Nat) : Int).toNat = c from hc]
          have hz7 := (h3 0).len
          refine Runs.loopQ cfg_ok (σ := Nat) [3, 4, 8, 31, 32, 33, 38, 39, 40] (fun j => [.ptr 200006 0, .clo (.func 84) [] [.ptr 200006 0], .ptr 200016 0, .vec .chunk w.chunks, i64 w.chunks.length, i64 k, .vec .heap c.heaps, i64 c.heaps.length, i64 j])
            (fun j => (200006, .box [cntF 0]) :: (200016, .box (chunkC c)) :: cntM 0 1 (H j)) (fun j => j ≤ c.heaps.length) (fun j => c.heaps.length - j) 0 (by omega) ?_ ?_
          · conv => whnf
            repeat' (first
              | exact trivial
              | ((first | refine i64L ?_ | refine u64L ?_ | refine u8L ?_); (conv => whnf))
              | ((refine ⟨fun hb => ?_, fun hb => ?_⟩) <;> (try simp only [nrm] at hb) <;> (first | (exfalso; omega) | contradiction | exact (tfF hb (by assumption)).elim | exact (ftF hb (by assumption)).elim | (conv => whnf)))
              | ((first | refine Draws.of cfg_ok (by kernel_rfl) ?_ | refine ⟨(by kernel_rfl : confB _ _ _ _ _ = true), ?_⟩ | refine bd1 ?_ | refine bd2 ?_ | refine bdR ?_ | refine bdL ?_ | refine ⟨rfl, ?_⟩ | refine ⟨congrArg (Value.int _) (by omega), ?_⟩); (conv => whnf))
              | (refine And.intro ?_ ?_; rotate_left; (conv => whnf); rotate_right))
            all_goals first | rfl | omega | (rw [h0]; exact List.take_of_length_le (by omega)) | (rw [h0]; omega) | trace_state
          · intro j hj N3 hN3 hE3 hT3
            have hz8 := (h3 j).len
            by_cases hlj : j < c.heaps.length
            · have hcl := count1_ev (H j) (elt .heap c.heaps j).slot _ (h3 j) (hhp _ (elt_mem (t := .heap) hlj)) (by omega)
              rw [← h5 j hlj] at hcl
              have hz9 := (h3 (j + 1)).len
              conv => whnf
              repeat' (first
                | exact trivial
                | ((first | refine i64L ?_ | refine u64L ?_ | refine u8L ?_); (conv => whnf))
                | ((refine ⟨fun hb => ?_, fun hb => ?_⟩) <;> (try simp only [nrm] at hb) <;> (first | (exfalso; omega) | contradiction | exact (tfF hb (by assumption)).elim | exact (ftF hb (by assumption)).elim | (conv => whnf)))
                | ((first | (refine callEv (hcl) [(0, 0), (1, 1)] rfl ?_ ?_ ?_) | (refine callEvD (hcl) [(0, 0), (1, 1)] rfl ?_ ?_ ?_)); rotate_left; rotate_left; (conv => whnf); rotate_left; (repeat' (first | exact trivial | (refine ⟨rfl, ?_⟩))); kernel_rfl)
                | ((first | refine Draws.of cfg_ok (by kernel_rfl) ?_ | refine ⟨(by kernel_rfl : confB _ _ _ _ _ = true), ?_⟩ | refine bd1 ?_ | refine bd2 ?_ | refine bdR ?_ | refine bdL ?_ | refine ⟨rfl, ?_⟩ | refine ⟨congrArg (Value.int _) (by omega), ?_⟩); (conv => whnf))
                | (refine And.intro ?_ ?_; rotate_left; (conv => whnf); rotate_right))
              refine hN3 _ _ ?_
              conv => whnf
              refine .to (j + 1) (by omega) (by omega) ?_
              conv => whnf
              repeat' (first
                | exact trivial
                | ((first | refine i64L ?_ | refine u64L ?_ | refine u8L ?_); (conv => whnf))
                | ((refine ⟨fun hb => ?_, fun hb => ?_⟩) <;> (try simp only [nrm] at hb) <;> (first | (exfalso; omega) | contradiction | exact (tfF hb (by assumption)).elim | exact (ftF hb (by assumption)).elim | (conv => whnf)))
                | ((first | refine Draws.of cfg_ok (by kernel_rfl) ?_ | refine ⟨(by kernel_rfl : confB _ _ _ _ _ = true), ?_⟩ | refine bd1 ?_ | refine bd2 ?_ | refine bdR ?_ | refine bdL ?_ | refine ⟨rfl, ?_⟩ | refine ⟨congrArg (Value.int _) (by omega), ?_⟩); (conv => whnf))
                | (refine And.intro ?_ ?_; rotate_left; (conv => whnf); rotate_right))
              all_goals first | rfl | omega | exact List.take_of_length_le (by omega) | trace_state
            · obtain rfl : j = c.heaps.length := by omega
              rw [h1]
              have hz10 := (h4 0).len
              conv => whnf
              repeat' (first
                | exact trivial
                | ((first | refine i64L ?_ | refine u64L ?_ | refine u8L ?_); (conv => whnf))
                | ((refine ⟨fun hb => ?_, fun hb => ?_⟩) <;> (try simp only [nrm] at hb) <;> (first | (exfalso; omega) | contradiction | exact (tfF hb (by assumption)).elim | exact (ftF hb (by assumption)).elim | (conv => whnf)))
                | ((first | refine Draws.of cfg_ok (by kernel_rfl) ?_ | refine ⟨(by kernel_rfl : confB _ _ _ _ _ = true), ?_⟩ | refine bd1 ?_ | refine bd2 ?_ | refine bdR ?_ | refine bdL ?_ | refine ⟨rfl, ?_⟩ | refine ⟨congrArg (Value.int _) (by omega), ?_⟩); (conv => whnf))
                | (refine And.intro ?_ ?_; rotate_left; (conv => whnf); rotate_right))
              refine hE3 _ _ _ ?_
              conv => whnf
              repeat' (first
                | exact trivial
                | ((first | refine i64L ?_ | refine u64L ?_ | refine u8L ?_); (conv => whnf))
                | ((refine ⟨fun hb => ?_, fun hb => ?_⟩) <;> (try simp only [nrm] at hb) <;> (first | (exfalso; omega) | contradiction | exact (tfF hb (by assumption)).elim | exact (ftF hb (by assumption)).elim | (conv => whnf)))
                | ((first | refine Draws.of cfg_ok (by kernel_rfl) ?_ | refine ⟨(by kernel_rfl : confB _ _ _ _ _ = true), ?_⟩ | refine bd1 ?_ | refine bd2 ?_ | refine bdR ?_ | refine bdL ?_ | refine ⟨rfl, ?_⟩ | refine ⟨congrArg (Value.int _) (by omega), ?_⟩); (conv => whnf))
                | (refine And.intro ?_ ?_; rotate_left; (conv => whnf); rotate_right))
              refine Runs.loopQ cfg_ok (σ := Nat) [3, 4, 31, 32, 33, 50, 51, 52] (fun j => [.ptr 200006 0, .clo (.func 84) [] [.ptr 200006 0], .vec .chunk w.chunks, i64 w.chunks.length, i64 k, .vec .box c.boxes, i64 c.boxes.length, i64 j])
                (fun j => (200006, .box [cntF 0]) :: cntM 0 1 (B j)) (fun j => j ≤ c.boxes.length) (fun j => c.boxes.length - j) 0 (by omega) ?_ ?_
              · conv => whnf
                repeat' (first
                  | exact trivial
                  | ((first | refine i64L ?_ | refine u64L ?_ | refine u8L ?_); (conv => whnf))
                  | ((refine ⟨fun hb => ?_, fun hb => ?_⟩) <;> (try simp only [nrm] at hb) <;> (first | (exfalso; omega) | contradiction | exact (tfF hb (by assumption)).elim | exact (ftF hb (by assumption)).elim | (conv => whnf)))
                  | ((first | refine Draws.of cfg_ok (by kernel_rfl) ?_ | refine ⟨(by kernel_rfl : confB _ _ _ _ _ = true), ?_⟩ | refine bd1 ?_ | refine bd2 ?_ | refine bdR ?_ | refine bdL ?_ | refine ⟨rfl, ?_⟩ | refine ⟨congrArg (Value.int _) (by omega), ?_⟩); (conv => whnf))
                  | (refine And.intro ?_ ?_; rotate_left; (conv => whnf); rotate_right))
                all_goals first | rfl | omega | exact List.take_of_length_le (by omega) | trace_state
              · intro j hj N4 hN4 hE4 hT4
                have hz11 := (h4 j).len
                by_cases hlj : j < c.boxes.length
                · have hbm := elt_mem (t := .box) hlj
                  have hbb := hbl _ hbm
                  have hcl := eachAll_ev (elt .box c.boxes j).bag (B j) _ (h4 j) (hbx _ hbm) (by omega) (by omega)
                  rw [← h6 j hlj] at hcl
                  have hz12 := (h4 (j + 1)).len
                  conv => whnf
                  repeat' (first
                    | exact trivial
                    | ((first | refine i64L ?_ | refine u64L ?_ | refine u8L ?_); (conv => whnf))
                    | ((refine ⟨fun hb => ?_, fun hb => ?_⟩) <;> (try simp only [nrm] at hb) <;> (first | (exfalso; omega) | contradiction | exact (tfF hb (by assumption)).elim | exact (ftF hb (by assumption)).elim | (conv => whnf)))
                    | ((first | (refine callEv (hcl) [(0, 0), (1, 1), (2, 200006)] rfl ?_ ?_ ?_) | (refine callEvD (hcl) [(0, 0), (1, 1), (2, 200006)] rfl ?_ ?_ ?_)); rotate_left; rotate_left; (conv => whnf); rotate_left; (repeat' (first | exact trivial | (refine ⟨rfl, ?_⟩))); kernel_rfl)
                    | ((first | refine Draws.of cfg_ok (by kernel_rfl) ?_ | refine ⟨(by kernel_rfl : confB _ _ _ _ _ = true), ?_⟩ | refine bd1 ?_ | refine bd2 ?_ | refine bdR ?_ | refine bdL ?_ | refine ⟨rfl, ?_⟩ | refine ⟨congrArg (Value.int _) (by omega), ?_⟩); (conv => whnf))
                    | (refine And.intro ?_ ?_; rotate_left; (conv => whnf); rotate_right))
                  refine hN4 _ _ ?_
                  conv => whnf
                  refine .to (j + 1) (by omega) (by omega) ?_
                  conv => whnf
                  repeat' (first
                    | exact trivial
                    | ((first | refine i64L ?_ | refine u64L ?_ | refine u8L ?_); (conv => whnf))
                    | ((refine ⟨fun hb => ?_, fun hb => ?_⟩) <;> (try simp only [nrm] at hb) <;> (first | (exfalso; omega) | contradiction | exact (tfF hb (by assumption)).elim | exact (ftF hb (by assumption)).elim | (conv => whnf)))
                    | ((first | refine Draws.of cfg_ok (by kernel_rfl) ?_ | refine ⟨(by kernel_rfl : confB _ _ _ _ _ = true), ?_⟩ | refine bd1 ?_ | refine bd2 ?_ | refine bdR ?_ | refine bdL ?_ | refine ⟨rfl, ?_⟩ | refine ⟨congrArg (Value.int _) (by omega), ?_⟩); (conv => whnf))
                    | (refine And.intro ?_ ?_; rotate_left; (conv => whnf); rotate_right))
                  all_goals first | rfl | omega | exact List.take_of_length_le (by omega) | trace_state
                · obtain rfl : j = c.boxes.length := by omega
                  rw [h2]
                  have hz13 := (q2 (k + 1)).len
                  conv => whnf
                  repeat' (first
                    | exact trivial
                    | ((first | refine i64L ?_ | refine u64L ?_ | refine u8L ?_); (conv => whnf))
                    | ((refine ⟨fun hb => ?_, fun hb => ?_⟩) <;> (try simp only [nrm] at hb) <;> (first | (exfalso; omega) | contradiction | exact (tfF hb (by assumption)).elim | exact (ftF hb (by assumption)).elim | (conv => whnf)))
                    | ((first | refine Draws.of cfg_ok (by kernel_rfl) ?_ | refine ⟨(by kernel_rfl : confB _ _ _ _ _ = true), ?_⟩ | refine bd1 ?_ | refine bd2 ?_ | refine bdR ?_ | refine bdL ?_ | refine ⟨rfl, ?_⟩ | refine ⟨congrArg (Value.int _) (by omega), ?_⟩); (conv => whnf))
                    | (refine And.intro ?_ ?_; rotate_left; (conv => whnf); rotate_right))
                  refine hE4 _ _ _ ?_
                  conv => whnf
                  repeat' (first
                    | exact trivial
                    | ((first | refine i64L ?_ | refine u64L ?_ | refine u8L ?_); (conv => whnf))
                    | ((refine ⟨fun hb => ?_, fun hb => ?_⟩) <;> (try simp only [nrm] at hb) <;> (first | (exfalso; omega) | contradiction | exact (tfF hb (by assumption)).elim | exact (ftF hb (by assumption)).elim | (conv => whnf)))
                    | ((first | refine Draws.of cfg_ok (by kernel_rfl) ?_ | refine ⟨(by kernel_rfl : confB _ _ _ _ _ = true), ?_⟩ | refine bd1 ?_ | refine bd2 ?_ | refine bdR ?_ | refine bdL ?_ | refine ⟨rfl, ?_⟩ | refine ⟨congrArg (Value.int _) (by omega), ?_⟩); (conv => whnf))
                    | (refine And.intro ?_ ?_; rotate_left; (conv => whnf); rotate_right))
                  refine hN2 _ _ ?_
                  conv => whnf
                  refine .to (k + 1) (by omega) (by omega) ?_
                  conv => whnf
                  repeat' (first
                    | exact trivial
                    | ((first | refine i64L ?_ | refine u64L ?_ | refine u8L ?_); (conv => whnf))
                    | ((refine ⟨fun hb => ?_, fun hb => ?_⟩) <;> (try simp only [nrm] at hb) <;> (first | (exfalso; omega) | contradiction | exact (tfF hb (by assumption)).elim | exact (ftF hb (by assumption)).elim | (conv => whnf)))
                    | ((first | refine Draws.of cfg_ok (by kernel_rfl) ?_ | refine ⟨(by kernel_rfl : confB _ _ _ _ _ = true), ?_⟩ | refine bd1 ?_ | refine bd2 ?_ | refine bdR ?_ | refine bdL ?_ | refine ⟨rfl, ?_⟩ | refine ⟨congrArg (Value.int _) (by omega), ?_⟩); (conv => whnf))
                    | (refine And.intro ?_ ?_; rotate_left; (conv => whnf); rotate_right))
                  all_goals first | rfl | omega | exact List.take_of_length_le (by omega) | trace_state
        · obtain rfl : k = w.chunks.length := by omega
          conv => whnf
          repeat' (first
            | exact trivial
            | ((first | refine i64L ?_ | refine u64L ?_ | refine u8L ?_); (conv => whnf))
            | ((refine ⟨fun hb => ?_, fun hb => ?_⟩) <;> (try simp only [nrm] at hb) <;> (first | (exfalso; omega) | contradiction | exact (tfF hb (by assumption)).elim | exact (ftF hb (by assumption)).elim | (conv => whnf)))
            | ((first | refine Draws.of cfg_ok (by kernel_rfl) ?_ | refine ⟨(by kernel_rfl : confB _ _ _ _ _ = true), ?_⟩ | refine bd1 ?_ | refine bd2 ?_ | refine bdR ?_ | refine bdL ?_ | refine ⟨rfl, ?_⟩ | refine ⟨congrArg (Value.int _) (by omega), ?_⟩); (conv => whnf))
            | (refine And.intro ?_ ?_; rotate_left; (conv => whnf); rotate_right))
          refine hE2 _ _ _ ?_
          conv => whnf
          repeat' (first
            | exact trivial
            | ((first | refine i64L ?_ | refine u64L ?_ | refine u8L ?_); (conv => whnf))
            | ((refine ⟨fun hb => ?_, fun hb => ?_⟩) <;> (try simp only [nrm] at hb) <;> (first | (exfalso; omega) | contradiction | exact (tfF hb (by assumption)).elim | exact (ftF hb (by assumption)).elim | (conv => whnf)))
            | ((first | refine Draws.of cfg_ok (by kernel_rfl) ?_ | refine ⟨(by kernel_rfl : confB _ _ _ _ _ = true), ?_⟩ | refine bd1 ?_ | refine bd2 ?_ | refine bdR ?_ | refine bdL ?_ | refine ⟨rfl, ?_⟩ | refine ⟨congrArg (Value.int _) (by omega), ?_⟩); (conv => whnf))
            | (refine And.intro ?_ ?_; rotate_left; (conv => whnf); rotate_right))
          all_goals first | rfl | omega | exact List.take_of_length_le (by omega) | trace_state

end Go.Proofs.Ytelgmmcnopjolaa

/- Plain laws of the ledger. -/
set_option linter.unusedSimpArgs false
set_option linter.unusedVariables false
namespace Go.Proofs.Ytelgmmcnopjolaa
open Go Go.RowKit Eng

def niceS (s : Slot) : Prop := 0 ≤ s.item ∧ s.item ≤ 12 ∧ 0 ≤ s.n ∧ s.n ≤ stackN s.item
theorem niceS.fit {s : Slot} (h : niceS s) : fitS s := by have := stackN_bd s.item; unfold niceS at h; unfold fitS; omega
theorem nice_bag {l : List Slot} (h : bagOk l = true) (hw : ∀ s ∈ l, okSlot s) : ∀ s ∈ l, niceS s := by
  intro s hs
  unfold bagOk at h
  rw [Bool.not_eq_true', List.any_eq_false] at h
  have h1 := h s hs
  have h2 := hw s hs
  unfold badSlot at h1
  unfold okSlot at h2
  unfold niceS
  by_cases h3 : s.item = 0 ∧ s.n = 0
  · rw [h3.1, h3.2]; unfold stackN; simp
  · have h4 : 1 ≤ s.n ∧ s.n ≤ stackN s.item := by
      by_cases h5 : s.n < 1
      · exfalso; apply h1
        rw [decide_eq_true h5]
        have : (s.item == 0 && s.n == 0) = false := by
          rw [Bool.and_eq_false_iff]
          by_cases h6 : s.item = 0
          · right; rw [beq_eq_false_iff_ne]; intro h7; exact h3 ⟨h6, h7⟩
          · left; rw [beq_eq_false_iff_ne]; exact h6
        rw [this]; rfl
      · by_cases h6 : stackN s.item < s.n
        · exfalso; apply h1
          rw [decide_eq_true h6]
          have : (s.item == 0 && s.n == 0) = false := by
            rw [Bool.and_eq_false_iff]; right; rw [beq_eq_false_iff_ne]; omega
          rw [this, Bool.or_true]; rfl
        · omega
    unfold stackN at *
    (repeat' split at *) <;> omega
theorem nice_some {s : Slot} (h : someB s = true) (hw : okSlot s) : niceS s := by
  unfold someB at h
  rw [Bool.and_eq_true, decide_eq_true_eq, decide_eq_true_eq] at h
  unfold okSlot at hw
  unfold niceS stackN at *
  (repeat' split at *) <;> omega

theorem tot_bd {i : Nat} (hi : i < 13) : ∀ (L : List Slot), (∀ s ∈ L, niceS s) → ∀ C : List Int, C.length = 13 → elt .i64 (L.foldl addI C) i ≤ elt .i64 C i + L.length * stackN i ∧ elt .i64 C i ≤ elt .i64 (L.foldl addI C) i
  | [], _, C, _ => by
    rw [List.foldl_nil, List.length_nil]
    refine ⟨?_, Int.le_refl _⟩
    rw [show ((0 : Nat) : Int) * stackN i = 0 from Int.zero_mul _]
    exact Int.le_of_eq (Int.add_zero _).symm
  | s :: r, h, C, hC => by
    have hs := h s (by simp)
    obtain ⟨h1, h2⟩ := tot_bd hi r (fun x hx => h x (List.mem_cons_of_mem _ hx)) (addI C s) (by unfold addI; rw [List.length_set]; exact hC)
    rw [List.foldl_cons, List.length_cons]
    rw [elt_addI hC hs.fit] at h1 h2
    have hm : ((r.length + 1 : Nat) : Int) * stackN i = r.length * stackN i + stackN i := by
      rw [Int.natCast_add, Int.add_mul]; simp
    have hb := stackN_bd i
    rw [hm]
    unfold niceS at hs
    have h3 : (if i = s.item.toNat then elt .i64 C i + s.n else elt .i64 C i) ≤ elt .i64 C i + stackN i ∧ elt .i64 C i ≤ (if i = s.item.toNat then elt .i64 C i + s.n else elt .i64 C i) := by
      split
      · rename_i he
        have : stackN i = stackN s.item := by rw [show (i : Int) = s.item by omega]
        generalize elt .i64 C i = e at *
        have he1 : s.n ≤ stackN i := by omega
        have he2 : 0 ≤ s.n := hs.2.2.1
        exact ⟨Int.add_le_add_left he1 _, Int.le_add_of_nonneg_right he2⟩
      · exact ⟨Int.le_add_of_nonneg_right hb.1, Int.le_refl _⟩
    generalize (if i = s.item.toNat then elt .i64 C i + s.n else elt .i64 C i) = e at *
    generalize elt .i64 (r.foldl addI (addI C s)) i = f at *
    generalize (r.length : Int) * stackN i = g at *
    generalize stackN i = q at *
    generalize elt .i64 C i = d at *
    have k2 : e ≤ f := h2
    have k4 : d ≤ e := h3.2
    have k5 : f ≤ d + (g + q) := by
      have h := Int.le_trans h1 (Int.add_le_add_right h3.1 g)
      rwa [Int.add_assoc, Int.add_comm q g] at h
    exact ⟨k5, Int.le_trans k4 k2⟩
def posN (C : List Int) : Nat → Nat
  | 0 => 0
  | k + 1 => posN C k + (if (0 : Int) < elt .i64 C k then 1 else 0)
theorem posN_add {C : List Int} {s : Slot} (hl : C.length = 13) (hs : fitS s) : ∀ k, posN (addI C s) k ≤ posN C k + (if s.item.toNat < k then 1 else 0)
  | 0 => by simp [posN]
  | k + 1 => by
    have ih := posN_add hl hs k
    rw [posN, posN, elt_addI hl hs]
    by_cases h : k = s.item.toNat
    · rw [if_pos h]; subst h
      rw [if_neg (by omega)] at ih
      rw [if_pos (show s.item.toNat < s.item.toNat + 1 by omega)]
      split <;> split <;> omega
    · rw [if_neg h]
      by_cases h2 : s.item.toNat < k
      · rw [if_pos h2] at ih; rw [if_pos (show s.item.toNat < k + 1 by omega)]; omega
      · rw [if_neg h2] at ih; rw [if_neg (show ¬ s.item.toNat < k + 1 by omega)]; omega
theorem posN_tot : ∀ (L : List Slot), (∀ s ∈ L, niceS s) → ∀ C : List Int, C.length = 13 → posN (L.foldl addI C) 13 ≤ posN C 13 + L.length
  | [], _, C, _ => by simp
  | s :: r, h, C, hC => by
    have hs := h s (by simp)
    have ih := posN_tot r (fun x hx => h x (List.mem_cons_of_mem _ hx)) (addI C s) (by unfold addI; rw [List.length_set]; exact hC)
    have h1 := posN_add hC hs.fit 13
    rw [List.foldl_cons, List.length_cons]
    split at h1 <;> omega
theorem rightGo_mem : ∀ (l : List Int) (k : Nat) (bs rest : List Box), rightGo l k bs = some rest → ∀ b ∈ bs, b ∈ rest ∨ ((b.bag.length : Int) = 6 ∧ bagOk b.bag = true)
  | [], _, bs, rest, h, b, hb => by unfold rightGo at h; exact .inl (Option.some.inj h ▸ hb)
  | i :: r, k, bs, rest, h, b, hb => by
    unfold rightGo at h
    split at h
    · split at h
      · cases bs with
        | nil => cases h
        | cons c t =>
          simp only at h
          split at h
          · rename_i hbx
            rcases List.mem_cons.1 hb with rfl | hb
            · unfold boxAt at hbx
              rw [Bool.and_eq_true, Bool.and_eq_true, decide_eq_true_eq] at hbx
              exact .inr hbx.2
            · exact rightGo_mem r (k + 1) t rest h b hb
          · cases h
      · exact rightGo_mem r (k + 1) bs rest h b hb
    · cases h
theorem right_parts {c : Chunk} (h : rightB c = true) : (∀ b ∈ c.boxes, (b.bag.length : Int) = 6 ∧ bagOk b.bag = true) ∧ (∀ x ∈ c.heaps, badHeap x = false) ∧ headB c = true := by
  unfold rightB at h
  rw [Bool.and_eq_true] at h
  obtain ⟨h1, h2⟩ := h
  split at h2
  · rename_i hg
    refine ⟨fun b hb => ?_, ?_, h1⟩
    · rcases rightGo_mem _ _ _ _ hg b hb with h | h
      · cases h
      · exact h
    · rw [Bool.not_eq_true', List.any_eq_false] at h2
      intro x hx; have := h2 x hx; rwa [Bool.not_eq_true] at this
  · cases h2
theorem sound_parts {p : Player} (h : soundB p = true) : 0 ≤ p.id ∧ p.id ≤ 1073741824 ∧ (p.bag.length : Int) = 8 ∧ bagOk p.bag = true ∧ ((p.wth = -1 ∧ p.offer = [] ∧ p.agrees = false) ∨ (0 ≤ p.wth ∧ p.wth ≤ 1073741824 ∧ p.wth ≠ p.id ∧ (p.offer.length : Int) = 8 ∧ bagOk p.offer = true)) := by
  unfold soundB bag8 at h
  by_cases hw : p.wth = -1
  · rw [if_pos hw] at h
    simp only [Bool.and_eq_true, decide_eq_true_eq, Bool.not_eq_true'] at h
    obtain ⟨h1, h2, ⟨h3, h4⟩, h5, h6⟩ := h
    exact ⟨h1, h2, h3, h4, .inl ⟨hw, List.length_eq_zero_iff.1 (by omega), h6⟩⟩
  · rw [if_neg hw] at h
    simp only [Bool.and_eq_true, decide_eq_true_eq, Bool.not_eq_true', decide_eq_false_iff_not] at h
    obtain ⟨h1, h2, ⟨h3, h4⟩, h5, h6, h7, h8, h9⟩ := h
    exact ⟨h1, h2, h3, h4, .inr ⟨h5, h6, h7, h8, h9⟩⟩
theorem nice_world {w : Wld} (h : RW w) (hw : OkW w) : ∀ s ∈ slotsW w, niceS s := by
  intro s hs
  rcases List.mem_append.1 hs with hs | hs
  · obtain ⟨p, hp, hs⟩ := mem_slotsP hs
    obtain ⟨_, _, _, h4, h5⟩ := sound_parts (h.players p hp).1
    have hok := hw.players p hp
    rcases hs with hs | hs
    · exact nice_bag h4 hok.bag s hs
    · rcases h5 with ⟨_, h5, _⟩ | ⟨_, _, _, _, h5⟩
      · rw [h5] at hs; cases hs
      · exact nice_bag h5 hok.offer s hs
  · obtain ⟨c, hc, hs⟩ := mem_slotsC hs
    obtain ⟨h1, h2, _⟩ := right_parts (h.chunks c hc).1
    have hok := hw.chunks c hc
    rcases hs with ⟨x, hx, rfl⟩ | ⟨b, hb, hs⟩
    · have h3 := h2 x hx
      unfold badHeap at h3
      rw [Bool.or_eq_false_iff, Bool.not_eq_false', Bool.not_eq_false'] at h3
      exact nice_some h3.2 (hok.heaps x hx)
    · exact nice_bag (h1 b hb).2 (hok.boxes b hb).1 s hs
theorem fit_world {w : Wld} (h : RW w) (hw : OkW w) : FitW w := by
  have hn := nice_world h hw
  have h1 : ∀ s, s ∈ slotsP w.players → fitS s := fun s hs => (hn s (List.mem_append_left _ hs)).fit
  have h2 : ∀ s, s ∈ slotsC w.chunks → fitS s := fun s hs => (hn s (List.mem_append_right _ hs)).fit
  unfold slotsP at h1
  unfold slotsC at h2
  refine ⟨fun p hp s hs => h1 s ?_, fun p hp s hs => h1 s ?_, fun c hc x hx => h2 _ ?_, fun c hc b hb s hs => h2 s ?_⟩
  · exact List.mem_flatMap.2 ⟨p, hp, List.mem_append_left _ hs⟩
  · exact List.mem_flatMap.2 ⟨p, hp, List.mem_append_right _ hs⟩
  · exact List.mem_flatMap.2 ⟨c, hc, List.mem_append_left _ (List.mem_map.2 ⟨x, hx, rfl⟩)⟩
  · exact List.mem_flatMap.2 ⟨c, hc, List.mem_append_right _ (List.mem_flatMap.2 ⟨b, hb, hs⟩)⟩
def slotsN (w : Wld) : Nat := ((w.players.map fun p => p.bag.length + p.offer.length).sum) + ((w.chunks.map fun c => c.heaps.length + 6 * c.boxes.length).sum)
theorem sum_box {l : List Box} (h : ∀ b ∈ l, (b.bag.length : Int) = 6) : (l.flatMap (·.bag)).length = 6 * l.length := by
  induction l with
  | nil => rfl
  | cons b r ih =>
    have := h b (by simp)
    rw [List.flatMap_cons, List.length_append, ih fun x hx => h x (List.mem_cons_of_mem _ hx), List.length_cons]
    omega
theorem slotsN_eq {w : Wld} (h : RW w) : (slotsW w).length = slotsN w := by
  unfold slotsW slotsN slotsP slotsC
  rw [List.length_append, List.length_flatMap, List.length_flatMap]
  congr 2
  · apply List.map_congr_left; intro p _; rw [List.length_append]
  · apply List.map_congr_left
    intro c hc
    rw [List.length_append, List.length_map, sum_box fun b hb => ((right_parts (h.chunks c hc).1).1 b hb).1]
def cntW (w : Wld) : List Int := if rightW w = true then tot (slotsW w) else zeros13
theorem zeros_elt (i : Nat) (h : i < 13) : elt .i64 zeros13 i = (0 : Int) := by
  unfold elt; rw [List.getElem?_replicate]; rw [if_pos h]; rfl
theorem posZ : ∀ k, k ≤ 13 → posN zeros13 k = 0
  | 0, _ => rfl
  | k + 1, h => by rw [posN, posZ k (by omega), zeros_elt k (by omega)]; rfl
theorem cnt_law {w : Wld} (hw : OkW w) : (cntW w).length = 13 ∧ elt .i64 (cntW w) 0 = (0 : Int) ∧ (∀ i : Nat, i < 13 → inN (slotsN w * stackN i) (elt .i64 (cntW w) i)) ∧ posN (cntW w) 13 ≤ slotsN w := by
  unfold cntW
  by_cases hR : rightW w = true
  · rw [if_pos hR]
    have hRW := rightW_iff.1 hR
    have hn := nice_world hRW hw
    have hb := fun (i : Nat) (hi : i < 13) => tot_bd hi (slotsW w) hn zeros13 (by decide)
    rw [← slotsN_eq hRW]
    have h0 : ∀ i : Nat, i < 13 → inN ((slotsW w).length * stackN i) (elt .i64 (tot (slotsW w)) i) := fun i hi => by
      obtain ⟨h1, h2⟩ := hb i hi
      rw [zeros_elt i hi] at h1 h2
      refine ⟨h2, ?_⟩
      have h3 : elt .i64 (tot (slotsW w)) i ≤ (0 : Int) + (slotsW w).length * stackN i := h1
      rwa [Int.zero_add] at h3
    refine ⟨(tot_ok fun s hs => (hn s hs).fit).len, ?_, h0, ?_⟩
    · have := h0 0 (by omega)
      rw [show stackN ((0 : Nat) : Int) = 0 from rfl, Int.mul_zero] at this
      exact Int.le_antisymm this.2 this.1
    · have := posN_tot (slotsW w) hn zeros13 (by decide)
      rw [posZ 13 (by omega)] at this
      unfold tot; omega
  · rw [if_neg hR]
    refine ⟨by decide, zeros_elt 0 (by omega), fun i hi => ?_, ?_⟩
    · rw [zeros_elt i hi]
      exact ⟨Int.le_refl _, Int.mul_nonneg (by omega) (stackN_bd i).1⟩
    · rw [posZ 13 (by omega)]; omega

end Go.Proofs.Ytelgmmcnopjolaa

/- homesteadlaw18.LedgerBounds. -/
set_option linter.unusedSimpArgs false
set_option linter.unusedVariables false
namespace Go.Proofs.Ytelgmmcnopjolaa
open Go Go.RowKit Eng

theorem rightGo_len : ∀ (l : List Int) (k : Nat) (bs rest : List Box), rightGo l k bs = some rest → bs.length ≤ l.length + rest.length
  | [], _, bs, rest, h => by unfold rightGo at h; rw [Option.some.inj h]; omega
  | i :: r, k, bs, rest, h => by
    unfold rightGo at h
    split at h
    · split at h
      · cases bs with
        | nil => cases h
        | cons c t =>
          simp only at h
          split at h
          · have := rightGo_len r (k + 1) t rest h
            simp only [List.length_cons]; omega
          · cases h
      · have := rightGo_len r (k + 1) bs rest h
        simp only [List.length_cons]; omega
    · cases h
theorem right_len {c : Chunk} (h : rightB c = true) : c.cells.length = 64 ∧ c.heaps.length ≤ 32 ∧ c.boxes.length ≤ 64 := by
  have h3 := (right_parts h).2.2
  unfold headB at h3
  simp only [Bool.and_eq_true, decide_eq_true_eq] at h3
  obtain ⟨_, _, _, _, h4, h5⟩ := h3
  refine ⟨by omega, by omega, ?_⟩
  unfold rightB at h
  rw [Bool.and_eq_true] at h
  obtain ⟨_, h2⟩ := h
  split at h2
  · rename_i hg
    have := rightGo_len _ _ _ _ hg
    simp only [List.length_nil] at this; omega
  · cases h2
theorem sum_le {α : Type} {f : α → Nat} {m : Nat} : ∀ {l : List α}, (∀ x ∈ l, f x ≤ m) → (l.map f).sum ≤ l.length * m
  | [], _ => by simp
  | a :: r, h => by
    have h1 := h a (by simp)
    have h2 := sum_le (l := r) fun x hx => h x (List.mem_cons_of_mem _ hx)
    rw [List.map_cons, List.sum_cons, List.length_cons, Nat.succ_mul]
    omega
theorem slots_bd {w : Wld} (h : RW w) (hw : OkW w) : (slotsW w).length ≤ 18014398509481984 := by
  rw [slotsN_eq h]
  unfold slotsN
  have h1 := sum_le (l := w.players) (f := fun p => p.bag.length + p.offer.length) (m := 16) fun p hp => by
    obtain ⟨_, _, h3, _, h5⟩ := sound_parts (h.players p hp).1
    rcases h5 with ⟨_, h5, _⟩ | ⟨_, _, _, h5, _⟩
    · rw [h5]; simp; omega
    · omega
  have h2 := sum_le (l := w.chunks) (f := fun c => c.heaps.length + 6 * c.boxes.length) (m := 416) fun c hc => by
    have := right_len (h.chunks c hc).1
    omega
  have h3 := hw.nc
  have h4 := hw.np
  omega

set_option maxRecDepth 100000 in
set_option maxHeartbeats 4000000 in
theorem lcount_api (w : Wld) (hw : OkW w) : Api Try.prog 15 [wldV w] (.vec .i64 (cntW w)) := by
  have hrt := rightW_api w hw
  cases hR : rightW w with
  | false =>
    rw [hR] at hrt
    have hs : cntW w = zeros13 := by unfold cntW; rw [if_neg (by rw [hR]; simp)]
    rw [hs]
    refine Api.of_fin cfg_ok Try.func15 rfl (nt := 10) rfl rfl ?_
    conv => whnf
    repeat' (first
      | exact trivial
      | ((first | refine i64L ?_ | refine u64L ?_ | refine u8L ?_); (conv => whnf))
      | ((refine ⟨fun hb => ?_, fun hb => ?_⟩) <;> (try simp only [nrm] at hb) <;> (first | (exfalso; omega) | contradiction | exact (tfF hb (by assumption)).elim | exact (ftF hb (by assumption)).elim | (conv => whnf)))
      | ((first | (refine callApi (hrt) rfl rfl ?_) | (refine callApiD (hrt) rfl rfl ?_) | refine Draws.of cfg_ok (by kernel_rfl) ?_ | refine ⟨(by kernel_rfl : confB _ _ _ _ _ = true), ?_⟩ | refine bd1 ?_ | refine bd2 ?_ | refine bdR ?_ | refine bdL ?_ | refine ⟨rfl, ?_⟩ | refine ⟨congrArg (Value.int _) (by omega), ?_⟩); (conv => whnf))
      | (refine And.intro ?_ ?_; rotate_left; (conv => whnf); rotate_right))
    all_goals first | rfl | omega | trace_state
  | true =>
    rw [hR] at hrt
    have hRW := rightW_iff.1 hR
    have hs : cntW w = tot (slotsW w) := by unfold cntW; rw [if_pos hR]
    rw [hs]
    have hev := leach_ev w (fit_world hRW hw) (slots_bd hRW hw) hw
    have hln := (tot_ok (fit_world hRW hw).fit).len
    generalize tot (slotsW w) = T at *
    refine Api.of_fin cfg_ok Try.func15 rfl (nt := 10) rfl rfl ?_
    conv => whnf
    repeat' (first
      | exact trivial
      | ((first | refine i64L ?_ | refine u64L ?_ | refine u8L ?_); (conv => whnf))
      | ((refine ⟨fun hb => ?_, fun hb => ?_⟩) <;> (try simp only [nrm] at hb) <;> (first | (exfalso; omega) | contradiction | exact (tfF hb (by assumption)).elim | exact (ftF hb (by assumption)).elim | (conv => whnf)))
      | ((first | (refine callEv (hev) [(0, 6), (1, 9)] rfl ?_ ?_ ?_) | (refine callEvD (hev) [(0, 6), (1, 9)] rfl ?_ ?_ ?_)); rotate_left; rotate_left; (conv => whnf); rotate_left; (repeat' (first | exact trivial | (refine ⟨rfl, ?_⟩))); kernel_rfl)
      | ((first | (refine callApi (hrt) rfl rfl ?_) | (refine callApiD (hrt) rfl rfl ?_) | refine Draws.of cfg_ok (by kernel_rfl) ?_ | refine ⟨(by kernel_rfl : confB _ _ _ _ _ = true), ?_⟩ | refine bd1 ?_ | refine bd2 ?_ | refine bdR ?_ | refine bdL ?_ | refine ⟨rfl, ?_⟩ | refine ⟨congrArg (Value.int _) (by omega), ?_⟩); (conv => whnf))
      | (refine And.intro ?_ ?_; rotate_left; (conv => whnf); rotate_right))
    all_goals first | rfl | omega | exact List.take_of_length_le (by omega) | (rw [List.drop_zero]; exact List.take_of_length_le (by omega)) | trace_state

theorem great_len {w : Wld} (h : greatW w = false) : w.chunks.length ≤ 20 ∧ w.players.length ≤ 40 := by
  unfold greatW at h
  simp only [Bool.or_eq_false_iff, decide_eq_false_iff_not] at h
  omega

def sP (w : Wld) (k : Nat) : Nat := ((w.players.take k).map fun p => p.bag.length + p.offer.length).sum
def sC (w : Wld) (k : Nat) : Nat := sP w w.players.length + ((w.chunks.take k).map fun c => c.heaps.length + 6 * c.boxes.length).sum
theorem sP_succ {w : Wld} {k : Nat} (h : k < w.players.length) : sP w (k + 1) = sP w k + ((elt .player w.players k).bag.length + (elt .player w.players k).offer.length) := by
  unfold sP; rw [List.take_add_one, elt_get .player _ _ h, Option.toList_some, List.map_append, List.sum_append]; simp
theorem sC_succ {w : Wld} {k : Nat} (h : k < w.chunks.length) : sC w (k + 1) = sC w k + ((elt .chunk w.chunks k).heaps.length + 6 * (elt .chunk w.chunks k).boxes.length) := by
  unfold sC; rw [List.take_add_one, elt_get .chunk _ _ h, Option.toList_some, List.map_append, List.sum_append]; simp; omega
theorem sC_end (w : Wld) : sC w w.chunks.length = slotsN w := by unfold sC sP slotsN; rw [List.take_length, List.take_length]
theorem sP_bd {w : Wld} (hw : OkW w) (hg : w.players.length ≤ 40) (k : Nat) : sP w k ≤ 703687441776640 := by
  have h1 := sum_le (l := w.players.take k) (f := fun p => p.bag.length + p.offer.length) (m := 17592186044416) fun p hp => by
    have := hw.players p (List.mem_of_mem_take hp)
    have h1 := this.nb; have h2 := this.no; omega
  have h2 : (w.players.take k).length ≤ 40 := by rw [List.length_take]; omega
  have h3 : (w.players.take k).length * 17592186044416 ≤ 40 * 17592186044416 := Nat.mul_le_mul_right _ h2
  unfold sP; omega
theorem sC_bd {w : Wld} (hw : OkW w) (hg : w.players.length ≤ 40) (hc : w.chunks.length ≤ 20) (k : Nat) : sC w k ≤ 1407374883553280 := by
  have h1 := sum_le (l := w.chunks.take k) (f := fun c => c.heaps.length + 6 * c.boxes.length) (m := 35184372088832) fun p hp => by
    have := hw.fit p (List.mem_of_mem_take hp)
    have h1 := this.heaps; have h2 := this.boxes; omega
  have h2 : (w.chunks.take k).length ≤ 20 := by rw [List.length_take]; omega
  have h3 : (w.chunks.take k).length * 35184372088832 ≤ 20 * 35184372088832 := Nat.mul_le_mul_right _ h2
  have h4 := sP_bd hw hg w.players.length
  unfold sC; omega

set_option maxRecDepth 100000 in
set_option maxHeartbeats 4000000 in
theorem sameInts_api (a b : List (El .i64)) (ha : a.length ≤ 4000000000000000000) : Api Try.prog 42 [.vec .i64 a, .vec .i64 b] (bol (eqI a b)) := by
  by_cases hl : a.length = b.length
  · skip
    refine Api.of_fin cfg_ok Try.func42 rfl (nt := 24) rfl rfl ?_
    conv => whnf
    repeat' (first
      | exact trivial
      | ((first | refine i64L ?_ | refine u64L ?_ | refine u8L ?_); (conv => whnf))
      | ((refine ⟨fun hb => ?_, fun hb => ?_⟩) <;> (try simp only [nrm] at hb) <;> (first | (exfalso; omega) | contradiction | exact (tfF hb (by assumption)).elim | exact (ftF hb (by assumption)).elim | (conv => whnf)))
      | ((first | refine Draws.of cfg_ok (by kernel_rfl) ?_ | refine ⟨(by kernel_rfl : confB _ _ _ _ _ = true), ?_⟩ | refine bd1 ?_ | refine bd2 ?_ | refine bdR ?_ | refine bdL ?_ | refine ⟨rfl, ?_⟩ | refine ⟨congrArg (Value.int _) (by omega), ?_⟩); (conv => whnf))
      | (refine And.intro ?_ ?_; rotate_left; (conv => whnf); rotate_right))
    all_goals try omega
    refine Runs.loopS cfg_ok (σ := Nat) [0, 1, 5] (fun k => [.vec .i64 a, .vec .i64 b, i64 k]) (fun _ => []) (fun k => k ≤ a.length ∧ a.take k = b.take k) (fun k => a.length - k) 0 ⟨by omega, by rw [List.take_zero, List.take_zero]⟩ ?_ ?_
    · conv => whnf
      repeat' (first
        | exact trivial
        | ((first | refine i64L ?_ | refine u64L ?_ | refine u8L ?_); (conv => whnf))
        | ((refine ⟨fun hb => ?_, fun hb => ?_⟩) <;> (try simp only [nrm] at hb) <;> (first | (exfalso; omega) | contradiction | exact (tfF hb (by assumption)).elim | exact (ftF hb (by assumption)).elim | (conv => whnf)))
        | ((first | refine Draws.of cfg_ok (by kernel_rfl) ?_ | refine ⟨(by kernel_rfl : confB _ _ _ _ _ = true), ?_⟩ | refine bd1 ?_ | refine bd2 ?_ | refine bdR ?_ | refine bdL ?_ | refine ⟨rfl, ?_⟩ | refine ⟨congrArg (Value.int _) (by omega), ?_⟩); (conv => whnf))
        | (refine And.intro ?_ ?_; rotate_left; (conv => whnf); rotate_right))
    · rintro k ⟨hk, ht⟩
      by_cases hlt : k < a.length
      · have ea := elt_get .i64 a k hlt
        have eb := elt_get .i64 b k (by omega)
        conv => whnf
        repeat' (first
          | exact trivial
          | ((first | refine i64L ?_ | refine u64L ?_ | refine u8L ?_); (conv => whnf))
          | ((refine ⟨fun hb => ?_, fun hb => ?_⟩) <;> (try simp only [nrm] at hb) <;> (first | (exfalso; omega) | contradiction | exact (tfF hb (by assumption)).elim | exact (ftF hb (by assumption)).elim | (conv => whnf)))
          | ((first | refine Draws.of cfg_ok (by kernel_rfl) ?_ | refine ⟨(by kernel_rfl : confB _ _ _ _ _ = true), ?_⟩ | refine bd1 ?_ | refine bd2 ?_ | refine bdR ?_ | refine bdL ?_ | refine ⟨rfl, ?_⟩ | refine ⟨congrArg (Value.int _) (by omega), ?_⟩); (conv => whnf))
          | (refine And.intro ?_ ?_; rotate_left; (conv => whnf); rotate_right))
        · rename_i hb
          refine congrArg Value.bool ?_
          unfold eqI
          rw [decide_eq_false]
          intro he
          subst he
          exact hb rfl
        · rename_i hb
          refine .to (k + 1) ⟨by omega, ?_⟩ (by omega) ?_
          · rw [List.take_add_one, List.take_add_one, ht, ea, eb]
            have hb2 : elt .i64 a k = elt .i64 b k := hb
            rw [hb2]
          conv => whnf
          repeat' (first
            | exact trivial
            | ((first | refine i64L ?_ | refine u64L ?_ | refine u8L ?_); (conv => whnf))
            | ((refine ⟨fun hb => ?_, fun hb => ?_⟩) <;> (try simp only [nrm] at hb) <;> (first | (exfalso; omega) | contradiction | exact (tfF hb (by assumption)).elim | exact (ftF hb (by assumption)).elim | (conv => whnf)))
            | ((first | refine Draws.of cfg_ok (by kernel_rfl) ?_ | refine ⟨(by kernel_rfl : confB _ _ _ _ _ = true), ?_⟩ | refine bd1 ?_ | refine bd2 ?_ | refine bdR ?_ | refine bdL ?_ | refine ⟨rfl, ?_⟩ | refine ⟨congrArg (Value.int _) (by omega), ?_⟩); (conv => whnf))
            | (refine And.intro ?_ ?_; rotate_left; (conv => whnf); rotate_right))
      · obtain rfl : k = a.length := by omega
        conv => whnf
        repeat' (first
          | exact trivial
          | ((first | refine i64L ?_ | refine u64L ?_ | refine u8L ?_); (conv => whnf))
          | ((refine ⟨fun hb => ?_, fun hb => ?_⟩) <;> (try simp only [nrm] at hb) <;> (first | (exfalso; omega) | contradiction | exact (tfF hb (by assumption)).elim | exact (ftF hb (by assumption)).elim | (conv => whnf)))
          | ((first | refine Draws.of cfg_ok (by kernel_rfl) ?_ | refine ⟨(by kernel_rfl : confB _ _ _ _ _ = true), ?_⟩ | refine bd1 ?_ | refine bd2 ?_ | refine bdR ?_ | refine bdL ?_ | refine ⟨rfl, ?_⟩ | refine ⟨congrArg (Value.int _) (by omega), ?_⟩); (conv => whnf))
          | (refine And.intro ?_ ?_; rotate_left; (conv => whnf); rotate_right))
        refine congrArg Value.bool ?_
        unfold eqI
        rw [decide_eq_true]
        rw [List.take_length, hl, List.take_length] at ht
        exact ht
  · have : eqI a b = false := by unfold eqI; rw [decide_eq_false]; intro h; exact hl (by rw [h])
    rw [this]
    refine Api.of_fin cfg_ok Try.func42 rfl (nt := 24) rfl rfl ?_
    conv => whnf
    repeat' (first
      | exact trivial
      | ((first | refine i64L ?_ | refine u64L ?_ | refine u8L ?_); (conv => whnf))
      | ((refine ⟨fun hb => ?_, fun hb => ?_⟩) <;> (try simp only [nrm] at hb) <;> (first | (exfalso; omega) | contradiction | exact (tfF hb (by assumption)).elim | exact (ftF hb (by assumption)).elim | (conv => whnf)))
      | ((first | refine Draws.of cfg_ok (by kernel_rfl) ?_ | refine ⟨(by kernel_rfl : confB _ _ _ _ _ = true), ?_⟩ | refine bd1 ?_ | refine bd2 ?_ | refine bdR ?_ | refine bdL ?_ | refine ⟨rfl, ?_⟩ | refine ⟨congrArg (Value.int _) (by omega), ?_⟩); (conv => whnf))
      | (refine And.intro ?_ ?_; rotate_left; (conv => whnf); rotate_right))
    all_goals first | rfl | omega | trace_state

end Go.Proofs.Ytelgmmcnopjolaa

/- homesteadlaw18.awake; homesteadlaw18.LedgerBounds. -/
set_option linter.unusedSimpArgs false
set_option linter.unusedVariables false
namespace Go.Proofs.Ytelgmmcnopjolaa
open Go Go.RowKit Eng

def wZ : Wld := ⟨1, 0, 0, [], []⟩
def pZ : Player := ⟨1, 0, 0, (List.replicate 8 ⟨0, 0⟩).set 0 ⟨1, 3⟩, 2, (List.replicate 8 ⟨0, 0⟩).set 3 ⟨1, 2⟩, false⟩
def wY : Wld := ⟨1, 0, 0, [], [pZ]⟩
theorem okW_Z : OkW wZ := ⟨by simp [wZ], by simp [wZ], by simp [wZ], by decide, by decide⟩
theorem okP_Z : OkP pZ := ⟨by unfold okSlot; decide, by unfold okSlot; decide, by decide, by decide⟩
theorem okW_Y : OkW wY := ⟨by simp [wY], by simp [wY], by simp [wY, okP_Z], by decide, by decide⟩
theorem newZ : newW 1 0 = (wZ, 0) := by rfl
theorem setZ : setW wZ pZ = (wY, 0) := by kernel_rfl
theorem cntZ : cntW wZ = zeros13 := by kernel_rfl
theorem cntY : cntW wY = [0, 5, 0, 0, 0, 0, 0, 0, 0, 0, 0, 0, 0] := by kernel_rfl

set_option maxRecDepth 100000 in
set_option maxHeartbeats 4000000 in
theorem awake18_api  : Api Try.prog 14 [] (bol true) := by
  have hn := wnew_api 1 0
  rw [newZ] at hn
  have hc := lcount_api wZ okW_Z
  rw [cntZ] at hc
  have hq := sameInts_api zeros13 (List.replicate (Int.toNat 13) (dflt .i64)) (by decide)
  rw [show eqI zeros13 (List.replicate (Int.toNat 13) (dflt .i64)) = true by rfl] at hq
  have hRl : (List.replicate (Int.toNat 13) (dflt .i64)).length = 13 := by decide
  have hL : (List.replicate (Int.toNat 8) (dflt .slot)).length = 8 := by decide
  have hs := set_world wZ pZ okW_Z okP_Z
  rw [setZ] at hs
  have hd := lcount_api wY okW_Y
  have hd5 : elt .i64 (cntW wY) 1 = (5 : Int) := by rw [cntY]; rfl
  have hdl : (cntW wY).length = 13 := by rw [cntY]; rfl
  have e1 : playerV pZ = .agg [i64 1, i64 0, i64 0, .vec .slot ((List.replicate (Int.toNat 8) (dflt .slot)).set (Int.toNat 0 + 0) ⟨1, 3⟩), i64 2, .vec .slot ((List.replicate (Int.toNat 8) (dflt .slot)).set (Int.toNat 3 + 0) ⟨1, 2⟩), bol false] := rfl
  rw [e1] at hs
  generalize zeros13 = Z13 at *
  generalize wZ = A at *
  generalize wY = B at *
  generalize cntW B = C at *
  dsimp only at hn hs
  generalize hZ : List.replicate (Int.toNat 13) (dflt Ty.i64) = R at *
  generalize hLL : List.replicate (Int.toNat 8) (dflt Ty.slot) = L at *
  replace hs := api_weak hs (.cons (Le.refl _) (.cons (Le.agg (.cons (Le.refl _) (.cons (Le.refl _) (.cons (Le.refl _) (.cons (Le.refl _) (.cons (Le.refl _) (.cons (Le.refl _) (.cons (Le.ff rfl) .nil)))))))) .nil))
  refine Api.of_fin cfg_ok Try.func14 rfl (nt := 44) rfl rfl ?_
  ((try refine evCut fun N hN hE hT => ?_); (conv => whnf))
  repeat' (first
    | exact trivial
    | (refine hT _ _ ?_; clear hN hE hT; ((try refine evCut fun N hN hE hT => ?_); (conv => whnf)))
    | (refine hE _ _ _ ?_; clear hN hE hT; ((try refine evCut fun N hN hE hT => ?_); (conv => whnf)))
    | (refine hN _ _ ?_; clear hN hE hT; ((try refine evCut fun N hN hE hT => ?_); (conv => whnf)))
    | ((first | refine i64L ?_ | refine u64L ?_ | refine u8L ?_); ((try refine evCut fun N hN hE hT => ?_); (conv => whnf)))
    | ((refine ⟨fun hb => ?_, fun hb => ?_⟩) <;> (try simp only [nrm] at hb) <;> (first | (exfalso; omega) | contradiction | exact (tfF hb (by assumption)).elim | exact (ftF hb (by assumption)).elim | ((try refine evCut fun N hN hE hT => ?_); (conv => whnf))))
    | ((rw [hLL]; refine ⟨by omega, by omega, ?_⟩); ((try refine evCut fun N hN hE hT => ?_); (conv => whnf)))
    | ((rw [hLL]); ((try refine evCut fun N hN hE hT => ?_); (conv => whnf)))
    | ((rw [hZ]; refine callGiveND hq rfl rfl ?_; ((try refine evCut fun N hN hE hT => ?_); (conv => whnf)); refine ⟨by omega, by rw [List.drop_zero, List.take_of_length_le (by omega)], ?_⟩); ((try refine evCut fun N hN hE hT => ?_); (conv => whnf)))
    | ((first | (refine callApi (hn) rfl rfl ?_) | (refine callApiD (hn) rfl rfl ?_) | (refine callApi (hc) rfl rfl ?_) | (refine callApiD (hc) rfl rfl ?_) | (refine callApi (hd) rfl rfl ?_) | (refine callApiD (hd) rfl rfl ?_) | refine Draws.of cfg_ok (by kernel_rfl) ?_ | refine ⟨(by kernel_rfl : confB _ _ _ _ _ = true), ?_⟩ | refine bd1 ?_ | refine bd2 ?_ | refine bdR ?_ | refine bdL ?_ | refine ⟨rfl, ?_⟩ | refine ⟨congrArg (Value.int _) (by omega), ?_⟩); ((try refine evCut fun N hN hE hT => ?_); (conv => whnf)))
    | (refine And.intro ?_ ?_; rotate_left; ((try refine evCut fun N hN hE hT => ?_); (conv => whnf)); rotate_right))
  refine callGiveN hs rfl rfl ?_
  conv => whnf
  refine ⟨by rw [List.length_set]; omega, ?_⟩
  conv => whnf
  refine ⟨by rw [List.length_set]; omega, ?_⟩
  conv => whnf
  refine ⟨by rw [List.drop_zero, List.drop_zero, List.take_of_length_le (by rw [List.length_set]; omega), List.take_of_length_le (by rw [List.length_set]; omega)]; rfl, ?_⟩
  repeat' (first
    | exact trivial
    | (refine hT _ _ ?_; clear hN hE hT; ((try refine evCut fun N hN hE hT => ?_); (conv => whnf)))
    | (refine hE _ _ _ ?_; clear hN hE hT; ((try refine evCut fun N hN hE hT => ?_); (conv => whnf)))
    | (refine hN _ _ ?_; clear hN hE hT; ((try refine evCut fun N hN hE hT => ?_); (conv => whnf)))
    | ((first | refine i64L ?_ | refine u64L ?_ | refine u8L ?_); ((try refine evCut fun N hN hE hT => ?_); (conv => whnf)))
    | ((refine ⟨fun hb => ?_, fun hb => ?_⟩) <;> (try simp only [nrm] at hb) <;> (first | (exfalso; omega) | contradiction | exact (tfF hb (by assumption)).elim | exact (ftF hb (by assumption)).elim | ((try refine evCut fun N hN hE hT => ?_); (conv => whnf))))
    | ((first | (refine callApi (hd) rfl rfl ?_) | (refine callApiD (hd) rfl rfl ?_) | refine Draws.of cfg_ok (by kernel_rfl) ?_ | refine ⟨(by kernel_rfl : confB _ _ _ _ _ = true), ?_⟩ | refine bd1 ?_ | refine bd2 ?_ | refine bdR ?_ | refine bdL ?_ | refine ⟨rfl, ?_⟩ | refine ⟨congrArg (Value.int _) (by omega), ?_⟩); ((try refine evCut fun N hN hE hT => ?_); (conv => whnf)))
    | (refine And.intro ?_ ?_; rotate_left; ((try refine evCut fun N hN hE hT => ?_); (conv => whnf)); rotate_right))
  all_goals first | rfl | omega | (refine congrArg Value.bool ?_; rw [show Int.toNat 1 = 1 from rfl, hd5]; rfl) | trace_state

set_option maxRecDepth 100000 in
set_option maxHeartbeats 4000000 in
theorem ledgerB_api (w : Wld) (hw : OkW w) : Api Try.prog 3 [wldV w] (bol true) := by
  have hgr := greatW_api w hw
  have haw := awake18_api
  cases hG : greatW w with
  | true =>
    rw [hG] at hgr
    refine Api.of_fin cfg_ok Try.func3 rfl (nt := 89) rfl rfl ?_
    conv => whnf
    repeat' (first
      | exact trivial
      | ((first | refine i64L ?_ | refine u64L ?_ | refine u8L ?_); (conv => whnf))
      | ((refine ⟨fun hb => ?_, fun hb => ?_⟩) <;> (try simp only [nrm] at hb) <;> (first | (exfalso; omega) | contradiction | exact (tfF hb (by assumption)).elim | exact (ftF hb (by assumption)).elim | (conv => whnf)))
      | ((first | (refine callApi (hgr) rfl rfl ?_) | (refine callApiD (hgr) rfl rfl ?_) | (refine callApi (haw) rfl rfl ?_) | (refine callApiD (haw) rfl rfl ?_) | refine Draws.of cfg_ok (by kernel_rfl) ?_ | refine ⟨(by kernel_rfl : confB _ _ _ _ _ = true), ?_⟩ | refine bd1 ?_ | refine bd2 ?_ | refine bdR ?_ | refine bdL ?_ | refine ⟨rfl, ?_⟩ | refine ⟨congrArg (Value.int _) (by omega), ?_⟩); (conv => whnf))
      | (refine And.intro ?_ ?_; rotate_left; (conv => whnf); rotate_right))
  | false =>
    rw [hG] at hgr
    obtain ⟨hgc, hgp⟩ := great_len hG
    have hcn := lcount_api w hw
    obtain ⟨c0, c1, c2, c3⟩ := cnt_law hw
    have hb0 := sC_bd hw hgp hgc w.chunks.length
    rw [sC_end] at hb0
    have hS : ∃ S : Nat → Nat, S 0 = 0 ∧ S w.players.length = sC w 0 ∧ (∀ k, S k ≤ 703687441776640) ∧ (∀ k, k < w.players.length → S (k + 1) = S k + ((elt .player w.players k).bag.length + (elt .player w.players k).offer.length)) :=
      ⟨sP w, rfl, by unfold sC; simp, sP_bd hw hgp, fun k hk => sP_succ hk⟩
    have hT : ∃ T : Nat → Nat, T 0 = sC w 0 ∧ T w.chunks.length = slotsN w ∧ (∀ k, T k ≤ 1407374883553280) ∧ (∀ k, k < w.chunks.length → T (k + 1) = T k + ((elt .chunk w.chunks k).heaps.length + 6 * (elt .chunk w.chunks k).boxes.length)) :=
      ⟨sC w, rfl, sC_end w, sC_bd hw hgp hgc, fun k hk => sC_succ hk⟩
    obtain ⟨S, s0, s1, s2, s3⟩ := hS
    obtain ⟨T, t0, t1, t2, t3⟩ := hT
    rw [← t0] at s1
    generalize cntW w = C at *
    have hU : ∃ U : Nat → Nat, U 0 = 0 ∧ U 13 = posN C 13 ∧ (∀ k, U k ≤ k) ∧ (∀ k, (0 : Int) < elt .i64 C k → U (k + 1) = U k + 1) ∧ (∀ k, ¬ (0 : Int) < elt .i64 C k → U (k + 1) = U k) :=
      ⟨posN C, rfl, rfl, fun k => by
        induction k with
        | zero => exact Nat.le_refl _
        | succ k ih => rw [posN]; split <;> omega, fun k h => by rw [posN, if_pos h], fun k h => by rw [posN, if_neg h]; rfl⟩
    obtain ⟨U, u0, u1, u2, u3, u4⟩ := hU
    rw [← u1] at c3
    rw [← t1] at c2 c3 hb0
    refine Api.of_fin cfg_ok Try.func3 rfl (nt := 89) rfl rfl ?_
    conv => whnf
    repeat' (first
      | exact trivial
      | ((first | refine i64L ?_ | refine u64L ?_ | refine u8L ?_); (conv => whnf))
      | ((refine ⟨fun hb => ?_, fun hb => ?_⟩) <;> (try simp only [nrm] at hb) <;> (first | (exfalso; omega) | contradiction | exact (tfF hb (by assumption)).elim | exact (ftF hb (by assumption)).elim | (conv => whnf)))
      | ((first | (refine callApi (hgr) rfl rfl ?_) | (refine callApiD (hgr) rfl rfl ?_) | (refine callApi (haw) rfl rfl ?_) | (refine callApiD (haw) rfl rfl ?_) | refine Draws.of cfg_ok (by kernel_rfl) ?_ | refine ⟨(by kernel_rfl : confB _ _ _ _ _ = true), ?_⟩ | refine bd1 ?_ | refine bd2 ?_ | refine bdR ?_ | refine bdL ?_ | refine ⟨rfl, ?_⟩ | refine ⟨congrArg (Value.int _) (by omega), ?_⟩); (conv => whnf))
      | (refine And.intro ?_ ?_; rotate_left; (conv => whnf); rotate_right))
    refine Runs.loopQ cfg_ok (σ := Nat) [1, 3, 16, 17, 18] (fun k => [.ptr 2 0, i64 (S k), .vec .player w.players, i64 w.players.length, i64 k]) (fun _ => [(2, .box (wldC w))]) (fun k => k ≤ w.players.length) (fun k => w.players.length - k) 0 (by omega) ?_ ?_
    · conv => whnf
      repeat' (first
        | exact trivial
        | ((first | refine i64L ?_ | refine u64L ?_ | refine u8L ?_); (conv => whnf))
        | ((refine ⟨fun hb => ?_, fun hb => ?_⟩) <;> (try simp only [nrm] at hb) <;> (first | (exfalso; omega) | contradiction | exact (tfF hb (by assumption)).elim | exact (ftF hb (by assumption)).elim | (conv => whnf)))
        | ((first | refine Draws.of cfg_ok (by kernel_rfl) ?_ | refine ⟨(by kernel_rfl : confB _ _ _ _ _ = true), ?_⟩ | refine bd1 ?_ | refine bd2 ?_ | refine bdR ?_ | refine bdL ?_ | refine ⟨rfl, ?_⟩ | refine ⟨congrArg (Value.int _) (by omega), ?_⟩); (conv => whnf))
        | (refine And.intro ?_ ?_; rotate_left; (conv => whnf); rotate_right))
      all_goals first | rfl | omega | (rw [s0]; rfl) | trace_state
    · intro k hk N hN hE hT
      have hb1 := s2 k
      by_cases hlt : k < w.players.length
      · have hs := s3 k hlt
        have hs' : S (k + 1) = S k + ((elt .player w.players ((k : Nat) : Int).toNat).bag.length + (elt .player w.players ((k : Nat) : Int).toNat).offer.length) := hs
        have hb2 := s2 (k + 1)
        conv => whnf
        repeat' (first
          | exact trivial
          | ((first | refine i64L ?_ | refine u64L ?_ | refine u8L ?_); (conv => whnf))
          | ((refine ⟨fun hb => ?_, fun hb => ?_⟩) <;> (try simp only [nrm] at hb) <;> (first | (exfalso; omega) | contradiction | exact (tfF hb (by assumption)).elim | exact (ftF hb (by assumption)).elim | (conv => whnf)))
          | ((first | refine Draws.of cfg_ok (by kernel_rfl) ?_ | refine ⟨(by kernel_rfl : confB _ _ _ _ _ = true), ?_⟩ | refine bd1 ?_ | refine bd2 ?_ | refine bdR ?_ | refine bdL ?_ | refine ⟨rfl, ?_⟩ | refine ⟨congrArg (Value.int _) (by omega), ?_⟩); (conv => whnf))
          | (refine And.intro ?_ ?_; rotate_left; (conv => whnf); rotate_right))
        refine hN _ _ ?_
        conv => whnf
        refine .to (k + 1) (by omega) (by omega) ?_
        conv => whnf
        repeat' (first
          | exact trivial
          | ((first | refine i64L ?_ | refine u64L ?_ | refine u8L ?_); (conv => whnf))
          | ((refine ⟨fun hb => ?_, fun hb => ?_⟩) <;> (try simp only [nrm] at hb) <;> (first | (exfalso; omega) | contradiction | exact (tfF hb (by assumption)).elim | exact (ftF hb (by assumption)).elim | (conv => whnf)))
          | ((first | refine Draws.of cfg_ok (by kernel_rfl) ?_ | refine ⟨(by kernel_rfl : confB _ _ _ _ _ = true), ?_⟩ | refine bd1 ?_ | refine bd2 ?_ | refine bdR ?_ | refine bdL ?_ | refine ⟨rfl, ?_⟩ | refine ⟨congrArg (Value.int _) (by omega), ?_⟩); (conv => whnf))
          | (refine And.intro ?_ ?_; rotate_left; (conv => whnf); rotate_right))
        all_goals first | rfl | omega | (refine congrArg (Value.int .i64) ?_; omega) | trace_state
      · obtain rfl : k = w.players.length := by omega
        conv => whnf
        repeat' (first
          | exact trivial
          | ((first | refine i64L ?_ | refine u64L ?_ | refine u8L ?_); (conv => whnf))
          | ((refine ⟨fun hb => ?_, fun hb => ?_⟩) <;> (try simp only [nrm] at hb) <;> (first | (exfalso; omega) | contradiction | exact (tfF hb (by assumption)).elim | exact (ftF hb (by assumption)).elim | (conv => whnf)))
          | ((first | refine Draws.of cfg_ok (by kernel_rfl) ?_ | refine ⟨(by kernel_rfl : confB _ _ _ _ _ = true), ?_⟩ | refine bd1 ?_ | refine bd2 ?_ | refine bdR ?_ | refine bdL ?_ | refine ⟨rfl, ?_⟩ | refine ⟨congrArg (Value.int _) (by omega), ?_⟩); (conv => whnf))
          | (refine And.intro ?_ ?_; rotate_left; (conv => whnf); rotate_right))
        refine hE _ _ _ ?_
        conv => whnf
        repeat' (first
          | exact trivial
          | ((first | refine i64L ?_ | refine u64L ?_ | refine u8L ?_); (conv => whnf))
          | ((refine ⟨fun hb => ?_, fun hb => ?_⟩) <;> (try simp only [nrm] at hb) <;> (first | (exfalso; omega) | contradiction | exact (tfF hb (by assumption)).elim | exact (ftF hb (by assumption)).elim | (conv => whnf)))
          | ((first | refine Draws.of cfg_ok (by kernel_rfl) ?_ | refine ⟨(by kernel_rfl : confB _ _ _ _ _ = true), ?_⟩ | refine bd1 ?_ | refine bd2 ?_ | refine bdR ?_ | refine bdL ?_ | refine ⟨rfl, ?_⟩ | refine ⟨congrArg (Value.int _) (by omega), ?_⟩); (conv => whnf))
          | (refine And.intro ?_ ?_; rotate_left; (conv => whnf); rotate_right))
        refine Runs.loopQ cfg_ok (σ := Nat) [1, 3, 33, 34, 35] (fun k => [.ptr 2 0, i64 (T k), .vec .chunk w.chunks, i64 w.chunks.length, i64 k]) (fun _ => [(2, .box (wldC w))]) (fun k => k ≤ w.chunks.length) (fun k => w.chunks.length - k) 0 (by omega) ?_ ?_
        · conv => whnf
          repeat' (first
            | exact trivial
            | ((first | refine i64L ?_ | refine u64L ?_ | refine u8L ?_); (conv => whnf))
            | ((refine ⟨fun hb => ?_, fun hb => ?_⟩) <;> (try simp only [nrm] at hb) <;> (first | (exfalso; omega) | contradiction | exact (tfF hb (by assumption)).elim | exact (ftF hb (by assumption)).elim | (conv => whnf)))
            | ((first | refine Draws.of cfg_ok (by kernel_rfl) ?_ | refine ⟨(by kernel_rfl : confB _ _ _ _ _ = true), ?_⟩ | refine bd1 ?_ | refine bd2 ?_ | refine bdR ?_ | refine bdL ?_ | refine ⟨rfl, ?_⟩ | refine ⟨congrArg (Value.int _) (by omega), ?_⟩); (conv => whnf))
            | (refine And.intro ?_ ?_; rotate_left; (conv => whnf); rotate_right))
          all_goals first | rfl | omega | (refine congrArg (Value.int .i64) ?_; omega) | trace_state
        · intro k hk N2 hN2 hE2 hT2
          have hb3 := t2 k
          by_cases hlt2 : k < w.chunks.length
          · have hs := t3 k hlt2
            have hs' : T (k + 1) = T k + ((elt .chunk w.chunks ((k : Nat) : Int).toNat).heaps.length + 6 * (elt .chunk w.chunks ((k : Nat) : Int).toNat).boxes.length) := hs
            have hb2 := t2 (k + 1)
            conv => whnf
            repeat' (first
              | exact trivial
              | ((first | refine i64L ?_ | refine u64L ?_ | refine u8L ?_); (conv => whnf))
              | ((refine ⟨fun hb => ?_, fun hb => ?_⟩) <;> (try simp only [nrm] at hb) <;> (first | (exfalso; omega) | contradiction | exact (tfF hb (by assumption)).elim | exact (ftF hb (by assumption)).elim | (conv => whnf)))
              | ((first | refine Draws.of cfg_ok (by kernel_rfl) ?_ | refine ⟨(by kernel_rfl : confB _ _ _ _ _ = true), ?_⟩ | refine bd1 ?_ | refine bd2 ?_ | refine bdR ?_ | refine bdL ?_ | refine ⟨rfl, ?_⟩ | refine ⟨congrArg (Value.int _) (by omega), ?_⟩); (conv => whnf))
              | (refine And.intro ?_ ?_; rotate_left; (conv => whnf); rotate_right))
            refine hN2 _ _ ?_
            conv => whnf
            refine .to (k + 1) (by omega) (by omega) ?_
            conv => whnf
            repeat' (first
              | exact trivial
              | ((first | refine i64L ?_ | refine u64L ?_ | refine u8L ?_); (conv => whnf))
              | ((refine ⟨fun hb => ?_, fun hb => ?_⟩) <;> (try simp only [nrm] at hb) <;> (first | (exfalso; omega) | contradiction | exact (tfF hb (by assumption)).elim | exact (ftF hb (by assumption)).elim | (conv => whnf)))
              | ((first | refine Draws.of cfg_ok (by kernel_rfl) ?_ | refine ⟨(by kernel_rfl : confB _ _ _ _ _ = true), ?_⟩ | refine bd1 ?_ | refine bd2 ?_ | refine bdR ?_ | refine bdL ?_ | refine ⟨rfl, ?_⟩ | refine ⟨congrArg (Value.int _) (by omega), ?_⟩); (conv => whnf))
              | (refine And.intro ?_ ?_; rotate_left; (conv => whnf); rotate_right))
            all_goals first | rfl | omega | (refine congrArg (Value.int .i64) ?_; omega) | trace_state
          · obtain rfl : k = w.chunks.length := by omega
            generalize T w.chunks.length = M at *
            have c1' : elt .i64 C (0 : Int).toNat = (0 : Int) := c1
            conv => whnf
            repeat' (first
              | exact trivial
              | ((first | refine i64L ?_ | refine u64L ?_ | refine u8L ?_); (conv => whnf))
              | ((refine ⟨fun hb => ?_, fun hb => ?_⟩) <;> (try simp only [nrm] at hb) <;> (first | (exfalso; omega) | contradiction | exact (tfF hb (by assumption)).elim | exact (ftF hb (by assumption)).elim | (conv => whnf)))
              | ((first | refine Draws.of cfg_ok (by kernel_rfl) ?_ | refine ⟨(by kernel_rfl : confB _ _ _ _ _ = true), ?_⟩ | refine bd1 ?_ | refine bd2 ?_ | refine bdR ?_ | refine bdL ?_ | refine ⟨rfl, ?_⟩ | refine ⟨congrArg (Value.int _) (by omega), ?_⟩); (conv => whnf))
              | (refine And.intro ?_ ?_; rotate_left; (conv => whnf); rotate_right))
            refine hE2 _ _ _ ?_
            conv => whnf
            repeat' (first
              | exact trivial
              | ((first | refine i64L ?_ | refine u64L ?_ | refine u8L ?_); (conv => whnf))
              | ((refine ⟨fun hb => ?_, fun hb => ?_⟩) <;> (try simp only [nrm] at hb) <;> (first | (exfalso; omega) | contradiction | exact (tfF hb (by assumption)).elim | exact (ftF hb (by assumption)).elim | (conv => whnf)))
              | ((first | (refine callApi (hcn) rfl rfl ?_) | (refine callApiD (hcn) rfl rfl ?_) | refine Draws.of cfg_ok (by kernel_rfl) ?_ | refine ⟨(by kernel_rfl : confB _ _ _ _ _ = true), ?_⟩ | refine bd1 ?_ | refine bd2 ?_ | refine bdR ?_ | refine bdL ?_ | refine ⟨rfl, ?_⟩ | refine ⟨congrArg (Value.int _) (by omega), ?_⟩); (conv => whnf))
              | (refine And.intro ?_ ?_; rotate_left; (conv => whnf); rotate_right))
            refine Runs.loopQ cfg_ok (σ := Nat) [3, 9, 61, 62, 63] (fun i => [i64 M, i64 (U i), .vec .i64 C, i64 C.length, i64 i]) (fun _ => []) (fun i => i ≤ 13) (fun i => 13 - i) 0 (by omega) ?_ ?_
            · conv => whnf
              repeat' (first
                | exact trivial
                | ((first | refine i64L ?_ | refine u64L ?_ | refine u8L ?_); (conv => whnf))
                | ((refine ⟨fun hb => ?_, fun hb => ?_⟩) <;> (try simp only [nrm] at hb) <;> (first | (exfalso; omega) | contradiction | exact (tfF hb (by assumption)).elim | exact (ftF hb (by assumption)).elim | (conv => whnf)))
                | ((first | refine Draws.of cfg_ok (by kernel_rfl) ?_ | refine ⟨(by kernel_rfl : confB _ _ _ _ _ = true), ?_⟩ | refine bd1 ?_ | refine bd2 ?_ | refine bdR ?_ | refine bdL ?_ | refine ⟨rfl, ?_⟩ | refine ⟨congrArg (Value.int _) (by omega), ?_⟩); (conv => whnf))
                | (refine And.intro ?_ ?_; rotate_left; (conv => whnf); rotate_right))
              all_goals first | rfl | omega | (rw [u0]; rfl) | trace_state
            · intro i hi N3 hN3 hE3 hT3
              have hui := u2 i
              by_cases hli : i < 13
              · have hst := stack_api (i : Int) (by omega) (by omega)
                have hbi : inN (M * stackN (i : Int)) (elt .i64 C ((i : Nat) : Int).toNat) := c2 i hli
                have hsk := stackN_bd (i : Int)
                have hms : M * stackN (i : Int) ≤ M * 16 := Int.mul_le_mul_of_nonneg_left hsk.2 (by omega)
                have hms0 : 0 ≤ M * stackN (i : Int) := Int.mul_nonneg (by omega) hsk.1
                have hu3 := u3 i
                have hu4 := u4 i
                have hci : elt .i64 C ((i : Nat) : Int).toNat = elt .i64 C i := rfl
                unfold inN at hbi
                have hn1 : ¬ (elt .i64 C i < (0 : Int)) := Int.not_lt.2 (c2 i hli).1
                have hn2 : ¬ ((M : Int) * stackN (i : Int) < elt .i64 C i) := Int.not_lt.2 (c2 i hli).2
                by_cases hp : (0 : Int) < elt .i64 C i
                · have hu := hu3 hp
                  have hp' : (0 : Int) < elt .i64 C ((i : Nat) : Int).toNat := hp
                  have hp2 : ¬ (elt .i64 C i ≤ (0 : Int)) := Int.not_le.2 hp
                  conv => whnf
                  repeat' (first
                    | exact trivial
                    | ((first | refine i64L ?_ | refine u64L ?_ | refine u8L ?_); (conv => whnf))
                    | ((refine ⟨fun hb => ?_, fun hb => ?_⟩) <;> (try simp only [nrm] at hb) <;> (first | (exfalso; omega) | contradiction | exact (tfF hb (by assumption)).elim | exact (ftF hb (by assumption)).elim | (conv => whnf)))
                    | ((first | (refine callApi (hst) rfl rfl ?_) | (refine callApiD (hst) rfl rfl ?_) | refine Draws.of cfg_ok (by kernel_rfl) ?_ | refine ⟨(by kernel_rfl : confB _ _ _ _ _ = true), ?_⟩ | refine bd1 ?_ | refine bd2 ?_ | refine bdR ?_ | refine bdL ?_ | refine ⟨rfl, ?_⟩ | refine ⟨congrArg (Value.int _) (by omega), ?_⟩); (conv => whnf))
                    | (refine And.intro ?_ ?_; rotate_left; (conv => whnf); rotate_right))
                  refine hN3 _ _ ?_
                  conv => whnf
                  refine .to (i + 1) (by omega) (by omega) ?_
                  conv => whnf
                  repeat' (first
                    | exact trivial
                    | ((first | refine i64L ?_ | refine u64L ?_ | refine u8L ?_); (conv => whnf))
                    | ((refine ⟨fun hb => ?_, fun hb => ?_⟩) <;> (try simp only [nrm] at hb) <;> (first | (exfalso; omega) | contradiction | exact (tfF hb (by assumption)).elim | exact (ftF hb (by assumption)).elim | (conv => whnf)))
                    | ((first | refine Draws.of cfg_ok (by kernel_rfl) ?_ | refine ⟨(by kernel_rfl : confB _ _ _ _ _ = true), ?_⟩ | refine bd1 ?_ | refine bd2 ?_ | refine bdR ?_ | refine bdL ?_ | refine ⟨rfl, ?_⟩ | refine ⟨congrArg (Value.int _) (by omega), ?_⟩); (conv => whnf))
                    | (refine And.intro ?_ ?_; rotate_left; (conv => whnf); rotate_right))
                  all_goals first | rfl | omega | (refine congrArg (Value.int .i64) ?_; omega) | trace_state
                · have hu := hu4 hp
                  have hp' : ¬ (0 : Int) < elt .i64 C ((i : Nat) : Int).toNat := hp
                  conv => whnf
                  repeat' (first
                    | exact trivial
                    | ((first | refine i64L ?_ | refine u64L ?_ | refine u8L ?_); (conv => whnf))
                    | ((refine ⟨fun hb => ?_, fun hb => ?_⟩) <;> (try simp only [nrm] at hb) <;> (first | (exfalso; omega) | contradiction | exact (tfF hb (by assumption)).elim | exact (ftF hb (by assumption)).elim | (conv => whnf)))
                    | ((first | (refine callApi (hst) rfl rfl ?_) | (refine callApiD (hst) rfl rfl ?_) | refine Draws.of cfg_ok (by kernel_rfl) ?_ | refine ⟨(by kernel_rfl : confB _ _ _ _ _ = true), ?_⟩ | refine bd1 ?_ | refine bd2 ?_ | refine bdR ?_ | refine bdL ?_ | refine ⟨rfl, ?_⟩ | refine ⟨congrArg (Value.int _) (by omega), ?_⟩); (conv => whnf))
                    | (refine And.intro ?_ ?_; rotate_left; (conv => whnf); rotate_right))
                  refine hN3 _ _ ?_
                  conv => whnf
                  refine .to (i + 1) (by omega) (by omega) ?_
                  conv => whnf
                  repeat' (first
                    | exact trivial
                    | ((first | refine i64L ?_ | refine u64L ?_ | refine u8L ?_); (conv => whnf))
                    | ((refine ⟨fun hb => ?_, fun hb => ?_⟩) <;> (try simp only [nrm] at hb) <;> (first | (exfalso; omega) | contradiction | exact (tfF hb (by assumption)).elim | exact (ftF hb (by assumption)).elim | (conv => whnf)))
                    | ((first | refine Draws.of cfg_ok (by kernel_rfl) ?_ | refine ⟨(by kernel_rfl : confB _ _ _ _ _ = true), ?_⟩ | refine bd1 ?_ | refine bd2 ?_ | refine bdR ?_ | refine bdL ?_ | refine ⟨rfl, ?_⟩ | refine ⟨congrArg (Value.int _) (by omega), ?_⟩); (conv => whnf))
                    | (refine And.intro ?_ ?_; rotate_left; (conv => whnf); rotate_right))
                  all_goals first | rfl | omega | (refine congrArg (Value.int .i64) ?_; omega) | trace_state
              · obtain rfl : i = 13 := by omega
                conv => whnf
                repeat' (first
                  | exact trivial
                  | ((first | refine i64L ?_ | refine u64L ?_ | refine u8L ?_); (conv => whnf))
                  | ((refine ⟨fun hb => ?_, fun hb => ?_⟩) <;> (try simp only [nrm] at hb) <;> (first | (exfalso; omega) | contradiction | exact (tfF hb (by assumption)).elim | exact (ftF hb (by assumption)).elim | (conv => whnf)))
                  | ((first | refine Draws.of cfg_ok (by kernel_rfl) ?_ | refine ⟨(by kernel_rfl : confB _ _ _ _ _ = true), ?_⟩ | refine bd1 ?_ | refine bd2 ?_ | refine bdR ?_ | refine bdL ?_ | refine ⟨rfl, ?_⟩ | refine ⟨congrArg (Value.int _) (by omega), ?_⟩); (conv => whnf))
                  | (refine And.intro ?_ ?_; rotate_left; (conv => whnf); rotate_right))
                refine hE3 _ _ _ ?_
                conv => whnf
                repeat' (first
                  | exact trivial
                  | ((first | refine i64L ?_ | refine u64L ?_ | refine u8L ?_); (conv => whnf))
                  | ((refine ⟨fun hb => ?_, fun hb => ?_⟩) <;> (try simp only [nrm] at hb) <;> (first | (exfalso; omega) | contradiction | exact (tfF hb (by assumption)).elim | exact (ftF hb (by assumption)).elim | (conv => whnf)))
                  | ((first | (refine callApi (haw) rfl rfl ?_) | (refine callApiD (haw) rfl rfl ?_) | refine Draws.of cfg_ok (by kernel_rfl) ?_ | refine ⟨(by kernel_rfl : confB _ _ _ _ _ = true), ?_⟩ | refine bd1 ?_ | refine bd2 ?_ | refine bdR ?_ | refine bdL ?_ | refine ⟨rfl, ?_⟩ | refine ⟨congrArg (Value.int _) (by omega), ?_⟩); (conv => whnf))
                  | (refine And.intro ?_ ?_; rotate_left; (conv => whnf); rotate_right))
                all_goals first | rfl | omega | trace_state

end Go.Proofs.Ytelgmmcnopjolaa
