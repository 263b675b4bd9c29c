
/- THE BRIDGE: what an argument of the stated form stands for among abstract values; from a function of data that answers true to the stated row. No dump is named here. -/
import Derived.Test.YtdbnihckckekcaaEv4
import Derived.ProofKit
import Derived.HandedShaped
import Derived.Carry
import Derived.OpenShut
set_option linter.unusedSimpArgs false
set_option linter.unusedVariables false
namespace Eng
open Go Go.RowKit Go.ChangeShapes Go.WideShapes

/-- Nothing is owned; nobody writes what there is. -/
def g0 (W : World) : G := { ro := fun b => b < W.heap.size, no := fun _ => False, al := fun _ => False, be := id, sz := id }
theorem msim0 (W : World) : MSim W (g0 W) 0 (mget []) :=
  ⟨fun k => by simp [g0, mget], fun k hk => hk.elim, fun k hk => hk.elim, fun k j hk => hk.elim, fun k b hb => by simp [mget] at hb, fun b hb => hb, fun b hb => hb.elim⟩

/-- How the cells of a type read: 'cs' are the abstract cells of a datum, 'ok' is what the reading gives of it. -/
def Reads (P : Program) (t : TypeId) (n : Nat) {α : Type} (cs : α → List AV) (ok : α → Prop) : Prop :=
  P.cellsOf t = n ∧ (∀ a, (cs a).length = n) ∧ ∀ (W : World) (H : Type) (enc : TypeId × Value → H) (fuel : Nat) (xs : List Value) (x : DataW H × List MemPlace),
    DataW.trod enc P W 0 (fun _ => true) true fuel t xs = some x → (∀ k ∈ x.1.weights P t, k ≤ reachBytes) →
    xs.length = n ∧ ∃ a, ok a ∧ ∀ (i : Nat) c y, (cs a)[i]? = some c → xs[i]? = some y → Rep W (g0 W) 0 c y

theorem get_one {β : Type} {a c : β} {i : Nat} (h : [a][i]? = some c) : c = a := by
  cases i with
  | zero => simpa using h.symm
  | succ i => simp at h

theorem reads_int {P : Program} {t : TypeId} {k : IntKind} (ht : P.underlying t = some (.int k)) (hc : P.cellsOf t = 1) : Reads P t 1 (fun n : Int => [.lit (.int k n)]) (fun n => k.min ≤ n ∧ n ≤ k.max) := by
  refine ⟨hc, fun _ => rfl, fun W H enc fuel xs x h _ => ?_⟩
  obtain ⟨n, rfl, _, hw⟩ := DataW.trod_int ht h
  refine ⟨rfl, n, by simpa [Lit.wf] using hw, fun i c y h1 h2 => ?_⟩
  rw [get_one h1, get_one h2]; exact .lit _

theorem reads_bool {P : Program} {t : TypeId} (ht : P.underlying t = some .bool) (hc : P.cellsOf t = 1) : Reads P t 1 (fun b : Bool => [.lit (.bool b)]) (fun _ => True) := by
  refine ⟨hc, fun _ => rfl, fun W H enc fuel xs x h _ => ?_⟩
  obtain ⟨b, rfl, _⟩ := DataW.trod_bool ht h
  refine ⟨rfl, b, trivial, fun i c y h1 h2 => ?_⟩
  rw [get_one h1, get_one h2]; exact .lit _

theorem reads_map {P : Program} {t : TypeId} {n : Nat} {α β : Type} {cs : α → List AV} {ok : α → Prop} (h : Reads P t n cs ok) {cs' : β → List AV} {ok' : β → Prop} (f : α → β) (hl : ∀ b, (cs' b).length = n)
    (hf : ∀ a, cs' (f a) = cs a) (ho : ∀ a, ok a → ok' (f a)) : Reads P t n cs' ok' := by
  refine ⟨h.1, hl, fun W H enc fuel xs x hx hw => ?_⟩
  obtain ⟨h1, a, h2, h3⟩ := h.2.2 W H enc fuel xs x hx hw
  exact ⟨h1, f a, ho a h2, by rw [hf]; exact h3⟩

/-- Fields one behind the other. -/
def ReadsFs (P : Program) (fs : List Field) (off : Nat) (n : Nat) {α : Type} (cs : α → List AV) (ok : α → Prop) : Prop :=
  (∀ a, (cs a).length = n) ∧ ∀ (W : World) (H : Type) (enc : TypeId × Value → H) (fuel : Nat) (xs : List Value) (ys : List (DataW H × List MemPlace)), ys.length = fs.length →
    (∀ (i : Nat) (f : Field), fs[i]? = some f → DataW.trod enc P W 0 (fun _ => true) true fuel f.type ((xs.drop f.offset).take (P.cellsOf f.type)) = ys[i]?) →
    (∀ k ∈ DataW.weightsEach P (fs.map (·.type)) (ys.map (·.1)), k ≤ reachBytes) →
    ∃ a, ok a ∧ ∀ (i : Nat) c y, (cs a)[i]? = some c → xs[off + i]? = some y → Rep W (g0 W) 0 c y

theorem readsFs_nil (P : Program) (off : Nat) : ReadsFs P [] off 0 (fun _ : Unit => []) (fun _ => True) :=
  ⟨fun _ => rfl, fun _ _ _ _ _ _ _ _ _ => ⟨(), trivial, fun i c y h => by simp at h⟩⟩

theorem readsFs_cons {P : Program} {f : Field} {fs : List Field} {off n1 n2 : Nat} {α β : Type} {cs1 : α → List AV} {ok1 : α → Prop} {cs2 : β → List AV} {ok2 : β → Prop}
    (h1 : Reads P f.type n1 cs1 ok1) (ho : f.offset = off) (h2 : ReadsFs P fs (off + n1) n2 cs2 ok2) : ReadsFs P (f :: fs) off (n1 + n2) (fun p : α × β => cs1 p.1 ++ cs2 p.2) (fun p => ok1 p.1 ∧ ok2 p.2) := by
  refine ⟨fun p => by rw [List.length_append, h1.2.1, h2.1], fun W H enc fuel xs ys hl hall hw => ?_⟩
  obtain ⟨y, ys, rfl⟩ : ∃ y r, ys = y :: r := by
    cases ys with
    | nil => simp at hl
    | cons y r => exact ⟨y, r, rfl⟩
  have h0 := hall 0 f rfl
  simp only [List.getElem?_cons_zero] at h0
  simp only [List.map_cons, DataW.weightsEach, List.mem_append] at hw
  obtain ⟨k1, a, k2, k3⟩ := h1.2.2 W H enc fuel _ y h0 fun k hk => hw k (.inl hk)
  obtain ⟨b, k4, k5⟩ := h2.2 W H enc fuel xs ys (by simpa using hl) (fun i g hg => by simpa using hall (i + 1) g (by simpa using hg)) fun k hk => hw k (.inr hk)
  refine ⟨(a, b), ⟨k2, k4⟩, fun i c y hc hy => ?_⟩
  simp only at hc
  by_cases hi : i < n1
  · rw [List.getElem?_append_left (by rw [h1.2.1]; exact hi)] at hc
    refine k3 i c y hc ?_
    rw [List.getElem?_take_of_lt (by rw [h1.1]; exact hi), List.getElem?_drop, ho]; exact hy
  · rw [List.getElem?_append_right (by rw [h1.2.1]; omega), h1.2.1] at hc
    refine k5 (i - n1) c y hc ?_
    rw [show off + n1 + (i - n1) = off + i by omega]; exact hy

theorem reads_struct {P : Program} {t : TypeId} {fs : Array Field} {n : Nat} {α : Type} {cs : α → List AV} {ok : α → Prop} (ht : P.underlying t = some (.struct fs)) (hc : P.cellsOf t = n) (h : ReadsFs P fs.toList 0 n cs ok) : Reads P t n cs ok := by
  refine ⟨hc, h.1, fun W H enc fuel xs x hx hw => ?_⟩
  obtain ⟨ys, m, rfl, rfl, hl, hn, hall⟩ := DataW.trod_struct ht hx
  simp only [DataW.weights, ht] at hw
  obtain ⟨a, h1, h2⟩ := h.2 W H enc m xs ys (by simpa using hn) (fun i f hf => hall i f (by simpa using hf)) hw
  exact ⟨by rw [hl, hc], a, h1, fun i c y h3 h4 => h2 i c y h3 (by rw [Nat.zero_add]; exact h4)⟩

/-- Fields by their types and places. -/
def ReadsL (P : Program) (L : List (TypeId × Nat)) (off : Nat) (n : Nat) {α : Type} (cs : α → List AV) (ok : α → Prop) : Prop :=
  ∀ fs : List Field, fs.map (fun f => (f.type, f.offset)) = L → ReadsFs P fs off n cs ok
theorem readsL_nil (P : Program) (off : Nat) : ReadsL P [] off 0 (fun _ : Unit => []) (fun _ => True) := by
  intro fs h
  cases fs with
  | nil => exact readsFs_nil P off
  | cons f fs => simp at h
theorem readsL_cons {P : Program} {t : TypeId} {L : List (TypeId × Nat)} {off n1 n2 : Nat} {α β : Type} {cs1 : α → List AV} {ok1 : α → Prop} {cs2 : β → List AV} {ok2 : β → Prop}
    (h1 : Reads P t n1 cs1 ok1) (h2 : ReadsL P L (off + n1) n2 cs2 ok2) : ReadsL P ((t, off) :: L) off (n1 + n2) (fun p : α × β => cs1 p.1 ++ cs2 p.2) (fun p => ok1 p.1 ∧ ok2 p.2) := by
  intro fs h
  cases fs with
  | nil => simp at h
  | cons f fs =>
    simp only [List.map_cons, List.cons.injEq, Prod.mk.injEq] at h
    obtain ⟨⟨rfl, ho⟩, h⟩ := h
    exact readsFs_cons h1 ho (h2 fs h)
theorem reads_structL {P : Program} {t : TypeId} {fs : Array Field} {L : List (TypeId × Nat)} {n : Nat} {α : Type} {cs : α → List AV} {ok : α → Prop} (ht : P.underlying t = some (.struct fs)) (hL : fs.toList.map (fun f => (f.type, f.offset)) = L) (hc : P.cellsOf t = n) (h : ReadsL P L 0 n cs ok) : Reads P t n cs ok :=
  reads_struct ht hc (h _ hL)

theorem mem_weightsAll {H : Type} {P : Program} {e : TypeId} {l : List (DataW H)} {d : DataW H} (hd : d ∈ l) {k : Nat} (hk : k ∈ d.weights P e) : k ∈ DataW.weightsAll P e l := by
  induction l with
  | nil => simp at hd
  | cons a r ih =>
    simp only [DataW.weightsAll, List.mem_append]
    rcases List.mem_cons.1 hd with rfl | hd
    · exact .inl hk
    · exact .inr (ih hd)

/-- An array of two. -/
theorem reads_array2 {P : Program} {t e : TypeId} {α : Type} {cs : α → List AV} {ok : α → Prop} (ht : P.underlying t = some (.array 2 e)) (hc : P.cellsOf t = 2) (h : Reads P e 1 cs ok) :
    Reads P t 2 (fun p : α × α => cs p.1 ++ cs p.2) (fun p => ok p.1 ∧ ok p.2) := by
  refine ⟨hc, fun p => by rw [List.length_append, h.2.1, h.2.1], fun W H enc fuel xs x hx hw => ?_⟩
  obtain ⟨ys, m, rfl, rfl, hl, hn, hall⟩ := DataW.trod_array ht hx
  obtain ⟨y0, y1, rfl⟩ : ∃ y0 y1, ys = [y0, y1] := by
    match ys, hn with
    | [a, b], _ => exact ⟨a, b, rfl⟩
  simp only [DataW.weights, ht, List.map_cons, List.map_nil] at hw
  have e0 := hall 0 (by omega)
  have e1 := hall 1 (by omega)
  simp only [List.getElem?_cons_zero, List.getElem?_cons_succ] at e0 e1
  obtain ⟨_, a, k2, k3⟩ := h.2.2 W H enc m _ y0 e0 fun k hk => hw k (mem_weightsAll (by simp) hk)
  obtain ⟨_, b, k4, k5⟩ := h.2.2 W H enc m _ y1 e1 fun k hk => hw k (mem_weightsAll (by simp) hk)
  refine ⟨by rw [hl, hc], (a, b), ⟨k2, k4⟩, fun i c y hcc hy => ?_⟩
  simp only at hcc
  have la := h.2.1 a
  have lb := h.2.1 b
  have hi : i < 2 := by
    have := (List.getElem?_eq_some_iff.1 hcc).1
    rw [List.length_append, la, lb] at this
    exact this
  match i, hi with
  | 0, _ =>
    rw [List.getElem?_append_left (by omega)] at hcc
    refine k3 0 c y hcc ?_
    rw [List.getElem?_take_of_lt (by rw [h.1]; omega), List.getElem?_drop]; simpa using hy
  | 1, _ =>
    rw [List.getElem?_append_right (by omega), la] at hcc
    refine k5 0 c y hcc ?_
    rw [List.getElem?_take_of_lt (by rw [h.1]; omega), List.getElem?_drop, h.1]; simpa using hy

theorem weightsEach_all {H : Type} {P : Program} {e : TypeId} : ∀ (ts : List TypeId) (l : List (DataW H)), (∀ t ∈ ts, t = e) → ∀ k ∈ DataW.weightsEach P ts l, k ∈ DataW.weightsAll P e l
  | [], l, _, k, hk => by simp [DataW.weightsEach] at hk
  | t :: ts, [], _, k, hk => by simp [DataW.weightsEach] at hk
  | t :: ts, d :: l, h, k, hk => by
    simp only [DataW.weightsEach, DataW.weightsAll, List.mem_append] at hk ⊢
    rw [h t (by simp)] at hk
    rcases hk with hk | hk
    · exact .inl hk
    · exact .inr (weightsEach_all ts l (fun x hx => h x (by simp [hx])) k hk)
/-- An array, part by part. -/
theorem reads_arrayL {P : Program} {t e : TypeId} {n m : Nat} {α : Type} {cs : α → List AV} {ok : α → Prop} (ht : P.underlying t = some (.array n e)) (hc : P.cellsOf t = m)
    (h : ReadsL P ((List.range n).map fun i => (e, i * P.cellsOf e)) 0 m cs ok) : Reads P t m cs ok := by
  let mk : Nat → Field := fun i => ⟨"", e, i * P.cellsOf e, false, "", "", 0⟩
  have hF := h ((List.range n).map mk) (by simp [mk])
  refine ⟨hc, hF.1, fun W H enc fuel xs x hx hw => ?_⟩
  obtain ⟨ys, k, rfl, rfl, hl, hn, hall⟩ := DataW.trod_array ht hx
  simp only [DataW.weights, ht] at hw
  obtain ⟨a, h1, h2⟩ := hF.2 W H enc k xs ys (by simp [hn]) (fun i f hf => by
    rw [List.getElem?_map] at hf
    cases hr : (List.range n)[i]? with
    | none => rw [hr] at hf; cases hf
    | some j =>
      rw [hr] at hf
      have hj := (List.getElem?_eq_some_iff.1 hr)
      obtain ⟨hj1, hj2⟩ := hj
      rw [List.getElem_range] at hj2
      subst hj2
      cases hf
      exact hall i (by simpa using hj1)) (fun q hq => hw q (weightsEach_all _ _ (by simp [mk]) q hq))
  exact ⟨by rw [hl, hc], a, h1, fun i c y h3 h4 => h2 i c y h3 (by rw [Nat.zero_add]; exact h4)⟩

theorem pickAll {β γ : Type} (f : Nat → Option β) (R : β → γ → Prop) (p : γ → Prop) : ∀ n : Nat, (∀ i, i < n → ∃ b c, f i = some b ∧ R b c ∧ p c) → ∃ l : List γ, l.length = n ∧ (∀ c ∈ l, p c) ∧ ∀ (i : Nat) c, l[i]? = some c → ∃ b, f i = some b ∧ R b c
  | 0, _ => ⟨[], rfl, by simp, by simp⟩
  | n + 1, h => by
    obtain ⟨l, h1, h2, h3⟩ := pickAll f R p n fun i hi => h i (by omega)
    obtain ⟨b, c, h4, h5, h6⟩ := h n (by omega)
    refine ⟨l ++ [c], by simp [h1], fun d hd => ?_, fun i d hd => ?_⟩
    · rcases List.mem_append.1 hd with hd | hd
      · exact h2 d hd
      · simp at hd; subst hd; exact h6
    · by_cases hi : i < n
      · rw [List.getElem?_append_left (by omega)] at hd
        exact h3 i d hd
      · rw [List.getElem?_append_right (by omega)] at hd
        have := get_one hd
        subst this
        have : i = n := by
          have := (List.getElem?_eq_some_iff.1 hd).1
          simp at this; omega
        subst this
        exact ⟨b, h4, h5⟩

/-- A slice of what reads. -/
theorem reads_slice {P : Program} {t e : TypeId} (ty : Ty) {ok : El ty → Prop} (ht : P.underlying t = some (.slice e)) (hc : P.cellsOf t = 1) (hz : P.bytesOf e = bsz ty) (h : Reads P e (csz ty) (cells ty) ok) :
    Reads P t 1 (fun l : List (El ty) => [.vec ty l]) (fun l => (∀ a ∈ l, ok a) ∧ l.length * bsz ty ≤ 140737488351232) := by
  refine ⟨hc, fun _ => rfl, fun W H enc fuel xs x hx hw => ?_⟩
  rcases DataW.trod_slice ht hx with ⟨rfl, rfl⟩ | ⟨a, len, cap, elems, rest, n, rfl, rfl, rfl, _, hlc, _, hel, hall, _, _⟩
  · refine ⟨rfl, [], ⟨by simp, by simp⟩, fun i c y h1 h2 => ?_⟩
    rw [get_one h1, get_one h2]; exact .vecE _ _ _
  · simp only [DataW.weights, ht, List.mem_cons, List.mem_append] at hw
    rcases Nat.eq_zero_or_pos len with h0 | h0
    · subst h0
      refine ⟨rfl, [], ⟨by simp, by simp⟩, fun i c y h1 h2 => ?_⟩
      rw [get_one h1, get_one h2]; exact .vecE _ _ _
    · have hcs := csz_pos ty
      have key : ∀ i, i < len → ∃ (b : List Value) (c : El ty), W.cells? 0 (a.add (i * P.cellsOf e)) (P.cellsOf e) = some b ∧
          (b.length = csz ty ∧ ∀ (j : Nat) cc y, (cells ty c)[j]? = some cc → b[j]? = some y → Rep W (g0 W) 0 cc y) ∧ ok c := by
        intro i hi
        have hb := hall i hi
        have hel' : elems[i]? = some elems[i] := List.getElem?_eq_getElem (by omega)
        rw [hel'] at hb
        cases hcell : W.cells? 0 (a.add (i * P.cellsOf e)) (P.cellsOf e) with
        | none => rw [hcell] at hb; cases hb
        | some b =>
          rw [hcell] at hb
          obtain ⟨k1, c, k2, k3⟩ := h.2.2 W H enc n b _ hb fun k hk => hw k (.inr (.inl (mem_weightsAll (List.mem_map.2 ⟨elems[i], List.getElem_mem _, rfl⟩) hk)))
          exact ⟨b, c, rfl, ⟨k1, k3⟩, k2⟩
      obtain ⟨l, hl, hok, hget⟩ := pickAll _ _ _ len key
      obtain ⟨bl, off, spot⟩ := a
      have hspot : spot = none := by
        obtain ⟨b, c, hb, ⟨hbl, _⟩, _⟩ := key 0 h0
        obtain ⟨_, hlen, hcell⟩ := World.cells?_some hb
        have g1 := hcell 0 (by rw [h.1]; omega)
        obtain ⟨v, hv⟩ : ∃ v, b[0]? = some v := ⟨b[0], List.getElem?_eq_getElem (by omega)⟩
        rw [hv] at g1
        simpa [Addr.add] using World.cell?_spot g1
      subst hspot
      have cellAt : ∀ (i : Nat) c, (flat ty l)[i]? = some c → ∃ y, W.cell? ⟨bl, off + i, none⟩ = some y ∧ Rep W (g0 W) 0 c y := by
        intro i c hi
        have hlt : i < l.length * csz ty := by
          have := (List.getElem?_eq_some_iff.1 hi).1
          rwa [flat_length] at this
        have hdm := Nat.div_add_mod i (csz ty)
        have hm := Nat.mod_lt i hcs
        have hq : i / csz ty < l.length := Nat.div_lt_of_lt_mul (by rw [Nat.mul_comm]; exact hlt)
        have hle := List.getElem?_eq_getElem hq
        have hf := flat_get ty l (i / csz ty) _ hle (i % csz ty) hm
        rw [Nat.mul_comm, hdm, hi] at hf
        obtain ⟨b, hb, hbl, hrep⟩ := hget _ _ hle
        obtain ⟨_, _, hcell⟩ := World.cells?_some hb
        have g1 := hcell (i % csz ty) (by rw [h.1]; exact hm)
        have hbv : b[i % csz ty]? = some (b[i % csz ty]'(by omega)) := List.getElem?_eq_getElem (by omega)
        rw [hbv, add_plain, add_plain, h.1] at g1
        refine ⟨_, ?_, hrep _ c _ hf.symm hbv⟩
        rw [← g1]
        congr 2
        rw [Nat.mul_comm (i / csz ty) (csz ty)]; omega
      let xs : Nat → Value := fun i => (W.cell? ⟨bl, off + i, none⟩).getD undef
      refine ⟨rfl, l, ⟨hok, ?_⟩, fun i c y h1 h2 => ?_⟩
      · have := hw _ (.inl rfl)
        rw [List.length_map, List.length_map, hel, hz] at this
        have e2 : len * bsz ty ≤ (len + rest.length) * bsz ty := Nat.mul_le_mul_right _ (by omega)
        rw [hl]
        have e3 : reachBytes = 140737488351232 := rfl
        omega
      · rw [get_one h1, get_one h2]
        rw [show len = l.length from hl.symm]
        refine .vec ty l bl off cap xs (by omega) ?_ (fun i c hi => ?_) fun i c hi => ?_
        · have h00 : 0 < (flat ty l).length := by rw [flat_length]; exact Nat.mul_pos (by omega) hcs
          obtain ⟨y, hy, _⟩ := cellAt 0 _ (List.getElem?_eq_getElem h00)
          show bl < W.heap.size
          simp only [World.cell?] at hy
          rcases Nat.lt_or_ge bl W.heap.size with hb | hb
          · exact hb
          · rw [Array.getElem?_eq_none (by simpa using hb)] at hy
            simp at hy
        · obtain ⟨y, hy, _⟩ := cellAt i c hi
          simp only [xs, hy, Option.getD_some]
        · obtain ⟨y, hy, hr⟩ := cellAt i c hi
          simp only [xs, hy, Option.getD_some]
          exact hr

/-- An argument: a scalar or a slice. -/
def ArgOf (P : Program) (t : TypeId) {α : Type} (c : α → AV) (ok : α → Prop) : Prop :=
  ∀ (W : World) (H : Type) (enc : TypeId × Value → H) (base : Nat) (v : Value) (d : DataW H) (ps : List MemPlace), Value.okWide P W .any base t v → DataW.Trod enc P W 0 (fun _ => true) true t v d ps → (∀ k ∈ d.weights P t, k ≤ reachBytes) →
    ∃ a, ok a ∧ Rep W (g0 W) 0 (c a) v

theorem arg_one {P : Program} {t : TypeId} {α : Type} {c : α → AV} {ok : α → Prop} (h : Reads P t 1 (fun a => [c a]) ok) (hv : ∀ (W : World) base v, Value.okWide P W .any base t v → v.cells.toList = [v]) : ArgOf P t c ok := by
  intro W H enc base v d ps hok ⟨fuel, hd⟩ hw
  rw [hv W base v hok] at hd
  obtain ⟨_, a, h1, h2⟩ := h.2.2 W H enc fuel _ (d, ps) hd hw
  exact ⟨a, h1, h2 0 _ _ rfl rfl⟩
theorem arg_agg {P : Program} {t : TypeId} {n : Nat} {α : Type} {cs : α → List AV} {ok : α → Prop} (h : Reads P t n cs ok) (hv : ∀ (W : World) base v, Value.okWide P W .any base t v → ∃ xs, v = .agg xs) : ArgOf P t (fun a => .agg (cs a)) ok := by
  intro W H enc base v d ps hok ⟨fuel, hd⟩ hw
  obtain ⟨xs, rfl⟩ := hv W base v hok
  obtain ⟨h0, a, h1, h2⟩ := h.2.2 W H enc fuel _ (d, ps) hd hw
  refine ⟨a, h1, .agg _ xs ?_ fun i c x hc hx => h2 i c x hc ?_⟩
  · rw [h.2.1]; simpa [Value.cells] using h0.symm
  · simpa [Value.cells] using hx

theorem arg_int {P : Program} {t : TypeId} {k : IntKind} (ht : P.underlying t = some (.int k)) (hc : P.cellsOf t = 1) : ArgOf P t (fun n : Int => .lit (.int k n)) (fun n => k.min ≤ n ∧ n ≤ k.max) :=
  arg_one (reads_int ht hc) fun W base v h => by obtain ⟨n, rfl⟩ := okWide_int ht h; rfl
theorem arg_bool {P : Program} {t : TypeId} (ht : P.underlying t = some .bool) (hc : P.cellsOf t = 1) : ArgOf P t (fun b : Bool => .lit (.bool b)) (fun _ => True) :=
  arg_one (reads_bool ht hc) fun W base v h => by obtain ⟨n, rfl⟩ := okWide_bool ht h; rfl
theorem arg_slice {P : Program} {t e : TypeId} {ty : Ty} {ok : List (El ty) → Prop} (ht : P.underlying t = some (.slice e)) (h : Reads P t 1 (fun l : List (El ty) => [.vec ty l]) ok) : ArgOf P t (fun l : List (El ty) => .vec ty l) ok :=
  arg_one h fun W base v h => by obtain ⟨a, len, cap, rfl⟩ := okWide_slice ht h; rfl
theorem arg_struct {P : Program} {t : TypeId} {fs : Array Field} {n : Nat} {α : Type} {cs : α → List AV} {ok : α → Prop} (ht : P.underlying t = some (.struct fs)) (h : Reads P t n cs ok) : ArgOf P t (fun a => .agg (cs a)) ok :=
  arg_agg h fun W base v h => by obtain ⟨xs, rfl, _⟩ := okWide_struct ht h; exact ⟨xs, rfl⟩
theorem okWide_arr {P : Program} {t e : TypeId} {n : Nat} (ht : P.underlying t = some (.array n e)) {W : World} {base : Nat} {v : Value} (h : Value.okWide P W .any base t v) : ∃ xs, v = .agg xs := by
  simp only [Value.okWide, ht] at h
  obtain ⟨cs, h1, _⟩ := h
  exact ⟨cs, h1⟩
theorem arg_array {P : Program} {t e : TypeId} {m n : Nat} {α : Type} {cs : α → List AV} {ok : α → Prop} (ht : P.underlying t = some (.array m e)) (h : Reads P t n cs ok) : ArgOf P t (fun a => .agg (cs a)) ok :=
  arg_agg h fun W base v h => okWide_arr ht h

/-- The arguments, one behind the other. -/
def ArgsOf (P : Program) (ts : List TypeId) {α : Type} (cs : α → List AV) (ok : α → Prop) : Prop :=
  ∀ (W : World) (H : Type) (enc : TypeId × Value → H) (base : Nat) (vs : List Value) (ds : List (DataW H)) (ps : List MemPlace), (∀ (j : Nat) t v, ts[j]? = some t → vs[j]? = some v → Value.okWide P W .any base t v) →
    DataW.TrodAll enc P W 0 (fun _ => true) true ts vs ds ps → (∀ k ∈ DataW.weightsEach P ts ds, k ≤ reachBytes) →
    ∃ a, ok a ∧ (cs a).length = vs.length ∧ ∀ (i : Nat) c y, (cs a)[i]? = some c → vs[i]? = some y → Rep W (g0 W) 0 c y
theorem args_nil (P : Program) : ArgsOf P [] (fun _ : Unit => []) (fun _ => True) := by
  intro W H enc base vs ds ps _ h _
  obtain ⟨rfl, _⟩ := trodAll_nil h
  exact ⟨(), trivial, rfl, by simp⟩
theorem args_cons {P : Program} {t : TypeId} {ts : List TypeId} {α β : Type} {c : α → AV} {ok1 : α → Prop} {cs : β → List AV} {ok2 : β → Prop} (h1 : ArgOf P t c ok1) (h2 : ArgsOf P ts cs ok2) :
    ArgsOf P (t :: ts) (fun p : α × β => c p.1 :: cs p.2) (fun p => ok1 p.1 ∧ ok2 p.2) := by
  intro W H enc base vs ds ps hok h hw
  obtain ⟨v, vs', d, ds', p, q, rfl, rfl, rfl, hd, hrest⟩ := trodAll_cons h
  simp only [DataW.weightsEach, List.mem_append] at hw
  obtain ⟨a, a1, a2⟩ := h1 W H enc base v d p (hok 0 t v rfl rfl) hd fun k hk => hw k (.inl hk)
  obtain ⟨b, b1, b2, b3⟩ := h2 W H enc base vs' ds' q (fun j t v ht hv => hok (j + 1) t v (by simpa using ht) (by simpa using hv)) hrest fun k hk => hw k (.inr hk)
  refine ⟨(a, b), ⟨a1, b1⟩, by simp [b2], fun i c y hc hy => ?_⟩
  cases i with
  | zero => simp at hc hy; subst hc; subst hy; exact a2
  | succ i => simp at hc hy; exact b3 i c y hc hy

theorem below_all {H : Type} {enc : TypeId × Value → H} {P : Program} (hl : laidOutB P = true) {W W' : World} (hb : Below W.heap.size W W') : ∀ {ts : List TypeId} {vs : List Value} {ds : List (DataW H)} {ps : List MemPlace},
    (∀ t ∈ ts, P.readableRec t = true ∧ t < P.types.size) → (∀ p ∈ ps, p.block < W.heap.size) → DataW.TrodAll enc P W 0 (fun _ => true) true ts vs ds ps → DataW.TrodAll enc P W' 0 (fun b => decide (b < W.heap.size)) true ts vs ds ps
  | [], vs, ds, ps, _, _, h => by
    obtain ⟨rfl, rfl, rfl⟩ := trodAll_nil h
    rfl
  | t :: ts, vs, ds, ps, hr, hp, h => by
    obtain ⟨v, vs', d, ds', p, q, rfl, rfl, rfl, hd, hrest⟩ := trodAll_cons h
    have h0 := hr t (by simp)
    exact ⟨p, q, Below.trod hl h0.1 h0.2 hd hb fun x hx => hp x (List.mem_append_left _ hx), below_all hl hb (fun t ht => hr t (by simp [ht])) (fun x hx => hp x (List.mem_append_right _ hx)) hrest, rfl⟩

/-- **FROM A FUNCTION OF DATA THAT ANSWERS true TO THE FORM's CONTRACT.** -/
theorem lifted_true {C : Checked} {os : Os} {f : FuncId} {fn : Func} {s : ChangeSpec} {boolT : TypeId} (own : ownKnob C.prog.godebug = none) (started : os.Started) (noInit : C.prog.inits.idxOf? f = none) (hfn : C.prog.funcs[f]? = some fn)
    (hl : laidOutB C.prog = true) (hts : ∀ t ∈ fn.params.toList, C.prog.readableRec t = true ∧ t < C.prog.types.size) (hres : fn.resultTypes = #[boolT]) (hbool : C.prog.underlying boolT = some .bool) (hvars : s.vars = [])
    {H : Type} {enc : TypeId × Value → H}
    (hspec : ∀ ds : List (DataW H), ds.length = fn.params.toList.length → s.fn H ds = { results := [.lit (.bool true)], args := ds })
    (witness : ∃ (w : World) (tape : Tape) (i : Input), w.os = os ∧ (w.forCall tape i).Shaped C.prog ∧ i.vars = [] ∧ Input.okWide C.prog (w.forCall tape i) .any w.heap.size f i ∧
      s.pre6 enc C.prog fn [] false (w.forCall tape i).memory i.args ∧ ({} : Assume).holds C.prog (lone (Frame.enter C.prog f i.args .normal) [] (w.forCall tape i)))
    {α : Type} {cs : α → List AV} {ok : α → Prop} (hargs : ArgsOf C.prog fn.params.toList cs ok) (api : ∀ a, ok a → Api C.prog f (cs a) (bol true)) :
    ReturnsInHanded {} C os f .any (s.pre6 enc C.prog fn [] false) (s.post enc C.prog fn false true false false) := by
  refine returnsInHanded_of_change_shaped own started noInit hfn witness ?_
  intro W base args ds gs before hval hW _ hsz _ _
  have hW' := hW
  obtain ⟨p, q, hA, hV, rfl, hfz, hnd⟩ := hW
  rw [hvars] at hV
  obtain ⟨rfl, rfl⟩ := trodVars_none hV
  simp only [List.append_nil] at hW' hsz
  have hvt : s.plain.varTypes C.prog = [] := by simp [DataSpec.varTypes, ChangeSpec.plain, hvars]
  rw [hvt, List.append_nil] at hsz
  simp only [List.all_eq_true, decide_eq_true_eq] at hsz
  obtain ⟨a, h1, h2, h3⟩ := hargs W H enc base args.toList ds p (fun j t v ht hv => hval j t v (by simpa using ht) (by simpa using hv)) hA hsz
  have hdl : ds.length = fn.params.toList.length := by
    have : ∀ (ts : List TypeId) (vs : List Value) (ds : List (DataW H)) (ps : List MemPlace), DataW.TrodAll enc C.prog W 0 (fun _ => true) true ts vs ds ps → ds.length = ts.length := by
      intro ts
      induction ts with
      | nil => intro vs ds ps h; obtain ⟨_, rfl, _⟩ := trodAll_nil h; rfl
      | cons t ts ih =>
        intro vs ds ps h
        obtain ⟨v, vs', d, ds', p, q, rfl, rfl, rfl, hd, hrest⟩ := trodAll_cons h
        simp [ih _ _ _ hrest]
    exact this _ _ _ _ hA
  refine (api a h1 W (g0 W) args (msim0 W) ⟨by simpa using h2, fun i c x hc hx => h3 i c x hc (by simpa using hx)⟩).mono fun e W' ⟨x, g', he, hr, _, ht, _⟩ => ?_
  have hb : Below W.heap.size W W' := ⟨ht.os, ht.tape, ht.output, ht.size, fun k hk => ht.same k hk⟩
  have hx : x = .bool true := by cases hr; rfl
  subst hx
  have hlt : ∀ x ∈ p, x.block < W.heap.size := fun x hx => hW'.lt x (by simpa using hx)
  refine ⟨_, he, ds, [], p, [], p, [], hW', ?_, ?_, ?_, hb.frame _, by simp⟩
  · rw [List.append_nil, hspec ds hdl, hres]
    exact ⟨[], [], ⟨1, by simp [DataW.trod, hbool, Value.cells]⟩, rfl, rfl⟩
  · rw [List.append_nil, hspec ds hdl]
    exact below_all hl hb hts hlt hA
  · rw [List.append_nil, hspec ds hdl, hvars]
    rfl

end Eng
