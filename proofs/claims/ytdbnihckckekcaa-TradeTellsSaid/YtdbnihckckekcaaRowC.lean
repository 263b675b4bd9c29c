/- ROWS, third part: make, literals, parts of slices, cap, copy, clear. -/
import Derived.Test.YtdbnihckckekcaaRowB
set_option linter.unusedSimpArgs false
set_option linter.unusedVariables false
namespace Eng
open Go Go.RowKit

theorem madeCells_ok {z : Array Value} {tt : Ty} (hz : z.toList = zc tt) (n : Nat) (w : World) (g : G) (lim : Nat) : RepL w g lim (flat tt (List.replicate n (dflt tt))) (madeCells z (n * csz tt)) := by
  have hzs : z.size = csz tt := by have := congrArg List.length hz; rw [zc_length] at this; simpa using this
  have hp := csz_pos tt
  refine ⟨by rw [flat_length, List.length_replicate, size_madeCells], fun i c x hc hx => ?_⟩
  have hlt : i < n * csz tt := by have := (List.getElem?_eq_some_iff.1 hc).1; rw [flat_length, List.length_replicate] at this; exact this
  have hm : i % csz tt < csz tt := Nat.mod_lt _ hp
  have hq : i / csz tt < n := Nat.div_lt_of_lt_mul (by rw [Nat.mul_comm]; exact hlt)
  have hi : i = i / csz tt * csz tt + i % csz tt := by rw [Nat.mul_comm]; exact (Nat.div_add_mod i (csz tt)).symm
  rw [hi, flat_get tt _ (i / csz tt) (dflt tt) (by rw [List.getElem?_replicate, if_pos hq]) _ hm] at hc
  have hxz : (zc tt).toArray[i % csz tt]? = some x := by
    unfold madeCells at hx
    rw [Array.getElem?_map, Array.getElem?_range, if_pos hlt] at hx
    simp only [Option.map_some, Option.some.injEq] at hx
    rw [← hx, hzs, ← hz]
    have hlt2 : i % csz tt < z.size := by omega
    simp [hlt2]
  exact (zc_ok tt w g lim).2 _ c x hc hxz

/-- A new row of a given content. -/
theorem newRow_ok {P : Program} {base d : Nat} (hd : Nat.blt (2 * d + 2) 200000 = true) {o : Oper} {f' : List AV} {m' : Nat → Option Blk} {w : World} {g : G} {a : Act} (hs : Sim w g (base + L) f' m' a) {tt : Ty} {l : List (El tt)} {len cap : Nat} (hlc : len ≤ cap)
    {cs : Array Value} {e : TypeId} (hcs : cs.size = cap * csz tt) (hrep : RepL w g (base + L) (flat tt l) cs)
    (hrun : (execOp a.eval o).run P w = .ok (.value (.slice (some ⟨w.heap.size, 0, none⟩) len cap)) (w.alloc (.cells cs e))) :
    ∀ (K : Act → World → Prop) (Q : Exit → Act → World → Prop),
    (∀ w' g' a', Sim w' g' (base + L) (fput (fgtL (base + (2 * d + 1)) f') o.dst (.own tt (base + (2 * d + 1)) 0 len (some cap))) (put (fgtM (base + (2 * d + 1)) m') (base + (2 * d + 1)) (some (.row tt l))) a' → Tr g w w' → LeG base g g' → K a' w') → o.wp P a w K Q := by
  intro K Q hK
  have hkl : base + (2 * d + 1) < base + L ∨ (base + (2 * d + 1)) % 2 = 1 := .inl (idlt base d hd).2
  have htr := Tr.alloc g w (.cells cs e) hs.me.rolt (fun b hb => (hs.me.nof b hb).1)
  unfold Oper.wp
  rw [hrun, Oper.upon_value]
  refine hK _ (g.bind (base + (2 * d + 1)) w.heap.size cs.size) _ (hs.push hkl cs e (.row tt l) (BlkRep.mkRow ⟨cs, e, heap_alloc_new w _, rfl, ?_, fun i c x hc hx => ?_⟩) ?_ o.dst) htr (LeG.bind base g (Nat.le_add_right _ _) _ _)
  · have := hrep.1; omega
  · exact (hrep.2 i c x hc hx).bind (men_flat hc _) htr.same
  · have : (⟨w.heap.size, 0, none⟩ : Addr) = ⟨w.heap.size, 0 * csz tt, none⟩ := by simp
    rw [this]
    exact .own tt _ 0 _ _ cap _ hkl hlc (fun n h => by cases h; rfl) fun _ => ⟨by simp [G.bind], by simp [G.bind, hcs]⟩

/-- make([]T, l, c). -/
def makeK (P : Program) (C : Cfg) (base : Nat) (dst : Option Nat) (t : TypeId) (a b : AV) (K : Act1 → Prop) : Prop :=
  match dst with
  | some d => match Nat.blt (2 * d + 2) 200000 with
    | true => match P.underlying t with
      | some (.slice e) => match C.ty e with
        | some tt => match a with
          | .lit (.int _ l) => match b with
            | .lit (.int _ c) => (0 ≤ l ∧ l ≤ c ∧ c * bsz tt ≤ 140737488355328) ∧
                odK base d fun e => K ⟨.own tt e 0 l.toNat (some c.toNat), [], [(e, some (.row tt (List.replicate c.toNat (dflt tt))))], [e]⟩
            | _ => False
          | _ => False
        | none => False
      | _ => False
    | false => False
  | none => False

theorem makeK_ok {P : Program} {C : Cfg} (hC : CfgOk P C) {base : Nat} {m : Mem} {f : List AV} {o : Oper} {t : TypeId} {x y : Operand} (ho : o.op = .makeSlice t x y) {K : Act1 → Prop} (h : makeK P C base o.dst t (aval f x) (aval f y) K) :
    ∃ c, K c ∧ (∀ p ∈ c.rd, mget m p.1 = some p.2) ∧ AOk P base o f c := by
  unfold makeK at h
  split at h
  case h_2 => exact h.elim
  rename_i d hd
  cases hb : Nat.blt (2 * d + 2) 200000 with
  | false => rw [hb] at h; exact h.elim
  | true =>
  rw [hb] at h
  simp only at h
  split at h
  case h_2 => exact h.elim
  rename_i e ht
  cases hce : C.ty e with
  | none => rw [hce] at h; exact h.elim
  | some tt =>
  rw [hce] at h
  simp only at h
  split at h
  case h_2 => exact h.elim
  rename_i k1 l hx
  split at h
  case h_2 => exact h.elim
  rename_i k2 c hy
  obtain ⟨⟨h0, hlc, hfit⟩, hK⟩ := h
  rw [odK_eq] at hK
  obtain ⟨i, z, hi, hsz, hby, hz, hzc⟩ := info_of hC hce
  refine ⟨_, hK, by simp, fun f' m' hop hrd w g a hs N Q hN => ?_⟩
  have hrx := hop x (by rw [ho]; simp [Op.operands]) _ _ _ _ (rep_aval hs x)
  have hry := hop y (by rw [ho]; simp [Op.operands]) _ _ _ _ (rep_aval hs y)
  rw [hx] at hrx; rw [hy] at hry
  have ex := rep_lit hrx
  have ey := rep_lit hry
  have hb1 : 1 ≤ bsz tt := by cases tt <;> decide
  have hcm : c * 1 ≤ c * (bsz tt : Int) := Int.mul_le_mul_of_nonneg_left (by omega) (by omega)
  have hrun := run_makeSlice (P := P) (w := w) t e i z ht hi hz k1 k2 l c h0 hlc
  have hrun : (Instr.makeSlice t (.int k1 l) (.int k2 c)).run P w = .ok (.slice (some ⟨w.heap.size, 0, none⟩) l.toNat c.toNat) (w.alloc (.cells (madeCells z.cells (c.toNat * i.size)) e)) :=
    run_make w t e i z ht hi hz k1 k2 l c h0 hlc (by rw [hby, Int.mul_comm]; omega) (by omega)
  rw [hsz] at hrun
  refine newRow_ok hb hs (len := l.toNat) (cap := c.toNat) (tt := tt) (l := List.replicate c.toNat (dflt tt)) (by omega) (cs := madeCells z.cells (c.toNat * csz tt)) (e := e) (size_madeCells _ _) (madeCells_ok hzc _ w g _) ?_ N Q ?_
  · unfold execOp; rw [ho]; simp [ex, ey, hrun]
  · exact hN

/-- A part of a slice. -/
def bndK (x : Option Operand) (f : List AV) (d : Option Int) (K : Option Int → Prop) : Prop :=
  match x with
  | none => K d
  | some x => avalK f x fun v => match v with | .lit (.int _ n) => K (some n) | _ => False

/-- A part of an own row. -/
def partK (tt : Ty) (k off : Nat) (a b up : Int) (c : Option Nat) (K : AV → Prop) : Prop :=
  (0 ≤ a ∧ a ≤ b ∧ b ≤ up) ∧ K (.own tt k (a.toNat + off) (b - a).toNat c)

def sliceK2 (P : Program) (t : TypeId) (v : AV) (f : List AV) (lo hi mx : Option Operand) (K : AV → Prop) : Prop :=
  match P.underlying t with
  | some (.slice e) => match v with
    | .vec tt l => match mx with
      | none => match szOf P e with
        | some z => match Nat.beq z (csz tt) with
          | true => bndK lo f (some 0) fun a => bndK hi f (some l.length) fun b => match a with
            | some a => match b with
              | some b => (0 ≤ a ∧ a ≤ b ∧ b ≤ l.length) ∧ K (.vec tt ((l.drop a.toNat).take (b - a).toNat))
              | none => False
            | none => False
          | false => False
        | none => False
      | some _ => False
    | .own tt k off len c => match szOf P e with
      | some z => match Nat.beq z (csz tt) with
        | true => bndK lo f (some 0) fun a => match a with
          | some a => match mx with
            | none => bndK hi f (some len) fun b => match b with
              | some b => match c with
                | none => partK tt k off a b len none K
                | some c => partK tt k off a b c (some (c - a.toNat)) K
              | none => False
            | some mx => bndK hi f none fun b => match b with
              | some b => bndK (some mx) f none fun n => match n with
                | some n => match c with
                  | none => n ≤ len ∧ partK tt k off a b n (some (n - a).toNat) K
                  | some c => n ≤ c ∧ partK tt k off a b n (some (n - a).toNat) K
                | none => False
              | none => False
          | none => False
        | false => False
      | none => False
    | .emp te => match mx with
      | none => match szOf P e with
        | some _ => bndK lo f (some 0) fun a => bndK hi f (some 0) fun b => match a with
          | some a => match b with
            | some b => (a = 0 ∧ b = 0) ∧ K (.emp te)
            | none => False
          | none => False
        | none => False
      | some _ => False
    | .lit (.slice none 0 0) => match mx with
      | none => match szOf P e with
        | some _ => bndK lo f (some 0) fun a => bndK hi f (some 0) fun b => match a with
          | some a => match b with
            | some b => (a = 0 ∧ b = 0) ∧ K (.lit (.slice none 0 0))
            | none => False
          | none => False
        | none => False
      | some _ => False
    | _ => False
  | _ => False

/-- A bound, as it is said and as it is. -/
def Bnd (x : Option Operand) (ρ : Operand → Value) (d r : Option Int) : Prop := (x = none ∧ r = d) ∨ ∃ y k n, x = some y ∧ ρ y = .int k n ∧ r = some n

theorem bndK_ok {x : Option Operand} {f : List AV} {d : Option Int} {K : Option Int → Prop} (h : bndK x f d K) :
    ∃ r, K r ∧ ∀ (w : World) (g : G) (lim : Nat) (ρ : Operand → Value), (∀ y, x = some y → Rep w g lim (aval f y) (ρ y)) → Bnd x ρ d r := by
  unfold bndK at h
  cases x with
  | none => exact ⟨d, h, fun w g lim ρ _ => .inl ⟨rfl, rfl⟩⟩
  | some y =>
    simp only at h
    rw [avalK_eq] at h
    split at h
    · rename_i k n hy
      refine ⟨some n, h, fun w g lim ρ hr => .inr ⟨y, k, n, rfl, ?_, rfl⟩⟩
      have := hr y rfl
      rw [hy] at this
      exact rep_lit this
    · exact h.elim

theorem run_bounds {P : Program} {w : World} {ρ : Operand → Value} {lo hi mx : Option Operand} {len cap : Nat} {a b m : Int} {dh : Option Int} (ha : Bnd lo ρ (some 0) (some a)) (hb : Bnd hi ρ dh (some b)) (hdh : dh = some (len : Int) ∧ mx = none ∨ dh = none)
    (hm : (mx = none ∧ m = cap) ∨ ∃ y k, mx = some y ∧ ρ y = .int k m) (h0 : 0 ≤ a) (h1 : a ≤ b) (h2 : b ≤ m) (h3 : m ≤ cap) :
    (Instr.sliceBounds true len cap (lo.map ρ) (hi.map ρ) (mx.map ρ)).run P w = .ok (a.toNat, b.toNat, m.toNat) w := by
  have mn : ((m.toNat : Nat) : Int) = m := by omega
  have bn : ((b.toNat : Nat) : Int) = b := by omega
  have hb0 : 0 ≤ b := by omega
  have hm0 : 0 ≤ m := by omega
  have sb : ∀ (x : Value) (k : IntKind) (i : Int) (y : Nat) (code : BoundsCode), x = .int k i → 0 ≤ i → i ≤ y → (Instr.sliceBound x y code).run P w = .ok i.toNat w := fun x k i y code e h0 h1 => by
    subst e; exact run_sliceBound w k i y code h0 h1
  unfold Instr.sliceBounds
  rcases hm with ⟨rfl, rfl⟩ | ⟨y, k, rfl, hy⟩
  · rcases hb with ⟨rfl, hbb⟩ | ⟨yb, kb, nb, rfl, hyb, hbb⟩
    · rcases hdh with ⟨rfl, _⟩ | rfl
      · cases hbb
        rcases ha with ⟨rfl, haa⟩ | ⟨ya, ka, na, rfl, hya, haa⟩
        · cases haa; simp
        · cases haa; simp [sb _ ka a len .sliceB hya h0 (by omega)]
      · cases hbb
    · cases hbb
      rcases ha with ⟨rfl, haa⟩ | ⟨ya, ka, na, rfl, hya, haa⟩
      · cases haa; simp [sb _ kb b cap .sliceAcap hyb hb0 (by omega)]
      · cases haa; simp [sb _ kb b cap .sliceAcap hyb hb0 (by omega), sb _ ka a b.toNat .sliceB hya h0 (by omega)]
  · rcases hb with ⟨rfl, hbb⟩ | ⟨yb, kb, nb, rfl, hyb, hbb⟩
    · rcases hdh with ⟨_, h⟩ | rfl
      · cases h
      · cases hbb
    · cases hbb
      rcases ha with ⟨rfl, haa⟩ | ⟨ya, ka, na, rfl, hya, haa⟩
      · cases haa; simp [sb _ k m cap .slice3Acap hy hm0 (by omega), sb _ kb b m.toNat .slice3B hyb hb0 (by omega)]
      · cases haa; simp [sb _ k m cap .slice3Acap hy hm0 (by omega), sb _ kb b m.toNat .slice3B hyb hb0 (by omega), sb _ ka a b.toNat .slice3C hya h0 (by omega)]

theorem run_slice {P : Program} {w : World} {t e : TypeId} {ad : Option Addr} {len cap z l h m : Nat} {lo hi mx : Option Value} (ht : P.underlying t = some (.slice e)) (hz : szOf P e = some z)
    (hb : (Instr.sliceBounds true len cap lo hi mx).run P w = .ok (l, h, m) w) : (Instr.sliceAt t (.slice ad len cap) lo hi mx).run P w = .ok (.slice (if m = l then ad else ad.map (·.add (l * z))) (h - l) (m - l)) w := by
  simp [Instr.sliceAt, Instr.slice, run_underlying ht, hb, run_sizeOf hz]

theorem part_ok {w : World} {g : G} {lim : Nat} {tt : Ty} {k off cap b0 : Nat} {a b m up : Int} {c : Option Nat} (h : 0 ≤ a ∧ a ≤ b ∧ b ≤ up) (hk : k < lim ∨ k % 2 = 1) (hm : m ≤ cap) (hum : up ≤ m)
    (hc : ∀ n, c = some n → (m - a).toNat = n) (hal : g.al k → b0 = g.be k ∧ (off + cap) * csz tt ≤ g.sz k) :
    Rep w g lim (.own tt k (a.toNat + off) (b - a).toNat c) (.slice (if m.toNat = a.toNat then some ⟨b0, off * csz tt, none⟩ else (some (⟨b0, off * csz tt, none⟩ : Addr)).map (·.add (a.toNat * csz tt))) (b.toNat - a.toNat) (m.toNat - a.toNat)) := by
  obtain ⟨h0, h1, h2⟩ := h
  have e1 : b.toNat - a.toNat = (b - a).toNat := by omega
  have e2 : m.toNat - a.toNat = (m - a).toNat := by omega
  by_cases hma : m = a
  · have e3 : (b - a).toNat = 0 := by omega
    have e4 : (m - a).toNat = 0 := by omega
    rw [e1, e2, e3, e4]
    exact .ownE tt k _ c _ hk fun n hn => by have := hc n hn; omega
  · rw [e1, e2, if_neg (by omega)]
    simp only [Option.map_some, add_none, ← Nat.add_mul]
    rw [Nat.add_comm off]
    refine .own tt k _ _ b0 _ c hk (by omega) hc fun hl => ⟨(hal hl).1, Nat.le_trans (Nat.mul_le_mul_right _ ?_) (hal hl).2⟩
    omega

theorem sliceK2_ok {P : Program} {t : TypeId} {v : AV} {f : List AV} {lo hi mx : Option Operand} {K : AV → Prop} (h : sliceK2 P t v f lo hi mx K) :
    ∃ r, K r ∧ ∀ (w : World) (g : G) (lim : Nat) (x : Value) (ρ : Operand → Value), Rep w g lim v x → (∀ y, lo = some y → Rep w g lim (aval f y) (ρ y)) → (∀ y, hi = some y → Rep w g lim (aval f y) (ρ y)) → (∀ y, mx = some y → Rep w g lim (aval f y) (ρ y)) →
      ∃ y, (Instr.sliceAt t x (lo.map ρ) (hi.map ρ) (mx.map ρ)).run P w = .ok y w ∧ Rep w g lim r y := by
  unfold sliceK2 at h
  split at h
  case h_2 => exact h.elim
  rename_i e ht
  split at h
  case h_5 => exact h.elim
  · rename_i tt l
    split at h
    case h_2 => exact h.elim
    cases hz : szOf P e with
    | none => rw [hz] at h; exact h.elim
    | some z =>
    rw [hz] at h
    simp only at h
    cases hzb : Nat.beq z (csz tt) with
    | false => rw [hzb] at h; exact h.elim
    | true =>
    rw [hzb] at h
    have hzz := nbt.1 hzb
    obtain ⟨ra, h, hba⟩ := bndK_ok h
    obtain ⟨rb, h, hbb⟩ := bndK_ok h
    cases ra with
    | none => exact h.elim
    | some a =>
    cases rb with
    | none => exact h.elim
    | some b =>
    obtain ⟨⟨h0, h1, h2⟩, hK⟩ := h
    refine ⟨_, hK, fun w g lim x ρ hx ya yb ym => ?_⟩
    have key : ∀ (ad : Option Addr) (cap : Nat), l.length ≤ cap → (Instr.sliceAt t (.slice ad l.length cap) (lo.map ρ) (hi.map ρ) ((none : Option Operand).map ρ)).run P w =
        .ok (.slice (if cap = a.toNat then ad else ad.map (·.add (a.toNat * z))) (b.toNat - a.toNat) (cap - a.toNat)) w := fun ad cap hc => by
      have := run_slice (P := P) (w := w) (ad := ad) ht hz (run_bounds (P := P) (w := w) (hba w g lim ρ ya) (hbb w g lim ρ yb) (.inl ⟨rfl, rfl⟩) (m := (cap : Int)) (.inl ⟨rfl, rfl⟩) h0 h1 (by omega) (by omega))
      simpa using this
    have hlen : ((l.drop a.toNat).take (b - a).toNat).length = b.toNat - a.toNat := by rw [List.length_take, List.length_drop]; omega
    by_cases hne : b.toNat - a.toNat = 0
    · have hnil : (l.drop a.toNat).take (b - a).toNat = [] := List.eq_nil_of_length_eq_zero (by rw [hlen]; exact hne)
      rw [hnil]
      cases hx with
      | vecE _ ad cap => exact ⟨_, key ad cap (by simp), by rw [hne]; exact .vecE _ _ _⟩
      | vec _ _ b0 o cap xs hc hr hw hh => exact ⟨_, key _ cap hc, by rw [hne]; exact .vecE _ _ _⟩
    · cases hx with
      | vecE _ ad cap => simp at h2; omega
      | vec _ _ b0 o cap xs hc hr hw hh =>
        refine ⟨_, key _ cap hc, ?_⟩
        rw [if_neg (by omega), ← hlen]
        simp only [Option.map_some, add_none, hzz]
        have hget : ∀ (i : Nat) c, (flat tt ((l.drop a.toNat).take (b - a).toNat))[i]? = some c → (flat tt l)[a.toNat * csz tt + i]? = some c := by
          intro i c hc
          rw [flat_take, List.getElem?_take] at hc
          split at hc
          · rw [flat_drop, List.getElem?_drop] at hc; exact hc
          · cases hc
        exact .vec tt _ b0 _ _ (fun i => xs (a.toNat * csz tt + i)) (by rw [hlen]; omega) hr (fun i c hi => by rw [Nat.add_assoc]; exact hw _ c (hget i c hi)) (fun i c hi => hh _ c (hget i c hi))
  · rename_i tt k off len c
    cases hz : szOf P e with
    | none => rw [hz] at h; exact h.elim
    | some z =>
    rw [hz] at h
    simp only at h
    cases hzb : Nat.beq z (csz tt) with
    | false => rw [hzb] at h; exact h.elim
    | true =>
    rw [hzb] at h
    have hzz := nbt.1 hzb
    subst hzz
    obtain ⟨ra, h, hba⟩ := bndK_ok h
    cases ra with
    | none => exact h.elim
    | some a =>
    simp only at h
    cases mx with
    | none =>
      simp only at h
      obtain ⟨rb, h, hbb⟩ := bndK_ok h
      cases rb with
      | none => exact h.elim
      | some b =>
      simp only at h
      have go : ∀ (up : Int) (c' : Option Nat), partK tt k off a b up c' K → (∀ cap : Nat, (∀ n, c = some n → cap = n) → len ≤ cap → up ≤ cap ∧ ∀ n, c' = some n → ((cap : Int) - a).toNat = n) →
          ∃ r, K r ∧ ∀ (w : World) (g : G) (lim : Nat) (x : Value) (ρ : Operand → Value), Rep w g lim (.own tt k off len c) x → (∀ y, lo = some y → Rep w g lim (aval f y) (ρ y)) → (∀ y, hi = some y → Rep w g lim (aval f y) (ρ y)) →
            ∃ y, (Instr.sliceAt t x (lo.map ρ) (hi.map ρ) ((none : Option Operand).map ρ)).run P w = .ok y w ∧ Rep w g lim r y := by
        intro up c' hp hup
        obtain ⟨⟨h0, h1, h2⟩, hK⟩ := hp
        refine ⟨_, hK, fun w g lim x ρ hx ya yb => ?_⟩
        cases hx with
        | own _ _ _ _ b0 cap _ hk hc hcc hal =>
          obtain ⟨u1, u2⟩ := hup cap hcc hc
          exact ⟨_, run_slice ht hz (run_bounds (P := P) (w := w) (hba w g lim ρ ya) (hbb w g lim ρ yb) (.inl ⟨rfl, rfl⟩) (m := (cap : Int)) (.inl ⟨rfl, rfl⟩) h0 h1 (by omega) (by omega)), part_ok (b0 := b0) (cap := cap) (m := (cap : Int)) ⟨h0, h1, h2⟩ hk (by omega) u1 u2 hal⟩
        | ownE _ _ _ _ ad hk hcc =>
          obtain ⟨u1, u2⟩ := hup 0 (fun n hn => (hcc n hn).symm) (Nat.le_refl _)
          refine ⟨_, run_slice ht hz (run_bounds (P := P) (w := w) (hba w g lim ρ ya) (hbb w g lim ρ yb) (.inl ⟨rfl, rfl⟩) (m := ((0 : Nat) : Int)) (.inl ⟨rfl, rfl⟩) h0 h1 (by omega) (by omega)), ?_⟩
          have e1 : b.toNat - a.toNat = 0 := by omega
          have e2 : ((0 : Nat) : Int).toNat - a.toNat = 0 := by omega
          have e3 : (b - a).toNat = 0 := by omega
          rw [e1, e2, e3]
          exact .ownE _ _ _ _ _ hk fun n hn => by have := u2 n hn; omega
      cases c with
      | none =>
        obtain ⟨r, hK, hr⟩ := go len none h (fun cap _ hc => ⟨by omega, fun n hn => by cases hn⟩)
        exact ⟨r, hK, fun w g lim x ρ hx ya yb _ => hr w g lim x ρ hx ya yb⟩
      | some c =>
        obtain ⟨r, hK, hr⟩ := go c _ h (fun cap hcc hc => by
          obtain rfl := hcc c rfl
          have h9 := h.1.1
          exact ⟨by omega, fun n hn => by cases hn; omega⟩)
        exact ⟨r, hK, fun w g lim x ρ hx ya yb _ => hr w g lim x ρ hx ya yb⟩
    | some mxo =>
      simp only at h
      obtain ⟨rb, h, hbb⟩ := bndK_ok h
      cases rb with
      | none => exact h.elim
      | some b =>
      simp only at h
      obtain ⟨rn, h, hbn⟩ := bndK_ok h
      cases rn with
      | none => exact h.elim
      | some n =>
      simp only at h
      have go : partK tt k off a b n (some (n - a).toNat) K → (∀ cap : Nat, (∀ n, c = some n → cap = n) → len ≤ cap → n ≤ cap) →
          ∃ r, K r ∧ ∀ (w : World) (g : G) (lim : Nat) (x : Value) (ρ : Operand → Value), Rep w g lim (.own tt k off len c) x → (∀ y, lo = some y → Rep w g lim (aval f y) (ρ y)) → (∀ y, hi = some y → Rep w g lim (aval f y) (ρ y)) → (∀ y, some mxo = some y → Rep w g lim (aval f y) (ρ y)) →
            ∃ y, (Instr.sliceAt t x (lo.map ρ) (hi.map ρ) ((some mxo).map ρ)).run P w = .ok y w ∧ Rep w g lim r y := by
        intro hp hup
        obtain ⟨⟨h0, h1, h2⟩, hK⟩ := hp
        refine ⟨_, hK, fun w g lim x ρ hx ya yb ym => ?_⟩
        have hmm : Bnd (some mxo) ρ none (some n) := hbn w g lim ρ ym
        rcases hmm with ⟨h9, _⟩ | ⟨y9, k9, n9, e9, e10, e11⟩
        · cases h9
        cases e9; cases e11
        cases hx with
        | own _ _ _ _ b0 cap _ hk hc hcc hal =>
          have u1 := hup cap hcc hc
          exact ⟨_, run_slice ht hz (run_bounds (P := P) (w := w) (hba w g lim ρ ya) (hbb w g lim ρ yb) (.inr rfl) (m := n) (.inr ⟨_, k9, rfl, e10⟩) h0 h1 (by omega) u1), part_ok (b0 := b0) (cap := cap) (m := n) ⟨h0, h1, h2⟩ hk u1 (by omega) (fun q hq => by cases hq; rfl) hal⟩
        | ownE _ _ _ _ ad hk hcc =>
          have u1 := hup 0 (fun n hn => (hcc n hn).symm) (Nat.le_refl _)
          refine ⟨_, run_slice ht hz (run_bounds (P := P) (w := w) (hba w g lim ρ ya) (hbb w g lim ρ yb) (.inr rfl) (m := n) (.inr ⟨_, k9, rfl, e10⟩) h0 h1 (by omega) u1), ?_⟩
          have e1 : b.toNat - a.toNat = 0 := by omega
          have e2 : n.toNat - a.toNat = 0 := by omega
          have e3 : (b - a).toNat = 0 := by omega
          rw [e1, e2, e3]
          exact .ownE _ _ _ _ _ hk fun q hq => by cases hq; omega
      cases c with
      | none => exact go h.2 (fun cap _ hc => by have := h.1; omega)
      | some c => exact go h.2 (fun cap hcc hc => by obtain rfl := hcc c rfl; exact h.1)
  · rename_i te
    split at h
    case h_2 => exact h.elim
    cases hz : szOf P e with
    | none => rw [hz] at h; exact h.elim
    | some z =>
    rw [hz] at h
    simp only at h
    obtain ⟨ra, h, hba⟩ := bndK_ok h
    obtain ⟨rb, h, hbb⟩ := bndK_ok h
    cases ra with
    | none => exact h.elim
    | some a =>
    cases rb with
    | none => exact h.elim
    | some b =>
    obtain ⟨⟨rfl, rfl⟩, hK⟩ := h
    refine ⟨_, hK, fun w g lim x ρ hx ya yb ym => ?_⟩
    cases hx with
    | emp _ ad =>
    have hb := run_bounds (P := P) (w := w) (len := 0) (cap := 0) (hba w g lim ρ ya) (hbb w g lim ρ yb) (.inl ⟨rfl, rfl⟩) (m := 0) (.inl ⟨rfl, rfl⟩) (by omega) (by omega) (by omega) (by omega)
    exact ⟨_, run_slice (ad := ad) ht hz hb, by simp; exact .emp _ _⟩
  · split at h
    case h_2 => exact h.elim
    cases hz : szOf P e with
    | none => rw [hz] at h; exact h.elim
    | some z =>
    rw [hz] at h
    simp only at h
    obtain ⟨ra, h, hba⟩ := bndK_ok h
    obtain ⟨rb, h, hbb⟩ := bndK_ok h
    cases ra with
    | none => exact h.elim
    | some a =>
    cases rb with
    | none => exact h.elim
    | some b =>
    obtain ⟨⟨rfl, rfl⟩, hK⟩ := h
    refine ⟨_, hK, fun w g lim x ρ hx ya yb ym => ?_⟩
    rw [rep_lit hx]
    have hb := run_bounds (P := P) (w := w) (len := 0) (cap := 0) (hba w g lim ρ ya) (hbb w g lim ρ yb) (.inl ⟨rfl, rfl⟩) (m := 0) (.inl ⟨rfl, rfl⟩) (by omega) (by omega) (by omega) (by omega)
    exact ⟨.slice none 0 0, by simpa using run_slice (ad := none) ht hz hb, .lit _⟩
end Eng
