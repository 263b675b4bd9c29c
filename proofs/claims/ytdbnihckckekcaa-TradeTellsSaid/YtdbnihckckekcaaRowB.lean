/- ROWS, second part: append. -/
import Derived.Test.YtdbnihckckekcaaRowA
set_option linter.unusedSimpArgs false
set_option linter.unusedVariables false
namespace Eng
open Go Go.RowKit

theorem RepL.nil0 {w : World} {g : G} {lim : Nat} : RepL w g lim [] ([] : List Value).toArray := ⟨rfl, fun i c x hc => by simp at hc⟩
theorem RepL.cons0 {w : World} {g : G} {lim : Nat} {c : AV} {x : Value} {cs : List AV} {xs : List Value} (h : Rep w g lim c x) (h' : RepL w g lim cs xs.toArray) : RepL w g lim (c :: cs) (x :: xs).toArray := by
  have hl : cs.length = xs.length := by simpa using h'.1
  refine ⟨by simp [hl], fun i c' x' hc hx => ?_⟩
  cases i with
  | zero => simp at hc hx; subst hc; subst hx; exact h
  | succ i => exact h'.2 i c' x' (by simpa using hc) (by simpa using hx)

theorem zc_ok (t : Ty) (w : World) (g : G) (lim : Nat) : RepL w g lim (cells t (dflt t)) (zc t).toArray := by
  cases t <;> simp only [cells, dflt, zc] <;> (repeat' (first | exact RepL.nil0 | exact .lit _ | exact .vecE _ _ _ | apply RepL.cons0))

theorem info_of {P : Program} {C : Cfg} (hC : CfgOk P C) {e : TypeId} {t : Ty} (h : C.ty e = some t) : ∃ i z, P.info? e = some i ∧ i.size = csz t ∧ i.bytes = bsz t ∧ i.zero = some z ∧ z.cells.toList = zc t := by
  obtain ⟨h1, h2⟩ := hC.sz e t h
  have h3 := hC.zr e t h
  unfold szOf at h1; unfold byOf at h2; unfold zeroOf at h3
  cases hi : P.info? e with
  | none => rw [hi] at h1; cases h1
  | some i =>
    rw [hi] at h1 h2 h3
    simp only at h1 h2 h3
    cases hz : i.zero with
    | none => rw [hz] at h3; cases h3
    | some z =>
      rw [hz] at h3
      exact ⟨i, z, rfl, by simpa using h1, by simpa using h2, hz, by simpa using h3⟩
theorem zc_length (t : Ty) : (zc t).length = csz t := by cases t <;> rfl

theorem RepL.append {w : World} {g : G} {lim : Nat} {a b : List AV} {x y : List Value} (h : RepL w g lim a x.toArray) (h' : RepL w g lim b y.toArray) : RepL w g lim (a ++ b) (x ++ y).toArray := by
  have l1 : a.length = x.length := by simpa using h.1
  have l2 : b.length = y.length := by simpa using h'.1
  refine ⟨by simp [l1, l2], fun i c z hc hz => ?_⟩
  by_cases hi : i < a.length
  · rw [List.getElem?_append_left hi] at hc
    simp only [List.getElem?_toArray] at hz
    rw [List.getElem?_append_left (by omega)] at hz
    exact h.2 i c z hc (by simpa using hz)
  · rw [List.getElem?_append_right (by omega)] at hc
    simp only [List.getElem?_toArray] at hz
    rw [List.getElem?_append_right (by omega)] at hz
    exact h'.2 _ c z hc (by rw [l1]; simpa using hz)

/-- There is room. -/
theorem run_app_room {P : Program} (w : World) (t tx ty e : TypeId) (i : TypeInfo) (ht : P.underlying t = some (.slice e)) (hi : P.info? e = some i) (b off sLen sCap : Nat) (x : Value) (n : Nat) (news : List Value) (hs : Src P i.size tx x n news w)
    (hroom : sLen + n ≤ sCap) (c : Array Value) (tc : TypeId) (hb : w.heap[b]? = some (.cells c tc (0, 0))) (hl : off + sLen * i.size + news.length ≤ c.size) :
    ∃ w', (Builtin.append_ #[t, tx] ty #[.slice (some ⟨b, off, none⟩) sLen sCap, x]).run P w = .ok (.slice (some ⟨b, off, none⟩) (sLen + n) sCap) w' ∧
      w'.heap[b]? = some (.cells (setRange c (off + sLen * i.size) news) tc (0, 0)) ∧
      (∀ k, k ≠ b → w'.heap[k]? = w.heap[k]?) ∧ w'.heap.size = w.heap.size ∧ w'.os = w.os ∧ w'.tape = w.tape ∧ w'.output = w.output := by
  obtain ⟨w', e1, e2⟩ := run_storeCells (P := P) b (off + sLen * i.size) tc news hs.one 0 w c hb (by simpa using hl)
  simp only [Nat.add_zero] at e2
  refine ⟨w', ?_, e2⟩
  rcases hs.kind with ⟨e', hk⟩ | hk <;> simp [Builtin.append_, run_underlying ht, run_underlying hk, Go.sizeOf, typeInfo, hi, hs.len, hroom, hs.cells, Addr.add_lit, e1]

/-- A world but for its draws. -/
theorem Sim.drew {w : World} {g : G} {lim : Nat} {f : List AV} {m : Nat → Option Blk} {a : Act} (hs : Sim w g lim f m a) : Sim w.drew g lim f m a :=
  ⟨hs.fr.same (fun _ _ => rfl), hs.df, ⟨hs.me.al, hs.me.lt, hs.me.nro, hs.me.inj, fun k b h => (hs.me.blk k b h).mono' ⟨fun _ h => h, fun _ _ => rfl⟩ (Nat.le_refl _) (fun _ => rfl) (fun k _ _ h => ⟨h, rfl, rfl⟩), hs.me.rolt, hs.me.nof⟩⟩

theorem put_fgtM {j : Nat} (m : Nat → Option Blk) (k : Nat) : put (fgtM j m) k none = fgtM j (put m k none) := by
  funext i; simp only [fgtM, put]; split <;> rfl

/-- What has no room is appended to. -/
def ontoE (base d : Nat) (tt : Ty) (l2 : List (El tt)) (rd2 : List (Nat × Blk)) (K : Act1 → Prop) : Prop :=
  (l2 = [] → K ⟨.emp tt, rd2, [], []⟩) ∧
  (l2 ≠ [] → l2.length * bsz tt ≤ 140737488355328 ∧ odK base d fun e => K ⟨.own tt e 0 l2.length none, rd2, [(e, some (.row tt l2))], [e]⟩)

/-- What is appended to. -/
def ontoK (base : Nat) (m : Mem) (dst : Option Nat) (tt : Ty) (l2 : List (El tt)) (rd2 : List (Nat × Blk)) (a : AV) (K : Act1 → Prop) : Prop :=
  match dst with
  | some d => match Nat.blt (2 * d + 2) 200000 with
    | true => match a with
      | .own t k off len c => memK m k fun b => match b with
        | .row t' l => match tyB t tt with
          | true => asK t' tt l fun l =>
            (match Nat.beq off 0 with
              | true => (len ≤ l.length ∧ (len + l2.length) * bsz tt ≤ 140737488355328) ∧
                  odK base d fun e => K ⟨.own tt e 0 (len + l2.length) none, (k, .row tt l) :: rd2, [(k, none), (e, some (.row tt (l.take len ++ l2)))], [e]⟩
              | false => False) ∨
            (match c with
              | some c => (len + l2.length ≤ c ∧ off + len ≤ l.length) ∧
                  K ⟨.own tt k off (len + l2.length) (some c), (k, .row tt l) :: rd2, [(k, some (.row tt (l.take (off + len) ++ (l2 ++ l.drop (off + len + l2.length)))))], []⟩
              | none => False)
          | false => False
        | .box _ => False
      | .lit (.slice none 0 0) => ontoE base d tt l2 rd2 K
      | .emp _ => ontoE base d tt l2 rd2 K
      | _ => False
    | false => False
  | none => False

def appendK (P : Program) (C : Cfg) (base : Nat) (m : Mem) (dst : Option Nat) (ats : List TypeId) (a b : AV) (K : Act1 → Prop) : Prop :=
  match ats with
  | [t, tx] => match P.underlying t with
    | some (.slice e) => match C.ty e with
      | some tt => match P.underlying tx with
        | some (.slice _) => srcK m tt b fun l2 rd2 => ontoK base m dst tt l2 rd2 a K
        | _ => False
      | none => False
    | _ => False
  | _ => False

/-- A new row, grown. -/
theorem grow_ok {P : Program} {C : Cfg} (hC : CfgOk P C) {e : TypeId} {tt : Ty} (he : C.ty e = some tt) {t tx ty : TypeId} (ht : P.underlying t = some (.slice e)) {w : World} {g : G} {lim : Nat} {f : List AV} {m : Nat → Option Blk} {a : Act}
    (hs : Sim w g lim f m a) {k : Nat} (hk : k < lim ∨ k % 2 = 1) {l1 l2 : List (El tt)} {news : List Value} {x : Value} (hsrc : Src P (csz tt) tx x l2.length news w) (hnews : RepL w g lim (flat tt l2) news.toArray)
    {bs : Option Addr} {cap : Nat} {olds : List Value} (hold : (Builtin.firstCells (csz tt) l1.length (.slice bs l1.length cap)).run P w.drew = .ok olds.toArray w.drew) (holds : RepL w g lim (flat tt l1) olds.toArray)
    (hg : cap < l1.length + l2.length) (hfit : (l1.length + l2.length) * bsz tt ≤ 140737488355328) (d : Option Nat) :
    ∃ w' r g', (Builtin.append_ #[t, tx] ty #[.slice bs l1.length cap, x]).run P w = .ok r w' ∧
      Sim w' g' lim (fput (fgtL k f) d (.own tt k 0 (l1.length + l2.length) none)) (put (fgtM k m) k (some (.row tt (l1 ++ l2)))) (a.put d r) ∧ Tr g w w' ∧ (∀ base, base ≤ k → LeG base g g') := by
  obtain ⟨i, z, hi, hsz, hby, hz, hzc⟩ := info_of hC he
  have hb1 : 1 ≤ bsz tt := by cases tt <;> decide
  have h63 : ((l1.length + l2.length : Nat) : Int) ≤ 9223372036854775807 := by
    have : (l1.length + l2.length) * 1 ≤ (l1.length + l2.length) * bsz tt := Nat.mul_le_mul_left _ hb1
    omega
  have hrun := run_append_grow_src (P := P) w t tx ty e i z ht hi hz bs l1.length cap olds (by rw [hsz]; exact hold) x l2.length news (by rw [hsz]; exact hsrc) hg h63 (by rw [hby]; exact growslice_fits hg hfit)
  have hcap := grownCap_ge w (l1.length + l2.length) cap e
  generalize hc : grownCap w (l1.length + l2.length) cap e = cap' at hrun hcap
  generalize hcells : (olds ++ news).toArray ++ Builtin.zeroCells z.cells (cap' - (l1.length + l2.length)) = cs at hrun
  have hzs : z.cells.size = csz tt := by have := congrArg List.length hzc; rw [zc_length] at this; simpa using this
  have hl1 : olds.length = l1.length * csz tt := by have := holds.1; rw [flat_length] at this; simpa using this.symm
  have hl2 : news.length = l2.length * csz tt := by have := hnews.1; rw [flat_length] at this; simpa using this.symm
  have hcs : cs.size = cap' * csz tt := by
    rw [← hcells]
    simp only [Array.size_append, List.size_toArray, List.length_append, size_zeroCells, hzs, hl1, hl2]
    rw [← Nat.add_mul, ← Nat.add_mul]; congr 1; omega
  have hs2 := hs.drew
  have htr := Tr.alloc g w.drew (.cells cs e) hs2.me.rolt (fun b hb => (hs2.me.nof b hb).1)
  have hrep2 := holds.append hnews
  rw [← flat_append] at hrep2
  have hbl : BlkRep (w.drew.alloc (.cells cs e)) (g.bind k w.drew.heap.size cs.size) lim w.drew.heap.size cs.size (.row tt (l1 ++ l2)) := by
    refine BlkRep.mkRow ⟨cs, e, heap_alloc_new w.drew _, rfl, ?_, fun j c x hc hx => ?_⟩
    · rw [flat_length, hcs, List.length_append]; exact Nat.mul_le_mul_right _ hcap
    · have hlt := (List.getElem?_eq_some_iff.1 hc).1
      have hlen : (flat tt (l1 ++ l2)).length = (olds ++ news).length := by simpa using hrep2.1
      rw [← hcells, Array.getElem?_append_left (by simp only [List.size_toArray]; omega)] at hx
      exact (hrep2.2 j c x hc hx).bind (men_flat hc k) htr.same
  refine ⟨_, _, g.bind k w.drew.heap.size cs.size, hrun, hs2.push hk cs e (.row tt (l1 ++ l2)) hbl ?_ d, ⟨htr.os, htr.tape, htr.output, htr.size, htr.same, htr.others⟩, fun base hb => LeG.bind base g hb _ _⟩
  have : (⟨w.heap.size, 0, none⟩ : Addr) = ⟨w.drew.heap.size, 0 * csz tt, none⟩ := by simp
  rw [this]
  exact .own tt k 0 _ _ _ none hk hcap (fun n h => by cases h) fun _ => ⟨by simp [G.bind], by simp [G.bind, hcs]⟩

theorem exec_append {P : Program} {o : Oper} {x y : Operand} {t tx : TypeId} (ho : o.op = .call { callee := .builtin .append, args := #[x, y], argTypes := #[t, tx] }) {ρ : Operand → Value} {w w' : World} {r : Value}
    (h : (Builtin.append_ #[t, tx] o.type #[ρ x, ρ y]).run P w = .ok r w') : (execOp ρ o).run P w = .ok (.value r) w' := by
  unfold execOp; rw [ho]; simp [resolve, invoke, builtin, h]

/-- The content of a row behind cells written upon it. -/
theorem row_write {w w' : World} {g : G} {lim : Nat} {tt : Ty} {l l2 : List (El tt)} {p b n : Nat} {c : Array Value} {ty : TypeId} {news : List Value} (hc : c.size = n) (hfl : (flat tt l).length ≤ n)
    (hcells : ∀ (i : Nat) a x, (flat tt l)[i]? = some a → c[i]? = some x → Rep w g lim a x) (hro : ∀ b, g.ro b → w'.heap[b]? = w.heap[b]?)
    (hb : w'.heap[b]? = some (.cells (setRange c (p * csz tt) news) ty (0, 0))) (hn : RepL w g lim (flat tt l2) news.toArray) (hp : p ≤ l.length) (hfit : (p + l2.length) * csz tt ≤ n)
    (tail : List (El tt)) (htail : tail = [] ∨ tail = l.drop (p + l2.length)) : BlkRep w' g lim b n (.row tt (l.take p ++ (l2 ++ tail))) := by
  have hnl : news.length = l2.length * csz tt := by have := hn.1; rw [flat_length] at this; simpa using this.symm
  have h1 : (flat tt (l.take p)).length = p * csz tt := by rw [flat_length, List.length_take, Nat.min_eq_left hp]
  have h2 : (flat tt l2).length = l2.length * csz tt := flat_length _ _
  rw [Nat.add_mul] at hfit
  rw [flat_length] at hfl
  have hsame : ∀ {v x}, Rep w g lim v x → Rep w' g lim v x := fun h => h.mono ⟨fun _ h => h, hro⟩ (Nat.le_refl _) fun _ _ ha => ⟨ha, rfl, rfl⟩
  have htl : (flat tt tail).length ≤ n - (p * csz tt + l2.length * csz tt) := by
    rcases htail with rfl | rfl
    · simp [flat]
    · rw [flat_length, List.length_drop]
      have : (l.length - (p + l2.length)) * csz tt = l.length * csz tt - (p + l2.length) * csz tt := Nat.sub_mul _ _ _
      rw [this, Nat.add_mul]; omega
  refine BlkRep.mkRow ⟨_, ty, hb, by rw [setRange_size]; exact hc, by rw [flat_append, flat_append, List.length_append, List.length_append, h1, h2]; omega, fun i a x hi hx => ?_⟩
  rw [flat_append, flat_append] at hi
  rw [setRange_get _ _ _ _ (by omega)] at hx
  by_cases hi1 : i < p * csz tt
  · rw [List.getElem?_append_left (by omega)] at hi
    rw [if_neg (by omega)] at hx
    rw [flat_take, List.getElem?_take, if_pos hi1] at hi
    exact hsame (hcells i a x hi hx)
  · rw [List.getElem?_append_right (by omega), h1] at hi
    by_cases hi2 : i < p * csz tt + l2.length * csz tt
    · rw [List.getElem?_append_left (by omega)] at hi
      rw [if_pos (by omega)] at hx
      exact hsame (hn.2 _ a x hi (by simpa using hx))
    · rw [List.getElem?_append_right (by omega), h2] at hi
      rw [if_neg (by omega)] at hx
      rcases htail with rfl | rfl
      · simp [flat] at hi
      · rw [flat_drop, List.getElem?_drop, Nat.add_mul] at hi
        rw [show p * csz tt + l2.length * csz tt + (i - p * csz tt - l2.length * csz tt) = i by omega] at hi
        exact hsame (hcells i a x hi hx)

/-- The content of an own row, forgotten. -/
theorem Sim.toNil {w : World} {g : G} {lim : Nat} {f : List AV} {m : Nat → Option Blk} {a : Act} (hs : Sim w g lim f m a) (k : Nat) {t : Ty} {l : List (El t)} (hk : m k = some (.row t l)) : Sim w g lim f (Eng.put m k (some (.row t []))) a := by
  have h := hs.me
  refine ⟨hs.fr, hs.df, fun j => ?_, h.lt, h.nro, h.inj, fun j b hb => ?_, h.rolt, h.nof⟩
  · by_cases hjk : k = j
    · subst hjk; simp [Eng.put, (h.al k).2 (by simp [hk])]
    · simp [Eng.put, hjk, h.al j]
  · by_cases hjk : k = j
    · subst hjk; rw [put_self] at hb; cases hb
      rcases h.blk k _ hk with ⟨h0, _⟩ | ⟨h0, c, ty, h1, h2, h3, h4⟩
      · exact .inl ⟨h0, rfl⟩
      · exact .inr ⟨h0, c, ty, h1, h2, by simp [flat], fun i a x hi => by simp [flat] at hi⟩
    · rw [put_ne _ _ hjk] at hb; exact h.blk j b hb

theorem appendK_ok {P : Program} {C : Cfg} (hC : CfgOk P C) {base : Nat} {m : Mem} {f : List AV} {o : Oper} {x y : Operand} {ats : Array TypeId}
    (ho : o.op = .call { callee := .builtin .append, args := #[x, y], argTypes := ats }) {K : Act1 → Prop} (h : appendK P C base m o.dst ats.toList (aval f x) (aval f y) K) :
    ∃ c, K c ∧ (∀ p ∈ c.rd, mget m p.1 = some p.2) ∧ AOk P base o f c := by
  unfold appendK at h
  split at h
  case h_2 => exact h.elim
  rename_i t tx hats
  have hats' : ats = #[t, tx] := by rw [← Array.toArray_toList (xs := ats), hats]
  subst hats'
  split at h
  case h_2 => exact h.elim
  rename_i e ht
  cases hce : C.ty e with
  | none => rw [hce] at h; exact h.elim
  | some tt =>
  rw [hce] at h
  simp only at h
  split at h
  case h_2 => exact h.elim
  rename_i e' htx
  obtain ⟨l2, rd2, h, hrd2, hy⟩ := srcK_ok h
  obtain ⟨i0, z0, hi0, hsz0, hby0, hz0, hzc0⟩ := info_of hC hce
  have hxm : x ∈ o.op.operands.toList := by rw [ho]; simp [Op.operands, Call.operands]
  have hym : y ∈ o.op.operands.toList := by rw [ho]; simp [Op.operands, Call.operands]
  unfold ontoK at h
  cases hd : o.dst with
  | none => rw [hd] at h; exact h.elim
  | some d =>
  rw [hd] at h
  simp only at h
  cases hbl : Nat.blt (2 * d + 2) 200000 with
  | false => rw [hbl] at h; exact h.elim
  | true =>
  rw [hbl] at h
  have hkl : base + (2 * d + 1) < base + L ∨ (base + (2 * d + 1)) % 2 = 1 := .inl (idlt base d hbl).2
  have empty : ontoE base d tt l2 rd2 K → (∀ (w : World) (g : G) (lim : Nat) (v : Value), Rep w g lim (aval f x) v → ∃ ad, v = .slice ad 0 0) → ∃ c, K c ∧ (∀ p ∈ c.rd, mget m p.1 = some p.2) ∧ AOk P base o f c := by
    intro h hnil
    by_cases hl2 : l2 = []
    · subst hl2
      refine ⟨_, h.1 rfl, hrd2, AOk.val fun f' m' w g a hs hop hrd => ?_⟩
      obtain ⟨news, hn⟩ := hy m' w g (base + L) (a.eval y) hs.me hrd (hop y hym)
      obtain ⟨ad, hE⟩ := hnil _ _ _ _ (hop x hxm)
      have hsrc := hn.src (P := P) htx
      have hcl := hsrc.cells
      rw [← hsz0] at hcl
      simp only [List.length_nil] at hcl
      have hnn : news = [] := List.eq_nil_of_length_eq_zero (by rw [hn.len]; simp)
      subst hnn
      refine ⟨.slice ad 0 0, ?_, .emp _ _⟩
      refine exec_append ho ?_
      rw [hE]
      cases ad <;> simp [Builtin.append_, run_underlying ht, run_underlying htx, Go.sizeOf, typeInfo, hi0, hsrc.len, hcl, storeCells]
    · obtain ⟨hfit, hK⟩ := h.2 hl2
      rw [odK_eq] at hK
      refine ⟨_, hK, hrd2, fun f' m' hop hrd w g a hs N Q hN => ?_⟩
      obtain ⟨news, hn⟩ := hy m' w g (base + L) (a.eval y) hs.me hrd (hop y hym _ _ _ _ (rep_aval hs y))
      obtain ⟨ad, hE⟩ := hnil _ _ _ _ (hop x hxm _ _ _ _ (rep_aval hs x))
      have hpos : 0 < l2.length := by cases l2 with | nil => exact absurd rfl hl2 | cons _ _ => simp
      have hl0 : ∀ b : Addr, (loadCells b 0).run P w.drew = .ok #[] w.drew := fun b => by simpa using run_loadCells_list (P := P) w.drew b [] (by simp)
      obtain ⟨w', r, g', r1, r2, r3, r4⟩ := grow_ok hC hce (t := t) (tx := tx) (ty := o.type) ht hs hkl (l1 := []) (l2 := l2) (hn.src (P := P) htx) hn.rep (bs := ad) (cap := 0) (olds := [])
        (by cases ad <;> simp [Builtin.firstCells, hl0]) ⟨rfl, fun i c x hc => by simp [flat] at hc⟩ (by simpa using hpos) (by simpa using hfit) o.dst
      unfold Oper.wp
      rw [exec_append ho (by rw [hE]; exact r1), Oper.upon_value]
      refine hN w' g' _ ?_ r3 (r4 base (Nat.le_add_right _ _))
      simp only [List.length_nil, Nat.zero_add, List.nil_append] at r2
      exact r2
  simp only at h
  split at h
  · rename_i t1 k off len c hax
    obtain ⟨b, hb, h⟩ := memK_ok h
    cases b with
    | box cs => exact h.elim
    | row t' l =>
    simp only at h
    cases htb : tyB t1 tt with
    | false => rw [htb] at h; exact h.elim
    | true =>
    rw [htb] at h
    have e1 := tyB_ok htb
    subst e1
    obtain ⟨e2, h5⟩ := asK_ok h
    clear h
    subst e2
    have h := h5
    clear h5
    have common : ∀ {f' : List AV} {m' : Nat → Option Blk} {w : World} {g : G} {a : Act}, Sim w g (base + L) f' m' a → (∀ x ∈ o.op.operands.toList, Le (aval f' x) (aval f x)) → m' k = some (.row t' l) → (∀ p ∈ rd2, m' p.1 = some p.2) →
        ∃ news, g.al k ∧ Yields2 w g (base + L) t' (a.eval y) l2 news ∧
          ((∃ ad, a.eval x = .slice ad 0 0 ∧ len = 0 ∧ (∀ n, c = some n → n = 0)) ∨
          (∃ cap c0 ty0, 0 < g.sz k ∧ a.eval x = .slice (some ⟨g.be k, off * csz t', none⟩) len cap ∧ len ≤ cap ∧ (∀ n, c = some n → cap = n) ∧ (off + cap) * csz t' ≤ g.sz k ∧
          w.heap[g.be k]? = some (.cells c0 ty0 (0, 0)) ∧ c0.size = g.sz k ∧ (flat t' l).length ≤ g.sz k ∧ (∀ (i : Nat) a x, (flat t' l)[i]? = some a → c0[i]? = some x → Rep w g (base + L) a x))) := by
      intro f' m' w g a hs hop hmk hm2
      have hal : g.al k := (hs.me.al k).2 (by simp [hmk])
      have hrx := hop x hxm _ _ _ _ (rep_aval hs x)
      rw [hax] at hrx
      obtain ⟨news, hn⟩ := hy m' w g (base + L) (a.eval y) hs.me hm2 (hop y hym _ _ _ _ (rep_aval hs y))
      refine ⟨news, hal, hn, ?_⟩
      generalize hE : a.eval x = E at hrx
      cases hrx with
      | own _ _ _ _ b cap _ hk hc hcc hh =>
        obtain ⟨rfl, h2⟩ := hh hal
        rcases Nat.eq_zero_or_pos (g.sz k) with hz | hz
        · have hcz := csz_pos t'
          have : cap = 0 := by
            rcases Nat.eq_zero_or_pos cap with h0 | h0
            · exact h0
            · have := Nat.mul_pos (show 0 < off + cap by omega) hcz; omega
          subst this
          exact .inl ⟨_, by rw [Nat.le_zero.1 hc], Nat.le_zero.1 hc, fun n hn => (hcc n hn).symm⟩
        · obtain ⟨c0, ty0, b1, b2, b3, b4⟩ := (hs.me.blk k _ hmk).getRow hz
          exact .inr ⟨cap, c0, ty0, hz, rfl, hc, hcc, h2, b1, b2, b3, b4⟩
      | ownE _ _ _ _ ad hk hcc => exact .inl ⟨ad, rfl, rfl, hcc⟩
    -- what is appended to is nothing
    have none0 : ∀ {w : World} {g : G} {a : Act} {ad : Option Addr} {news : List Value}, a.eval x = .slice ad 0 0 → Yields2 w g (base + L) t' (a.eval y) [] news →
        (execOp a.eval o).run P w = .ok (.value (.slice ad 0 0)) w := by
      intro w g a ad news hE hn
      have hsrc := hn.src (P := P) htx
      have hcl := hsrc.cells
      rw [← hsz0] at hcl
      simp only [List.length_nil] at hcl
      have hnn : news = [] := List.eq_nil_of_length_eq_zero (by rw [hn.len]; simp)
      subst hnn
      refine exec_append ho ?_
      rw [hE]
      cases ad <;> simp [Builtin.append_, run_underlying ht, run_underlying htx, Go.sizeOf, typeInfo, hi0, hsrc.len, hcl, storeCells]
    rcases h with h | h
    · cases hoff : Nat.beq off 0 with
      | false => rw [hoff] at h; exact h.elim
      | true =>
      rw [hoff] at h
      obtain ⟨⟨hle, hfit⟩, hK⟩ := h
      rw [odK_eq] at hK
      have hoff0 := nbt.1 hoff
      subst hoff0
      refine ⟨_, hK, fun p hp => ?_, fun f' m' hop hrd w g a hs N Q hN => ?_⟩
      · rcases List.mem_cons.1 hp with rfl | hp
        · exact hb
        · exact hrd2 p hp
      have hmk : m' k = some (.row t' l) := hrd (k, .row t' l) (by simp)
      obtain ⟨news, hal, hn, hcase⟩ := common hs hop hmk (fun p hp => hrd p (by simp [hp]))
      rcases hcase with ⟨ad, hE, rfl, hcc⟩ | ⟨cap, c0, ty0, hz0, hE, hc, hcc, hsz, b1, b2, b3, b4⟩
      · by_cases hl2 : l2 = []
        · subst hl2
          have hrun := none0 hE hn
          have hs2 := hs.fgt (base + (2 * d + 1))
          have hk2 : fgtM (base + (2 * d + 1)) m' k = some (.row t' l) := by simp [fgtM, hmk, fgtB]
          have hs3 : Sim w (g.ren k (base + (2 * d + 1))) (base + L) (fgtL (base + (2 * d + 1)) f') (put (put (fgtM (base + (2 * d + 1)) m') k none) (base + (2 * d + 1)) (some (.row t' l))) a :=
            ⟨hs2.fr.ren (menL_fgtL _ _), hs2.df, hs2.me.ren hkl hk2 (fun i b hb => by
              simp only [fgtM, Option.map_eq_some_iff] at hb
              obtain ⟨b', _, rfl⟩ := hb
              exact menB_fgtB _ b')⟩
          have hs4 := hs3.toNil (base + (2 * d + 1)) (t := t') (l := l) (put_self _ _ _)
          unfold Oper.wp
          rw [hrun, Oper.upon_value]
          refine hN w _ _ (?_ : Sim w (g.ren k (base + (2 * d + 1))) (base + L) (fput (fgtL (base + (2 * d + 1)) f') o.dst (.own t' (base + (2 * d + 1)) 0 0 none)) _ _) (Tr.refl g w) (LeG.ren (Nat.le_add_right _ _))
          have := hs4.put (v := .own t' (base + (2 * d + 1)) 0 0 none) (x := .slice ad 0 0) (.ownE _ _ _ _ _ hkl (fun n h => by cases h)) o.dst
          simp only [Act1.me, fgtsM, putsM, List.take_zero, List.append_nil]
          have hmem : put (put (put (fgtM (base + (2 * d + 1)) m') k none) (base + (2 * d + 1)) (some (.row t' l))) (base + (2 * d + 1)) (some (.row t' [])) = put (put (fgtM (base + (2 * d + 1)) m') k none) (base + (2 * d + 1)) (some (.row t' [])) := by
            funext i; simp only [put]; split <;> rfl
          rw [hmem] at this
          exact this
        · have hpos : 0 < l2.length := by cases l2 with | nil => exact absurd rfl hl2 | cons _ _ => simp
          have hl0 : ∀ b : Addr, (loadCells b 0).run P w.drew = .ok #[] w.drew := fun b => by simpa using run_loadCells_list (P := P) w.drew b [] (by simp)
          have hsk : Sim w (g.kill k) (base + L) f' (put m' k none) a := ⟨hs.fr.kill k, hs.df, hs.me.kill k⟩
          obtain ⟨w', r, g', r1, r2, r3, r4⟩ := grow_ok hC hce (t := t) (tx := tx) (ty := o.type) ht hsk hkl (l1 := []) (l2 := l2) (hn.src (P := P) htx) (hn.rep.kill k) (bs := ad) (cap := 0) (olds := [])
            (by cases ad <;> simp [Builtin.firstCells, hl0]) ⟨rfl, fun i c x hc => by simp [flat] at hc⟩ (by simpa using hpos) (by simpa using hfit) o.dst
          unfold Oper.wp
          rw [exec_append ho (by rw [hE]; exact r1), Oper.upon_value]
          refine hN w' g' _ ?_ ⟨r3.os, r3.tape, r3.output, r3.size, r3.same, r3.others⟩ ((LeG.kill base g k).trans (r4 base (Nat.le_add_right _ _)))
          simp only [Act1.fr, Act1.me, fgtsF, fgtsM, putsM, put_fgtM]
          simp only [List.length_nil, Nat.zero_add, List.nil_append] at r2
          simpa using r2
      simp only [Nat.zero_mul, Nat.zero_add] at hE hsz
      have hnl := hn.len
      have hsrc := hn.src (P := P) htx
      by_cases hroom : len + l2.length ≤ cap
      · have hmul : (len + l2.length) * csz t' ≤ cap * csz t' := Nat.mul_le_mul_right _ hroom
        rw [Nat.add_mul] at hmul
        obtain ⟨w', r1, r2, r3, r4, r5, r6, r7⟩ := run_app_room (P := P) w t tx o.type e i0 ht hi0 (g.be k) 0 len cap (a.eval y) l2.length news (by rw [hsz0]; exact hsrc) hroom c0 ty0 b1 (by rw [hsz0]; omega)
        have hro : ∀ b, g.ro b → w'.heap[b]? = w.heap[b]? := fun b hr => r3 b (fun e => hs.me.nro k hal hz0 (e ▸ hr))
        rw [hsz0, Nat.zero_add] at r2
        have hblk := row_write (l2 := l2) b2 b3 b4 hro r2 hn.rep hle (by rw [Nat.add_mul]; omega) [] (.inl rfl)
        rw [List.append_nil] at hblk
        unfold Oper.wp
        rw [exec_append ho (by rw [hE]; exact r1), Oper.upon_value]
        have hs1 : Sim w' g (base + L) f' (put m' k (some (.row t' (l.take len ++ l2)))) a := ⟨hs.fr.same hro, hs.df, hs.me.write hal hz0 _ (by omega) (fun b hb _ => r3 b hb) hblk⟩
        have hs2 := hs1.fgt (base + (2 * d + 1))
        have hk2 : fgtM (base + (2 * d + 1)) (put m' k (some (.row t' (l.take len ++ l2)))) k = some (.row t' (l.take len ++ l2)) := by simp [fgtM, put, fgtB]
        have hs3 : Sim w' (g.ren k (base + (2 * d + 1))) (base + L) (fgtL (base + (2 * d + 1)) f') (put (put (fgtM (base + (2 * d + 1)) (put m' k (some (.row t' (l.take len ++ l2))))) k none) (base + (2 * d + 1)) (some (.row t' (l.take len ++ l2)))) a :=
          ⟨hs2.fr.ren (menL_fgtL _ _), hs2.df, hs2.me.ren hkl hk2 (fun i b hb => by
            simp only [fgtM, Option.map_eq_some_iff] at hb
            obtain ⟨b', _, rfl⟩ := hb
            exact menB_fgtB _ b')⟩
        have hmem : put (put (fgtM (base + (2 * d + 1)) (put m' k (some (.row t' (l.take len ++ l2))))) k none) (base + (2 * d + 1)) (some (.row t' (l.take len ++ l2))) =
            put (put (fgtM (base + (2 * d + 1)) m') k none) (base + (2 * d + 1)) (some (.row t' (l.take len ++ l2))) := by
          funext i; simp only [put, fgtM]
          split
          · rfl
          · split
            · rfl
            · rename_i h1 h2; simp [h2]
        rw [hmem] at hs3
        refine hN w' (g.ren k (base + (2 * d + 1))) _ (hs3.put (v := .own t' (base + (2 * d + 1)) 0 (len + l2.length) none) ?_ o.dst) ⟨r5, r6, r7, by omega, hro, fun b hb => r3 b (fun e => (hs.me.nof b hb).2.2 k hal hz0 e.symm)⟩ (LeG.ren (Nat.le_add_right _ _))
        have : (⟨g.be k, 0, none⟩ : Addr) = ⟨g.be k, 0 * csz t', none⟩ := by simp
        rw [this]
        exact .own t' _ 0 _ _ cap none hkl hroom (fun n h => by cases h) fun _ => ⟨by simp [G.ren, G.bind], by simp [G.ren, G.bind, G.kill]; exact hsz⟩
      · have hsk : Sim w (g.kill k) (base + L) f' (put m' k none) a := ⟨hs.fr.kill k, hs.df, hs.me.kill k⟩
        have hl1 : (l.take len).length = len := by rw [List.length_take, Nat.min_eq_left hle]
        -- what is copied
        have hself : srcK [(k, .row t' l)] t' (.own t' k 0 len c) (fun l' rd => l' = l.take len ∧ rd = [(k, .row t' l)]) := by
          simp only [srcK, memK, Nat.beq_refl]
          have h1 : tyB t' t' = true := by simp [tyB, Nat.beq_refl]
          rw [h1]
          have h2 : castL t' t' l = some l := by cases t' <;> rfl
          simp only [asK, h2, List.drop_zero, Nat.zero_add]
          refine ⟨hle, ?_⟩
          simp
        obtain ⟨l', rd', ⟨rfl, rfl⟩, _, hself⟩ := srcK_ok hself
        obtain ⟨olds, ho2⟩ := hself m' w g (base + L) (a.eval x) hs.me (by simpa using hmk) (by
          rw [hE]
          have : (⟨g.be k, 0, none⟩ : Addr) = ⟨g.be k, 0 * csz t', none⟩ := by simp
          rw [this]
          exact .own t' k 0 len _ cap c (by have := hs.me.lt k hal; exact this) hc hcc fun _ => ⟨rfl, by simpa using hsz⟩)
        have hosrc := ho2.src (P := P) htx
        rw [hE] at hosrc
        have hold := hosrc.cellsD
        rw [hl1] at hold
        obtain ⟨w', r, g', r1, r2, r3, r4⟩ := grow_ok hC hce (t := t) (tx := tx) (ty := o.type) ht hsk hkl (l1 := l.take len) (l2 := l2) hsrc (hn.rep.kill k) (bs := some ⟨g.be k, 0, none⟩) (cap := cap) (olds := olds)
          (by rw [hl1]; exact hold) (ho2.rep.kill k) (by rw [hl1]; omega) (by rw [hl1]; exact hfit) o.dst
        rw [hl1] at r1 r2
        unfold Oper.wp
        rw [exec_append ho (by rw [hE]; exact r1), Oper.upon_value]
        refine hN w' g' _ ?_ ⟨r3.os, r3.tape, r3.output, r3.size, r3.same, r3.others⟩ ((LeG.kill base g k).trans (r4 base (Nat.le_add_right _ _)))
        simp only [Act1.fr, Act1.me, fgtsF, fgtsM, putsM, put_fgtM]
        exact r2
    · cases c with
      | none => exact h.elim
      | some c =>
      obtain ⟨⟨hle, hle2⟩, hK⟩ := h
      refine ⟨_, hK, fun p hp => ?_, fun f' m' hop hrd w g a hs N Q hN => ?_⟩
      · rcases List.mem_cons.1 hp with rfl | hp
        · exact hb
        · exact hrd2 p hp
      have hmk : m' k = some (.row t' l) := hrd (k, .row t' l) (by simp)
      obtain ⟨news, hal, hn, hcase⟩ := common hs hop hmk (fun p hp => hrd p (by simp [hp]))
      rcases hcase with ⟨ad, hE, rfl, hcc⟩ | ⟨cap, c0, ty0, hz0, hE, hc, hcc, hsz, b1, b2, b3, b4⟩
      · obtain rfl := hcc c rfl
        have hl2 : l2 = [] := List.eq_nil_of_length_eq_zero (by omega)
        subst hl2
        have hrun := none0 hE hn
        have hput : put m' k (some (.row t' l)) = m' := by
          funext i; simp only [put]; split
          · rename_i e; rw [← e, hmk]
          · rfl
        unfold Oper.wp
        rw [hrun, Oper.upon_value]
        have := hs.put (v := .own t' k off 0 (some 0)) (x := .slice ad 0 0) (.ownE _ _ _ _ _ (hs.me.lt k hal) (fun n h => by cases h; rfl)) o.dst
        refine hN w g _ ?_ (Tr.refl g w) (LeG.refl base g)
        simp only [Act1.fr, Act1.me, fgtsF, fgtsM, putsM, List.nil_append, List.length_nil, Nat.add_zero, List.take_append_drop, hput]
        exact this
      obtain rfl := hcc c rfl
      have hnl := hn.len
      have hsrc := hn.src (P := P) htx
      have hmul : (off + (len + l2.length)) * csz t' ≤ (off + cap) * csz t' := Nat.mul_le_mul_right _ (by omega)
      have hmul2 : (off + (len + l2.length)) * csz t' = (off * csz t' + len * csz t') + l2.length * csz t' := by rw [Nat.add_mul, Nat.add_mul]; omega
      obtain ⟨w', r1, r2, r3, r4, r5, r6, r7⟩ := run_app_room (P := P) w t tx o.type e i0 ht hi0 (g.be k) (off * csz t') len cap (a.eval y) l2.length news (by rw [hsz0]; exact hsrc) hle c0 ty0 b1 (by rw [hsz0]; omega)
      have hro : ∀ b, g.ro b → w'.heap[b]? = w.heap[b]? := fun b hr => r3 b (fun e => hs.me.nro k hal hz0 (e ▸ hr))
      rw [hsz0, ← Nat.add_mul] at r2
      have hblk := row_write (l2 := l2) b2 b3 b4 hro r2 hn.rep hle2 (by rw [Nat.add_assoc]; omega) (l.drop (off + len + l2.length)) (.inr rfl)
      unfold Oper.wp
      rw [exec_append ho (by rw [hE]; exact r1), Oper.upon_value]
      have hs1 : Sim w' g (base + L) f' (put m' k (some (.row t' (l.take (off + len) ++ (l2 ++ l.drop (off + len + l2.length)))))) a := ⟨hs.fr.same hro, hs.df, hs.me.write hal hz0 _ (by omega) (fun b hb _ => r3 b hb) hblk⟩
      refine hN w' g _ (hs1.put (v := .own t' k off (len + l2.length) (some cap)) ?_ o.dst) ⟨r5, r6, r7, by omega, hro, fun b hb => r3 b (fun e => (hs.me.nof b hb).2.2 k hal hz0 e.symm)⟩ (LeG.refl base g)
      exact .own t' k off _ _ cap (some cap) (hs.me.lt k hal) hle (fun n h => by cases h; rfl) fun _ => ⟨rfl, hsz⟩
  · rename_i hax
    exact empty h (fun w g lim x hr => ⟨none, by rw [hax] at hr; exact rep_lit hr⟩)
  · rename_i te hax
    exact empty h (fun w g lim x hr => by rw [hax] at hr; cases hr with | emp _ ad => exact ⟨ad, rfl⟩)
  · exact h.elim

end Eng
