/- THE OPERATIONS OVER ABSTRACT VALUES, third part: stores and new variables. -/
import Derived.Test.YtdbnihckckekcaaOps2
set_option linter.unusedSimpArgs false
set_option linter.unusedVariables false
namespace Eng
open Go Go.RowKit

inductive LeL : List AV → List AV → Prop where
  | nil : LeL [] []
  | cons {c c' : AV} {r r' : List AV} (h : Le c c') (h' : LeL r r') : LeL (c :: r) (c' :: r')
theorem LeL.refl : ∀ l, LeL l l
  | [] => .nil
  | c :: r => .cons (.refl c) (LeL.refl r)
theorem LeL.length {l l' : List AV} (h : LeL l l') : l.length = l'.length := by
  induction h with
  | nil => rfl
  | cons _ _ ih => simp [ih]
theorem LeL.get {l l' : List AV} (h : LeL l l') {i : Nat} {c' : AV} (hc : l'[i]? = some c') : ∃ c, l[i]? = some c ∧ Le c c' := by
  induction h generalizing i with
  | nil => simp at hc
  | cons h _ ih =>
    cases i with
    | zero => simp at hc; subst hc; exact ⟨_, by simp, h⟩
    | succ i => simp at hc; simpa using ih hc

theorem toSlots_ok {c : AV} {l : List Slot} (h : toSlots c = some l) : Le c (.vec .slot l) := by
  unfold toSlots at h; split at h <;> simp at h <;> subst h <;> intro w g lim x hr
  · exact hr
  · cases hr; exact .vecE _ _ _
  · cases hr; exact .vecE _ _ _
theorem toU8s_ok {c : AV} {l : List Int} (h : toU8s c = some l) : Le c (.vec .u8 l) := by
  unfold toU8s at h; split at h <;> simp at h <;> subst h <;> intro w g lim x hr
  · exact hr
  · cases hr; exact .vecE _ _ _
  · cases hr; exact .vecE _ _ _
theorem toI64s_ok {c : AV} {l : List Int} (h : toI64s c = some l) : Le c (.vec .i64 l) := by
  unfold toI64s at h; split at h <;> simp at h <;> subst h <;> intro w g lim x hr
  · exact hr
  · cases hr; exact .vecE _ _ _
  · cases hr; exact .vecE _ _ _
theorem toHeaps_ok {c : AV} {l : List Heap} (h : toHeaps c = some l) : Le c (.vec .heap l) := by
  unfold toHeaps at h; split at h <;> simp at h <;> subst h <;> intro w g lim x hr
  · exact hr
  · cases hr; exact .vecE _ _ _
  · cases hr; exact .vecE _ _ _
theorem toBoxes_ok {c : AV} {l : List Box} (h : toBoxes c = some l) : Le c (.vec .box l) := by
  unfold toBoxes at h; split at h <;> simp at h <;> subst h <;> intro w g lim x hr
  · exact hr
  · cases hr; exact .vecE _ _ _
  · cases hr; exact .vecE _ _ _
theorem toOrders_ok {c : AV} {l : List Order} (h : toOrders c = some l) : Le c (.vec .order l) := by
  unfold toOrders at h; split at h <;> simp at h <;> subst h <;> intro w g lim x hr
  · exact hr
  · cases hr; exact .vecE _ _ _
  · cases hr; exact .vecE _ _ _

theorem ofCells_ok {t : Ty} {cs : List AV} {e : El t} (h : ofCells t cs = some e) : LeL cs (cells t e) := by
  unfold ofCells at h
  split at h
  case h_5 => simp only [Option.map_eq_some_iff] at h; obtain ⟨l, h1, rfl⟩ := h; exact .cons (.refl _) (.cons (toSlots_ok h1) .nil)
  case h_6 =>
    split at h <;> simp at h
    subst h; rename_i h1 h2 h3
    exact .cons (.refl _) (.cons (.refl _) (.cons (toU8s_ok h1) (.cons (toHeaps_ok h2) (.cons (toBoxes_ok h3) .nil))))
  case h_7 =>
    split at h <;> simp at h
    subst h; rename_i h1 h2
    exact .cons (.refl _) (.cons (.refl _) (.cons (.refl _) (.cons (toSlots_ok h1) (.cons (.refl _) (.cons (toSlots_ok h2) (.cons (.refl _) .nil))))))
  case h_13 => simp only [Option.map_eq_some_iff] at h; obtain ⟨l, h1, rfl⟩ := h; exact .cons (toSlots_ok h1) (.cons (.refl _) (.cons (.refl _) .nil))
  case h_14 => exact .cons (toI64s_ok h) .nil
  case h_15 => exact .cons (toOrders_ok h) .nil
  all_goals first
    | (simp at h; subst h; exact LeL.refl _)
    | (simp at h; done)

def ofK (t : Ty) (cs : List AV) (K : El t → Prop) : Prop := match ofCells t cs with | some e => K e | none => False
theorem ofK_ok {t : Ty} {cs : List AV} {K : El t → Prop} (h : ofK t cs K) : ∃ e, K e ∧ LeL cs (cells t e) := by
  unfold ofK at h
  cases he : ofCells t cs with
  | none => rw [he] at h; exact h.elim
  | some e => rw [he] at h; exact ⟨e, h, ofCells_ok he⟩

/-- A store. -/
def storeK (P : Program) (m : Mem) (t : TypeId) (a v : AV) (K : Act1 → Prop) : Prop :=
  cellsK v fun vs => match szOf P t with
    | some (n + 1) => match Nat.beq (n + 1) vs.length with
      | true => match a with
        | .ptr k off => memK m k fun b => match b with
          | .box cs => overK cs off vs fun cs' => K ⟨und, [(k, .box cs)], [(k, some (.box cs'))], []⟩
          | .row _ _ => False
        | .rptr tt k i off => memK m k fun b => match b with
          | .box _ => False
          | .row t' l => match Nat.beq (csz tt) (csz t') with
            | true => i < l.length ∧ overK (cells t' (elt t' l i)) off vs fun cs' => ofK t' cs' fun e => K ⟨und, [(k, .row t' l)], [(k, some (.row t' (l.set i e)))], []⟩
            | false => False
        | _ => False
      | false => False
    | _ => False

theorem flat_set {t : Ty} {l : List (El t)} {i : Nat} (hi : i < l.length) (e : El t) (j : Nat) :
    (flat t (l.set i e))[j]? = if i * csz t ≤ j ∧ j < i * csz t + csz t then (cells t e)[j - i * csz t]? else (flat t l)[j]? := by
  have hp := csz_pos t
  by_cases hj : j < l.length * csz t
  · have hq : j / csz t < l.length := Nat.div_lt_of_lt_mul (by rw [Nat.mul_comm]; exact hj)
    have hjm : j = j / csz t * csz t + j % csz t := by rw [Nat.mul_comm]; exact (Nat.div_add_mod j (csz t)).symm
    have hm : j % csz t < csz t := Nat.mod_lt _ hp
    have hl2 : (l.set i e)[j / csz t]? = some (if i = j / csz t then e else elt t l (j / csz t)) := by
      rw [List.getElem?_set]
      by_cases hij : i = j / csz t
      · subst hij; simp [hi]
      · simp [hij, elt_get t l _ hq]
    rw [hjm, flat_get t _ _ _ hl2 _ hm, flat_get t l _ _ (elt_get t l _ hq) _ hm]
    by_cases hij : i = j / csz t
    · rw [← hij, if_pos rfl, if_pos (by omega)]
      congr 1; omega
    · rw [if_neg hij, if_neg]
      intro hc
      apply hij
      have h1 : i * csz t < (j / csz t + 1) * csz t := by rw [Nat.succ_mul]; omega
      have h2 : j / csz t * csz t < (i + 1) * csz t := by rw [Nat.succ_mul]; omega
      have h3 := Nat.lt_of_mul_lt_mul_right h1
      have h4 := Nat.lt_of_mul_lt_mul_right h2
      omega
  · have h1 : (flat t (l.set i e))[j]? = none := List.getElem?_eq_none (by rw [flat_length]; simp; omega)
    have h2 : (flat t l)[j]? = none := List.getElem?_eq_none (by rw [flat_length]; omega)
    have h3 : (i + 1) * csz t ≤ l.length * csz t := Nat.mul_le_mul_right _ hi
    rw [Nat.succ_mul] at h3
    rw [h1, if_neg (by omega), h2]

theorem execOp_store {P : Program} {o : Oper} {t : TypeId} {x y : Operand} (ho : o.op = .store t x y) (ρ : Operand → Value) (w : World) {w' : World} (h : (Instr.storeAt t (ρ x) (ρ y)).run P w = .ok () w') :
    (execOp ρ o).run P w = .ok .skip w' := by
  unfold execOp; rw [ho]; simp [h]

/-- A store into own memory, as the world has it. -/
theorem store_ok {P : Program} {base : Nat} {o : Oper} {t : TypeId} {x y : Operand} (ho : o.op = .store t x y) {f : List AV} {m : Nat → Option Blk} {w : World} {g : G} {a : Act}
    (hs : Sim w g (base + L) f m a) {k : Nat} (hal : g.al k) (hz0 : 0 < g.sz k) {off : Nat} (he : a.eval x = .pointer (some ⟨g.be k, off, none⟩)) (hsz : szOf P t = some (a.eval y).cells.size)
    (h1 : ∀ v ∈ (a.eval y).cells.toList, v.oneCell' = true) {c : Array Value} {ty : TypeId} (hb : w.heap[g.be k]? = some (.cells c ty (0, 0))) (hl : off + (a.eval y).cells.size ≤ c.size) (bl : Blk)
    (hbl : ∀ w' : World, (∀ b, g.ro b → w'.heap[b]? = w.heap[b]?) → w'.heap[g.be k]? = some (.cells (setRange c off (a.eval y).cells.toList) ty (0, 0)) → BlkRep w' g (base + L) (g.be k) (g.sz k) bl) :
    ∀ (K : Act → World → Prop) (Q : Exit → Act → World → Prop),
      (∀ w' g' a', Sim w' g' (base + L) (fput f o.dst und) (put m k (some bl)) a' → Tr g w w' → LeG base g g' → K a' w') → o.wp P a w K Q := by
  intro K Q hK
  obtain ⟨w', e1, e2, e3, e4, e5, e6, e7⟩ := run_storeAt (P := P) (w := w) (g.be k) off ty c (a.eval y) hsz h1 hb hl
  have hro : ∀ b, g.ro b → w'.heap[b]? = w.heap[b]? := fun b hr => e3 b (fun e => hs.me.nro k hal hz0 (e ▸ hr))
  unfold Oper.wp
  rw [execOp_store ho _ w (by rw [he]; exact e1), Oper.upon_skip]
  refine hK w' g _ ⟨?_, (Act.put_df _ _ _).trans hs.df, ?_⟩ ⟨e5, e6, e7, by omega, hro, fun b hb => e3 b (fun e => (hs.me.nof b hb).2.2 k hal hz0 e.symm)⟩ (LeG.refl base g)
  · exact (hs.fr.same hro).put (.lit _) o.dst
  · exact hs.me.write hal hz0 bl (by omega) (fun b hb _ => e3 b hb) (hbl w' hro e2)

theorem storeK_ok {P : Program} {base : Nat} {m : Mem} {f : List AV} {o : Oper} {t : TypeId} {x y : Operand} (ho : o.op = .store t x y) {K : Act1 → Prop}
    (h : storeK P m t (aval f x) (aval f y) K) : ∃ c, K c ∧ (∀ p ∈ c.rd, mget m p.1 = some p.2) ∧ AOk P base o f c := by
  have hx : x ∈ o.op.operands.toList := by rw [ho]; simp [Op.operands]
  have hy : y ∈ o.op.operands.toList := by rw [ho]; simp [Op.operands]
  obtain ⟨vs, h, hvs⟩ := cellsK_ok h
  split at h
  case h_2 => exact h.elim
  rename_i n hsz
  replace hsz : szOf P t = some (n + 1) := hsz
  cases hn : Nat.beq (n + 1) vs.length with
  | false => rw [hn] at h; exact h.elim
  | true =>
  rw [hn] at h
  have hnl : n + 1 = vs.length := nbt.1 hn
  have hne : vs ≠ [] := by intro e; rw [e] at hnl; cases hnl
  cases ha : aval f x <;> rw [ha] at h <;> simp only at h
  case ptr k off =>
    obtain ⟨b, hb, h⟩ := memK_ok h
    cases b with
    | row t' l => exact h.elim
    | box cs =>
      simp only at h
      obtain ⟨cs', hK, q1, q2, q3⟩ := overK_ok h
      refine ⟨_, hK, by simp [hb], fun f' m' hop hrd w g a hs => ?_⟩
      have hm : m' k = some (.box cs) := hrd (k, .box cs) (by simp)
      have hal : g.al k := (hs.me.al k).2 (by simp [hm])
      have hr := hop x hx _ _ _ _ (rep_aval hs x)
      rw [ha] at hr
      have he : a.eval x = .pointer (some ⟨g.be k, off, none⟩) := rep_ptr hr hal
      have hry := hop y hy _ _ _ _ (rep_aval hs y)
      obtain ⟨v1, v2, v3⟩ := hvs hry
      obtain ⟨hz0, c, ty, b1, b2, b3, b4⟩ := hs.me.blk k _ hm
      have hlen := q2 hne
      refine store_ok ho hs hal hz0 he (by rw [hsz, hnl, v1]) v3 b1 (by omega) (.box cs') fun w' hro hw' => ?_
      refine ⟨hz0, _, ty, hw', by rw [setRange_size]; exact b2, by omega, fun i a' x' hi hx' => ?_⟩
      rw [setRange_get _ _ _ _ (by simp; omega)] at hx'
      rw [q3 i] at hi
      have hsame : ∀ {v x}, Rep w g (base + L) v x → Rep w' g (base + L) v x := fun h => h.mono ⟨fun _ h => h, hro⟩ (Nat.le_refl _) fun _ _ ha => ⟨ha, rfl, rfl⟩
      by_cases hin : off ≤ i ∧ i < off + vs.length
      · rw [if_pos hin] at hi
        rw [if_pos (by simp; omega)] at hx'
        exact hsame (v2 _ _ _ hi (by simpa using hx'))
      · rw [if_neg hin] at hi
        rw [if_neg (by simp; omega)] at hx'
        exact hsame (b4 i a' x' hi hx')
  case rptr tt k i off =>
    obtain ⟨b, hb, h⟩ := memK_ok h
    cases b with
    | box cs => exact h.elim
    | row t' l =>
      simp only at h
      cases hcs : Nat.beq (csz tt) (csz t') with
      | false => rw [hcs] at h; exact h.elim
      | true =>
        rw [hcs] at h
        obtain ⟨hi, h⟩ := h
        obtain ⟨cs', h, q1, q2, q3⟩ := overK_ok h
        obtain ⟨e, hK, hle⟩ := ofK_ok h
        refine ⟨_, hK, by simp [hb], fun f' m' hop hrd w g a hs => ?_⟩
        have hm : m' k = some (.row t' l) := hrd (k, .row t' l) (by simp)
        have hal : g.al k := (hs.me.al k).2 (by simp [hm])
        have hr := hop x hx _ _ _ _ (rep_aval hs x)
        rw [ha] at hr
        have he : a.eval x = .pointer (some ⟨g.be k, i * csz t' + off, none⟩) := by rw [← nbt.1 hcs]; exact rep_rptr hr hal
        have hry := hop y hy _ _ _ _ (rep_aval hs y)
        obtain ⟨v1, v2, v3⟩ := hvs hry
        have hbr := hs.me.blk k _ hm
        have hz0 : 0 < g.sz k := Nat.lt_of_lt_of_le (Nat.mul_pos (Nat.lt_of_le_of_lt (Nat.zero_le _) hi) (csz_pos t')) hbr.le
        obtain ⟨c, ty, b1, b2, b3, b4⟩ := hbr.getRow hz0
        have hlen := q2 hne
        rw [cells_length] at hlen
        rw [flat_length] at b3
        have hmul : (i + 1) * csz t' ≤ l.length * csz t' := Nat.mul_le_mul_right _ hi
        rw [Nat.succ_mul] at hmul
        refine store_ok ho hs hal hz0 he (by rw [hsz, hnl, v1]) v3 b1 (by omega) (.row t' (l.set i e)) fun w' hro hw' => ?_
        refine BlkRep.mkRow ⟨_, ty, hw', by rw [setRange_size]; exact b2, by rw [flat_length]; simp; exact b3, fun j a' x' hj hx' => ?_⟩
        rw [setRange_get _ _ _ _ (by simp; omega)] at hx'
        rw [flat_set hi] at hj
        have hsame : ∀ {v x}, Rep w g (base + L) v x → Rep w' g (base + L) v x := fun h => h.mono ⟨fun _ h => h, hro⟩ (Nat.le_refl _) fun _ _ ha => ⟨ha, rfl, rfl⟩
        by_cases hin : i * csz t' ≤ j ∧ j < i * csz t' + csz t'
        · rw [if_pos hin] at hj
          obtain ⟨c0, hc0, hcle⟩ := hle.get hj
          rw [q3] at hc0
          apply hcle
          by_cases hin2 : off ≤ j - i * csz t' ∧ j - i * csz t' < off + vs.length
          · rw [if_pos hin2] at hc0
            rw [if_pos (by simp; omega)] at hx'
            refine hsame (v2 _ _ _ hc0 ?_)
            rw [show j - (i * csz t' + off) = j - i * csz t' - off by omega] at hx'
            simpa using hx'
          · rw [if_neg hin2] at hc0
            rw [if_neg (by simp; omega)] at hx'
            refine hsame (b4 j c0 x' ?_ hx')
            have := flat_elt hi hc0
            rwa [show i * csz t' + (j - i * csz t') = j by omega] at this
        · rw [if_neg hin] at hj
          rw [if_neg (by simp; omega)] at hx'
          exact hsame (b4 j a' x' hj hx')
  all_goals exact h.elim

end Eng
