/- A REGION THAT DRAWS ITS ORDER: one walk in the order of the text serves every order, where operations that need not wait for one another leave one another alone. -/
import Derived.Test.YtdbnihckckekcaaEv3
import Derived.Still
set_option linter.unusedSimpArgs false
set_option linter.unusedVariables false
namespace Eng
open Go Go.RowKit

/-- What an operation did in the walk: was it carried out; its act; what its operands were. -/
structure Res where
  run : Bool
  c : Act1
  ov : Operand → AV

/-! ### What forgetting leaves alone -/
mutual
theorem fgt_id (k : Nat) : ∀ v : AV, men k v = false → fgt k v = v
  | .top, _ => rfl
  | .tt, _ => rfl
  | .ff, _ => rfl
  | .lit _, _ => rfl
  | .agg cs, h => by simp only [fgt]; rw [fgtL_id k cs (by simpa [men] using h)]
  | .tup cs, h => by simp only [fgt]; rw [fgtL_id k cs (by simpa [men] using h)]
  | .vec _ _, _ => rfl
  | .emp _, _ => rfl
  | .bl _ _, _ => rfl
  | .own t j o n c, h => by simp only [men] at h; simp [fgt, h]
  | .ptr j o, h => by simp only [men] at h; simp [fgt, h]
  | .rptr t j i o, h => by simp only [men] at h; simp [fgt, h]
  | .vptr _ _ _ _, _ => rfl
  | .clo f a b, h => by
    simp only [men] at h
    cases ha : menL k a with
    | true => rw [ha] at h; cases h
    | false => rw [ha] at h; simp only [fgt]; rw [fgtL_id k a ha, fgtL_id k b h]
theorem fgtL_id (k : Nat) : ∀ cs : List AV, menL k cs = false → fgtL k cs = cs
  | [], _ => rfl
  | c :: r, h => by
    simp only [menL] at h
    cases hc : men k c with
    | true => rw [hc] at h; cases h
    | false => rw [hc] at h; simp only [fgtL]; rw [fgt_id k c hc, fgtL_id k r h]
end
theorem fgtB_id {k : Nat} {b : Blk} (h : menB k b = false) : fgtB k b = b := by
  cases b with
  | box cs => simp only [fgtB]; rw [fgtL_id k cs h]
  | row t l => rfl

theorem put_comm' {m : Nat → Option Blk} {j k : Nat} (h : j ≠ k) (b c : Option Blk) : put (put m j b) k c = put (put m k c) j b := by
  funext i; simp only [put]
  by_cases h1 : k = i <;> by_cases h2 : j = i <;> simp [h1, h2]
  exact absurd (h2.trans h1.symm) h
theorem put_puts (us : List (Nat × Option Blk)) {k : Nat} (c : Option Blk) (h : ∀ p ∈ us, p.1 ≠ k) (m : Nat → Option Blk) : putsM us (put m k c) = put (putsM us m) k c := by
  induction us generalizing m with
  | nil => rfl
  | cons p r ih =>
    obtain ⟨j, b⟩ := p
    simp only [putsM]
    rw [← ih (fun q hq => h q (by simp [hq]))]
    rw [put_comm' (fun e => h (j, b) (by simp) e.symm)]
theorem puts_comm (us vs : List (Nat × Option Blk)) (h : ∀ p ∈ us, ∀ q ∈ vs, p.1 ≠ q.1) (m : Nat → Option Blk) : putsM us (putsM vs m) = putsM vs (putsM us m) := by
  induction vs generalizing m with
  | nil => rfl
  | cons q r ih =>
    obtain ⟨k, c⟩ := q
    simp only [putsM]
    rw [ih (fun p hp q hq => h p hp q (by simp [hq])), put_puts us c (fun p hp => h p hp (k, c) (by simp))]
theorem puts_get (us : List (Nat × Option Blk)) {k : Nat} (h : ∀ p ∈ us, p.1 ≠ k) (m : Nat → Option Blk) : putsM us m k = m k := by
  induction us generalizing m with
  | nil => rfl
  | cons p r ih =>
    obtain ⟨j, b⟩ := p
    simp only [putsM]
    rw [ih (fun q hq => h q (by simp [hq])), put_ne m b (h (j, b) (by simp))]
theorem aval_fput {f : List AV} {d : Option Nat} {v : AV} {x : Operand} (h : ∀ e, d = some e → x ≠ .tmp e) : aval (fput f d v) x = aval f x := by
  cases d with
  | none => rfl
  | some d =>
    cases x with
    | tmp t =>
      have hne : d ≠ t := fun e => h d rfl (by rw [e])
      simp [aval, fput, List.getElem?_set_ne hne]
    | const v => cases v <;> first | rfl | (rename_i b; cases b <;> rfl)
    | global k => rfl
    | func k => rfl


/-- What an operation looks at. -/
def lk (ops : Array Oper) (o : Oper) : List Operand :=
  o.op.operands.toList ++ (match o.guard with
    | some (j, _) => (((ops[j]?).bind (·.dst)).toList).map .tmp
    | none => [])

theorem lk_looks {ops : Array Oper} {o : Oper} {d : Tmp} (h : d ∉ o.looksAt ops) : ∀ x ∈ lk ops o, x ≠ .tmp d := by
  rintro x hx rfl
  apply h
  unfold lk at hx
  unfold Oper.looksAt
  rcases List.mem_append.1 hx with hx | hx
  · exact List.mem_append_left _ (List.mem_filterMap.2 ⟨.tmp d, by simpa using hx, rfl⟩)
  · refine List.mem_append_right _ ?_
    cases hg : o.guard with
    | none => rw [hg] at hx; simp at hx
    | some p =>
      rw [hg] at hx
      simp only [List.mem_map] at hx ⊢
      obtain ⟨y, hy, hy2⟩ := hx
      cases hy2; exact hy

/-- The same, but that a bool of which it is known which one it is says so. -/
def Ref (a b : AV) : Prop := a = b ∨ (a = .lit (.bool true) ∧ b = .tt) ∨ (a = .lit (.bool false) ∧ b = .ff)
theorem Ref.refl (a : AV) : Ref a a := .inl rfl
theorem Ref.le {a b : AV} (h : Ref a b) : Le a b := by
  rcases h with rfl | ⟨rfl, rfl⟩ | ⟨rfl, rfl⟩
  · exact Le.refl _
  · intro w g lim x hx; rw [rep_lit hx]; exact .tt
  · intro w g lim x hx; rw [rep_lit hx]; exact .ff

def AOv (P : Program) (base : Nat) (o : Oper) (ov : Operand → AV) (c : Act1) : Prop :=
  ∀ (f : List AV) (m : Nat → Option Blk), (∀ x ∈ o.op.operands.toList, Le (aval f x) (ov x)) → (∀ p ∈ c.rd, m p.1 = some p.2) → Ok P base o f m (c.fr f o.dst) (c.me m)

def WantOk (ops : Array Oper) (o : Oper) (r : Res) : Prop :=
  match o.guard with
  | none => r.run = true
  | some (j, want) => ∃ oj d, ops[j]? = some oj ∧ oj.dst = some d ∧ (r.ov (.tmp d) = .tt ∧ r.run = want ∨ r.ov (.tmp d) = .ff ∧ r.run = (!want) ∨ (∃ ys, r.ov (.tmp d) = .lit (.tuple ys)) ∧ r.run = false)

structure Good (P : Program) (base : Nat) (ops : Array Oper) (o : Oper) (r : Res) : Prop where
  want : WantOk ops o r
  yes : r.run = true → AOv P base o r.ov r.c
  no : r.run = false → r.c = vA und

structure Pre (ops : Array Oper) (o : Oper) (r : Res) (f : List AV) (m : Nat → Option Blk) : Prop where
  ov : ∀ x ∈ lk ops o, Ref (aval f x) (r.ov x)
  rd : ∀ p ∈ r.c.rd, m p.1 = some p.2

/-- Neither turns a block that the other one reads or turns. -/
structure Ids (r s : Res) : Prop where
  uu : ∀ p ∈ r.c.up, ∀ q ∈ s.c.up, p.1 ≠ q.1
  ur : ∀ p ∈ r.c.up, ∀ q ∈ s.c.rd, p.1 ≠ q.1
  ru : ∀ p ∈ s.c.up, ∀ q ∈ r.c.rd, p.1 ≠ q.1

theorem fput_comm {f : List AV} {d e : Option Nat} {v u : AV} (h : ∀ x, d = some x → e ≠ some x) : fput (fput f d v) e u = fput (fput f e u) d v := by
  cases d with
  | none => rfl
  | some d =>
    cases e with
    | none => rfl
    | some e =>
      simp only [fput]
      exact List.set_comm _ _ (fun he => h d rfl (by rw [he]))

section
variable {P : Program} {base : Nat} {ops : Array Oper} {rs : Nat → Res} {md : Region.Mode}

def aOp (ops : Array Oper) (rs : Nat → Res) (i : Nat) (K : List AV → (Nat → Option Blk) → Prop) (f : List AV) (m : Nat → Option Blk) : Prop :=
  match ops[i]? with
  | none => K f m
  | some o => Pre ops o (rs i) f m ∧ K (fput f o.dst (rs i).c.v) (putsM (rs i).c.up m)

theorem aOp_mono {i : Nat} {f : List AV} {m : Nat → Option Blk} {K K' : List AV → (Nat → Option Blk) → Prop} (h : ∀ f m, K f m → K' f m) (hh : aOp ops rs i K f m) : aOp ops rs i K' f m := by
  unfold aOp at *
  split
  · rename_i ho; rw [ho] at hh; exact h _ _ hh
  · rename_i o ho; rw [ho] at hh; exact ⟨hh.1, h _ _ hh.2⟩

def aAny (ops : Array Oper) (rs : Nat → Res) (md : Region.Mode) (Q : List AV → (Nat → Option Blk) → Prop) : Nat → Array Bool → List AV → (Nat → Option Blk) → Prop
  | 0, listed, f, m => Region.ready md ops listed = [] ∧ Q f m
  | fuel + 1, listed, f, m =>
    (Region.ready md ops listed = [] → Q f m) ∧
    ∀ i ∈ Region.ready md ops listed, aOp ops rs i (aAny ops rs md Q fuel (listed.setIfInBounds i true)) f m

theorem aOp_put {i j : Nat} {oi oj : Oper} (hj : ops[j]? = some oj) (hap : oi.apart ops oj = true) (hid : Ids (rs i) (rs j))
    {K : List AV → (Nat → Option Blk) → Prop} {f : List AV} {m : Nat → Option Blk} (hy : Pre ops oi (rs i) f m)
    (h : aOp ops rs j K (fput f oi.dst (rs i).c.v) (putsM (rs i).c.up m)) :
    aOp ops rs j (fun f' m' => Pre ops oi (rs i) f' m' ∧ K (fput f' oi.dst (rs i).c.v) (putsM (rs i).c.up m')) f m := by
  obtain ⟨h1, h2, h3⟩ := Oper.apart_spec hap
  unfold aOp at *
  simp only [hj] at *
  obtain ⟨hp, hK⟩ := h
  have e1 : ∀ x ∈ lk ops oj, aval (fput f oi.dst (rs i).c.v) x = aval f x := fun x hx => aval_fput fun e he => lk_looks (h1 e he) x hx
  have e2 : ∀ x ∈ lk ops oi, aval (fput f oj.dst (rs j).c.v) x = aval f x := fun x hx => aval_fput fun e he => lk_looks (h3 e he) x hx
  refine ⟨⟨fun x hx => by rw [← e1 x hx]; exact hp.ov x hx, fun p hpm => ?_⟩, ⟨fun x hx => by rw [e2 x hx]; exact hy.ov x hx, fun p hpm => ?_⟩, ?_⟩
  · rw [← puts_get (rs i).c.up (fun q hq => hid.ur q hq p hpm) m]; exact hp.rd p hpm
  · rw [puts_get (rs j).c.up (fun q hq => hid.ru q hq p hpm) m]; exact hy.rd p hpm
  · rw [fput_comm (fun x hx => ?_), puts_comm _ _ hid.uu]
    · exact hK
    · intro he; exact h2 x he hx

/-- What is listed is closed under what has to be ahead of it. -/
def Closed (md : Region.Mode) (ops : Array Oper) (listed : Array Bool) : Prop :=
  ∀ i o, ops[i]? = some o → listed.getD i true = true → ∀ e ∈ o.after, Region.binds md e = true → listed.getD e.on false = true

theorem Closed.set {listed : Array Bool} {i : Nat} (h : Closed md ops listed) (hr : i ∈ Region.ready md ops listed) : Closed md ops (listed.setIfInBounds i true) := by
  intro j o ho hl e he hb
  by_cases hij : i = j
  · subst hij
    obtain ⟨_, o', ho', hall⟩ := mem_ready.1 hr
    rw [ho] at ho'; cases ho'
    exact getD_set_true (hall e he hb)
  · rw [getD_set_ne true hij] at hl
    exact getD_set_true (h j o ho hl e he hb)

/-- 'i' has to wait for 'j', by itself or through others. -/
inductive Dep (md : Region.Mode) (ops : Array Oper) : Nat → Nat → Prop where
  | one {i j : Nat} {o : Oper} {e : _} (ho : ops[i]? = some o) (he : e ∈ o.after) (hb : Region.binds md e = true) (hj : e.on = j) : Dep md ops i j
  | far {i j : Nat} {o : Oper} {e : _} (ho : ops[i]? = some o) (he : e ∈ o.after) (hb : Region.binds md e = true) (h : Dep md ops e.on j) : Dep md ops i j

theorem listed_tf {listed : Array Bool} {i : Nat} (h : listed.getD i false = true) : listed.getD i true = true := by
  rcases Nat.lt_or_ge i listed.size with h' | h'
  · simp [h'] at h ⊢; exact h
  · simp [Array.getElem?_eq_none h'] at h

theorem Dep.listed {listed : Array Bool} (hc : Closed md ops listed) {i j : Nat} (h : Dep md ops i j) : (i ∈ Region.ready md ops listed ∨ listed.getD i true = true) → listed.getD j false = true := by
  have step : ∀ {i o e}, ops[i]? = some o → e ∈ o.after → Region.binds md e = true → (i ∈ Region.ready md ops listed ∨ listed.getD i true = true) → listed.getD e.on false = true := by
    intro i o e ho he hb h
    rcases h with h | h
    · obtain ⟨_, o', ho', hall⟩ := mem_ready.1 h
      rw [ho] at ho'; cases ho'
      exact hall e he hb
    · exact hc i o ho h e he hb
  induction h with
  | one ho he hb hj => intro h; subst hj; exact step ho he hb h
  | far ho he hb _ ih => intro h; exact ih (.inr (listed_tf (step ho he hb h)))

theorem not_both {listed : Array Bool} {i : Nat} (h : listed.getD i true = false) (h' : listed.getD i false = true) : False := by
  rw [listed_tf h'] at h; cases h

theorem aAny_first {Q : List AV → (Nat → Option Blk) → Prop} {i : Nat} {oi : Oper} (hi : ops[i]? = some oi) :
    ∀ (fuel : Nat) (listed : Array Bool) (f : List AV) (m : Nat → Option Blk), Closed md ops listed →
      (∀ j oj, ops[j]? = some oj → j ≠ i → listed.getD j true = false → (∀ e ∈ oj.after, Region.binds md e = true → e.on ≠ i) → oi.apart ops oj = true ∧ (Dep md ops j i ∨ Ids (rs i) (rs j))) →
      i ∈ Region.ready md ops listed → Pre ops oi (rs i) f m →
      aAny ops rs md Q fuel (listed.setIfInBounds i true) (fput f oi.dst (rs i).c.v) (putsM (rs i).c.up m) → aAny ops rs md Q (fuel + 1) listed f m := by
  have one : ∀ {K : List AV → (Nat → Option Blk) → Prop} {f m}, Pre ops oi (rs i) f m → K (fput f oi.dst (rs i).c.v) (putsM (rs i).c.up m) → aOp ops rs i K f m := by
    intro K f m h1 h2; unfold aOp; simp only [hi]; exact ⟨h1, h2⟩
  intro fuel
  induction fuel with
  | zero =>
    intro listed f m _ _ hr hy H
    refine ⟨fun h => (by rw [h] at hr; cases hr), fun j hj => ?_⟩
    by_cases hji : j = i
    · subst hji; exact one hy H
    · have := ready_mono hj hji
      rw [H.1] at this
      cases this
  | succ fuel ih =>
    intro listed f m hcl hfree hr hy H
    refine ⟨fun h => (by rw [h] at hr; cases hr), fun j hj => ?_⟩
    by_cases hji : j = i
    · subst hji; exact one hy H
    · have h1 := H.2 j (ready_mono hj hji)
      obtain ⟨hjun, oj, hoj, hall⟩ := mem_ready.1 hj
      have hiun := (mem_ready.1 hr).1
      have hnot : ∀ e ∈ oj.after, Region.binds md e = true → e.on ≠ i := fun e he hb heq => by
        have h1 := hall e he hb
        rw [heq] at h1
        exact not_both hiun h1
      obtain ⟨hap, hid⟩ := hfree j oj hoj hji hjun hnot
      have hid : Ids (rs i) (rs j) := by
        rcases hid with hd | hid
        · exact (not_both hiun (hd.listed hcl (.inl hj))).elim
        · exact hid
      have h2 := aOp_put hoj hap hid hy h1
      have hfree' : ∀ k ok, ops[k]? = some ok → k ≠ i → (listed.setIfInBounds j true).getD k true = false →
          (∀ e ∈ ok.after, Region.binds md e = true → e.on ≠ i) → oi.apart ops ok = true ∧ (Dep md ops k i ∨ Ids (rs i) (rs k)) := fun k ok hk hki hun hno => by
        refine hfree k ok hk hki ?_ hno
        by_cases hjk : j = k
        · subst hjk; exact hjun
        · rw [getD_set_ne true hjk] at hun; exact hun
      refine aOp_mono (fun f' m' h3 => ih (listed.setIfInBounds j true) f' m' (hcl.set hj) hfree' (ready_mono hr (Ne.symm hji)) h3.1 ?_) h2
      rw [Array.setIfInBounds_comm _ _ hji]
      exact h3.2

/-- The lexical walk. -/
def aLex (ops : Array Oper) (rs : Nat → Res) (Q : List AV → (Nat → Option Blk) → Prop) : List Oper → Nat → List AV → (Nat → Option Blk) → Prop
  | [], _, f, m => Q f m
  | o :: l, k, f, m => Pre ops o (rs k) f m ∧ aLex ops rs Q l (k + 1) (fput f o.dst (rs k).c.v) (putsM (rs k).c.up m)

theorem aAny_lex {Q : List AV → (Nat → Option Blk) → Prop} (hid : ∀ i j oi oj, i < j → ops[i]? = some oi → ops[j]? = some oj → Dep md ops j i ∨ Ids (rs i) (rs j)) :
    ∀ (l : List Oper) (k : Nat) (listed : Array Bool) (f : List AV) (m : Nat → Option Blk), (∀ j, l[j]? = ops[k + j]?) → Closed md ops listed → (∀ j, j < k → listed.getD j true = true) →
      Region.lexFrom md ops l.length k listed = true → aLex ops rs Q l k f m → aAny ops rs md Q l.length listed f m
  | [], _, _, _, _, _, _, _, hB, h => ⟨by simpa [Region.lexFrom] using hB, h⟩
  | o :: l, k, listed, f, m, hl, hcl, hdone, hB, h => by
    have h0 : ops[k]? = some o := by simpa using (hl 0).symm
    simp only [List.length_cons, Region.lexFrom, Bool.and_eq_true] at hB
    obtain ⟨⟨hr, hf⟩, hB'⟩ := hB
    have hr' : k ∈ Region.ready md ops listed := by simpa using hr
    refine aAny_first h0 l.length listed f m hcl (fun j oj hj hne hun hno => ⟨Region.free_spec h0 hf j oj hj hne hun hno, ?_⟩) hr' h.1
      (aAny_lex hid l (k + 1) _ _ _ (fun j => by have := hl (j + 1); simpa [Nat.add_assoc, Nat.add_comm 1 j] using this) (hcl.set hr') (fun j hj => ?_) hB' h.2)
    · rcases Nat.lt_or_ge k j with hkj | hkj
      · exact hid k j o oj hkj h0 hj
      · have := hdone j (by omega)
        rw [this] at hun; cases hun
    · by_cases hjk : k = j
      · subst hjk
        have h1 := (mem_ready.1 hr').1
        rcases Nat.lt_or_ge k listed.size with h' | h'
        · simp [h']
        · simp [Array.getElem?_eq_none h'] at h1
      · rw [getD_set_ne true hjk]; exact hdone j (by omega)

/-- What is to be forgotten by what stands open is not there. -/
def Inv (ops : Array Oper) (rs : Nat → Res) (listed : Array Bool) (f : List AV) (m : Nat → Option Blk) : Prop :=
  ∀ j o, ops[j]? = some o → listed.getD j true = false → ∀ k ∈ (rs j).c.fg, menL k f = false ∧ ∀ i b, m i = some b → menB k b = false

def Clean (r s : Res) : Prop := ∀ k ∈ s.c.fg, men k r.c.v = false ∧ ∀ p ∈ r.c.up, ∀ b, p.2 = some b → menB k b = false

theorem menL_set {k : Nat} {v : AV} : ∀ {f : List AV} {d : Nat}, menL k f = false → men k v = false → menL k (f.set d v) = false
  | [], _, h, _ => by simpa using h
  | a :: r, 0, h, hv => by simp only [menL] at h; simp only [List.set_cons_zero, menL, hv]; cases ha : men k a <;> simp_all
  | a :: r, d + 1, h, hv => by
    simp only [menL] at h
    simp only [List.set_cons_succ, menL]
    cases ha : men k a with
    | true => simp [ha] at h
    | false => simp [ha] at h ⊢; exact menL_set h hv
theorem puts_all {p : Blk → Prop} (us : List (Nat × Option Blk)) : ∀ (m : Nat → Option Blk), (∀ i b, m i = some b → p b) → (∀ q ∈ us, ∀ b, q.2 = some b → p b) → ∀ i b, putsM us m i = some b → p b := by
  induction us with
  | nil => intro m h _; exact h
  | cons q r ih =>
    intro m h hq
    obtain ⟨k, b⟩ := q
    refine ih _ (fun i b' hb => ?_) (fun q hq' => hq q (by simp [hq']))
    unfold put at hb
    split at hb
    · exact hq (k, b) (by simp) b' hb
    · exact h i b' hb

theorem fgtsF_id {ks : List Nat} {f : List AV} (h : ∀ k ∈ ks, menL k f = false) : fgtsF ks f = f := by
  induction ks with
  | nil => rfl
  | cons k r ih => simp only [fgtsF]; rw [fgtL_id k f (h k (by simp))]; exact ih fun j hj => h j (by simp [hj])
theorem fgtsM_id {ks : List Nat} {m : Nat → Option Blk} (h : ∀ k ∈ ks, ∀ i b, m i = some b → menB k b = false) : fgtsM ks m = m := by
  induction ks with
  | nil => rfl
  | cons k r ih =>
    simp only [fgtsM]
    have : fgtM k m = m := by
      funext i; simp only [fgtM]
      cases hm : m i with
      | none => rfl
      | some b => simp [fgtB_id (h k (by simp) i b hm)]
    rw [this]; exact ih fun j hj => h j (by simp [hj])

theorem wanted_ok {o : Oper} {r : Res} {f : List AV} {m : Nat → Option Blk} {w : World} {g : G} {lim : Nat} {a : Act} (hw : WantOk ops o r) (hp : Pre ops o r f m) (hs : Sim w g lim f m a) :
    Region.wanted o (yielded ops a.tmps) = r.run := by
  unfold WantOk at hw
  cases hg : o.guard with
  | none => rw [hg] at hw; simp [Region.wanted, hg, hw]
  | some p =>
    obtain ⟨j, want⟩ := p
    rw [hg] at hw
    obtain ⟨oj, d, hj, hd, hv⟩ := hw
    have hmem : Operand.tmp d ∈ lk ops o := by
      unfold lk
      refine List.mem_append_right _ ?_
      simp [hg, hj, hd]
    have hle := (hp.ov _ hmem).le w g lim _ (rep_aval hs (.tmp d))
    have key : ∀ b : Bool, a.eval (.tmp d) = .bool b → Region.wanted o (yielded ops a.tmps) = (b == want) := by
      intro b hb
      have hx : a.tmps[d]? = some (.bool b) := by
        simp only [Act.eval, Array.getD] at hb
        split at hb
        · rename_i h; simp at hb; rw [Array.getElem?_eq_getElem h, hb]
        · cases hb
      have hy : yielded ops a.tmps j = some b := by
        unfold yielded
        simp [hj, hd, hx]
      simp only [Region.wanted, hg, hy]
      cases b <;> cases want <;> rfl
    rcases hv with ⟨h1, h2⟩ | ⟨h1, h2⟩ | ⟨⟨ys, h1⟩, h2⟩
    · rw [h1] at hle
      rw [key true (by generalize hE : a.eval (.tmp d) = E at hle; cases hle; rfl), h2]; cases want <;> rfl
    · rw [h1] at hle
      rw [key false (by generalize hE : a.eval (.tmp d) = E at hle; cases hle; rfl), h2]; cases want <;> rfl
    · rw [h1] at hle
      have hb := rep_lit hle
      have hy : yielded ops a.tmps j = none := by
        unfold yielded
        simp only [Act.eval, Array.getD] at hb
        split at hb
        · rename_i h; simp at hb; simp [hj, hd, Array.getElem?_eq_getElem h, hb]
        · rename_i h; simp [hj, hd, Array.getElem?_eq_none (Nat.le_of_not_lt h)]
      simp only [Region.wanted, hg, hy, h2]
      rfl

theorem aAny_ok (hgood : ∀ i o, ops[i]? = some o → Good P base ops o (rs i)) (hcln : ∀ i j oi oj, i ≠ j → ops[i]? = some oi → ops[j]? = some oj → Dep md ops i j ∨ Clean (rs i) (rs j))
    {Q : List AV → (Nat → Option Blk) → Prop} {Q' : Exit → Act → World → Prop} :
    ∀ (fuel : Nat) (listed : Array Bool) (f : List AV) (m : Nat → Option Blk), Closed md ops listed → Inv ops rs listed f m → aAny ops rs md Q fuel listed f m →
      ∀ (w : World) (g : G) (a : Act), Sim w g (base + L) f m a →
      (∀ f' m' w' g' a', Q f' m' → Sim w' g' (base + L) f' m' a' → Tr g w w' → LeG base g g' → Q' .normal a' w') → wpAny P md ops Q' fuel listed a w := by
  intro fuel
  induction fuel with
  | zero => intro listed f m _ _ h w g a hs hQ; exact ⟨h.1, hQ f m w g a h.2 hs (Tr.refl g w) (LeG.refl base g)⟩
  | succ fuel ih =>
    intro listed f m hcl hinv h w g a hs hQ
    refine ⟨fun h0 => hQ f m w g a (h.1 h0) hs (Tr.refl g w) (LeG.refl base g), fun i hi => ?_⟩
    have h1 := h.2 i hi
    obtain ⟨hiun, o, ho, _⟩ := mem_ready.1 hi
    unfold aOp at h1
    unfold wpOp
    simp only [ho] at h1 ⊢
    obtain ⟨hp, hK⟩ := h1
    have hg := hgood i o ho
    have hinv' : Inv ops rs (listed.setIfInBounds i true) (fput f o.dst (rs i).c.v) (putsM (rs i).c.up m) := by
      intro j oj hj hun k hk
      have hij : i ≠ j := by
        rintro rfl
        rcases Nat.lt_or_ge i listed.size with h' | h'
        · simp [h'] at hun
        · simp [Array.getElem?_eq_none h'] at hiun
      rw [getD_set_ne true hij] at hun
      obtain ⟨i1, i2⟩ := hinv j oj hj hun k hk
      have hc : Clean (rs i) (rs j) := by
        rcases hcln i j o oj hij ho hj with hd | hc
        · exact (not_both hun (hd.listed hcl (.inl hi))).elim
        · exact hc
      refine ⟨?_, puts_all _ _ i2 (hc k hk).2⟩
      cases o.dst with
      | none => exact i1
      | some d => exact menL_set i1 (hc k hk).1
    rw [wanted_ok hg.want hp hs]
    cases hrun : (rs i).run with
    | true =>
      simp only [if_true]
      refine .inl (hg.yes hrun f m (fun x hx => (hp.ov x (List.mem_append_left _ hx)).le) hp.rd w g a hs _ _ fun w' g' a' hs' ht hl => ?_)
      have e1 : (rs i).c.fr f o.dst = fput f o.dst (rs i).c.v := by
        unfold Act1.fr; rw [fgtsF_id fun k hk => (hinv i o ho hiun k hk).1]
      have e2 : (rs i).c.me m = putsM (rs i).c.up m := by
        unfold Act1.me; rw [fgtsM_id fun k hk => (hinv i o ho hiun k hk).2]
      rw [e1, e2] at hs'
      exact ih _ _ _ (hcl.set hi) hinv' hK w' g' a' hs' fun f2 m2 w2 g2 a2 q1 q2 q3 q4 => hQ f2 m2 w2 g2 a2 q1 q2 (ht.trans hl q3) (hl.trans q4)
    | false =>
      simp only [Bool.false_eq_true, if_false]
      rw [hg.no hrun] at hK hinv'
      exact ih _ _ _ (hcl.set hi) hinv' hK w g _ (hs.put (.lit _) o.dst) hQ
end

end Eng
