/- A REGION THAT DRAWS ITS ORDER, second part: the walk in CPS form, what is checked behind it, and that this is enough. -/
import Derived.Test.YtdbnihckckekcaaDraw
import Derived.Test.YtdbnihckckekcaaEv4
set_option linter.unusedSimpArgs false
set_option linter.unusedVariables false
namespace Eng
open Go Go.RowKit

/-! ### What is checked behind the walk -/
def allIx {α : Type} (p : Nat → α → Bool) : Nat → List α → Bool
  | _, [] => true
  | i, a :: l => match p i a with | true => allIx p (i + 1) l | false => false
theorem allIx_get {α : Type} {p : Nat → α → Bool} : ∀ {l : List α} {k : Nat}, allIx p k l = true → ∀ {j : Nat} {a : α}, l[j]? = some a → p (k + j) a = true
  | [], _, _, _, _, hj => by simp at hj
  | a :: l, k, h, j, b, hj => by
    simp only [allIx] at h
    cases hp : p k a with
    | false => rw [hp] at h; cases h
    | true =>
      rw [hp] at h
      cases j with
      | zero => simp at hj; subst hj; exact hp
      | succ j =>
        have := allIx_get (l := l) h (j := j) (a := b) (by simpa using hj)
        rw [← this]; congr 1; omega

def allL {α : Type} (p : α → Bool) : List α → Bool
  | [] => true
  | a :: l => match p a with | true => allL p l | false => false
theorem allL_get {α : Type} {p : α → Bool} : ∀ {l : List α}, allL p l = true → ∀ a ∈ l, p a = true
  | [], _, _, ha => by cases ha
  | a :: l, h, b, hb => by
    simp only [allL] at h
    cases hp : p a with
    | false => rw [hp] at h; cases h
    | true =>
      rw [hp] at h
      rcases List.mem_cons.1 hb with rfl | hb
      · exact hp
      · exact allL_get h b hb

def cleanB (r s : Res) : Bool := allL (fun k => match men k r.c.v with | true => false | false => allL (fun p => match p.2 with | none => true | some b => !menB k b) r.c.up) s.c.fg
theorem cleanB_ok {r s : Res} (h : cleanB r s = true) : Clean r s := by
  intro k hk
  have h1 := allL_get h k hk
  cases hm : men k r.c.v with
  | true => rw [hm] at h1; cases h1
  | false =>
    rw [hm] at h1
    refine ⟨rfl, fun p hp b hb => ?_⟩
    have h2 := allL_get h1 p hp
    simp only [hb] at h2
    simpa using h2

def neB (a b : Nat) : Bool := match Nat.beq a b with | true => false | false => true
theorem neB_ok {a b : Nat} (h : neB a b = true) : a ≠ b := by
  unfold neB at h
  split at h
  · cases h
  · rename_i hb; exact nbf.1 hb
def idsB (r s : Res) : Bool :=
  match allL (fun (p : Nat × Option Blk) => match allL (fun (q : Nat × Option Blk) => neB p.1 q.1) s.c.up with | true => allL (fun (q : Nat × Blk) => neB p.1 q.1) s.c.rd | false => false) r.c.up with
  | true => allL (fun (p : Nat × Option Blk) => allL (fun (q : Nat × Blk) => neB p.1 q.1) r.c.rd) s.c.up
  | false => false
theorem idsB_ok {r s : Res} (h : idsB r s = true) : Ids r s := by
  unfold idsB at h
  split at h
  · rename_i h1
    have key : ∀ p ∈ r.c.up, (∀ q ∈ s.c.up, p.1 ≠ q.1) ∧ ∀ q ∈ s.c.rd, p.1 ≠ q.1 := by
      intro p hp
      have h2 := allL_get h1 p hp
      split at h2
      · rename_i h3; exact ⟨fun q hq => neB_ok (allL_get h3 q hq), fun q hq => neB_ok (allL_get h2 q hq)⟩
      · cases h2
    exact ⟨fun p hp => (key p hp).1, fun p hp => (key p hp).2, fun p hp q hq => neB_ok (allL_get (allL_get h p hp) q hq)⟩
  · cases h

/-- Whom each one waits for, by itself or through others, as bits. -/
def nthM : List Nat → Nat → Nat
  | [], _ => 0
  | a :: _, 0 => a
  | _ :: r, n + 1 => nthM r n
def maskE (md : Region.Mode) (acc : List Nat) : List Edge → Nat
  | [] => 0
  | e :: l => match Region.binds md e with
    | true => Nat.lor (Nat.lor (2 ^ e.on) (nthM acc e.on)) (maskE md acc l)
    | false => maskE md acc l
def masks (md : Region.Mode) : List Oper → List Nat → List Nat
  | [], acc => acc
  | o :: l, acc => masks md l (acc ++ [maskE md acc o.after.toList])

theorem nthM_eq (l : List Nat) (n : Nat) : nthM l n = (l[n]?).getD 0 := by
  induction l generalizing n with
  | nil => rfl
  | cons a r ih => cases n <;> simp [nthM, ih]

theorem maskE_ok {md : Region.Mode} {ops : Array Oper} {acc : List Nat} (hacc : ∀ i j, (nthM acc i).testBit j = true → Dep md ops i j) {k : Nat} {o : Oper} (ho : ops[k]? = some o) :
    ∀ (l : List Edge), (∀ e ∈ l, e ∈ o.after) → ∀ j, (maskE md acc l).testBit j = true → Dep md ops k j
  | [], _, j, h => by simp [maskE] at h
  | e :: l, hl, j, h => by
    simp only [maskE] at h
    split at h
    · rename_i hb
      have h : (((2 ^ e.on) ||| (nthM acc e.on)) ||| (maskE md acc l)).testBit j = true := h
      rw [Nat.testBit_or, Nat.testBit_or, Nat.testBit_two_pow] at h
      simp only [Bool.or_eq_true, decide_eq_true_eq] at h
      rcases h with (h | h) | h
      · exact .one ho (hl e (by simp)) hb h
      · exact .far ho (hl e (by simp)) hb (hacc _ _ h)
      · exact maskE_ok hacc ho l (fun e he => hl e (by simp [he])) j h
    · exact maskE_ok hacc ho l (fun e he => hl e (by simp [he])) j h

theorem masks_ok {md : Region.Mode} {ops : Array Oper} : ∀ (l : List Oper) (acc : List Nat), (∀ j, l[j]? = ops[acc.length + j]?) → (∀ i j, (nthM acc i).testBit j = true → Dep md ops i j) →
    ∀ i j, (nthM (masks md l acc) i).testBit j = true → Dep md ops i j
  | [], acc, _, hacc => hacc
  | o :: l, acc, hl, hacc => by
    refine masks_ok l _ (fun j => ?_) ?_
    · have := hl (j + 1)
      simpa [Nat.add_assoc, Nat.add_comm 1 j] using this
    · intro i j h
      rw [nthM_eq] at h
      rcases Nat.lt_trichotomy i acc.length with hi | hi | hi
      · rw [List.getElem?_append_left hi] at h
        exact hacc i j (by rw [nthM_eq]; exact h)
      · subst hi
        rw [List.getElem?_append_right (Nat.le_refl _)] at h
        simp at h
        exact maskE_ok hacc (by simpa using (hl 0).symm) _ (fun e he => by simpa using he) j h
      · rw [List.getElem?_append_right (by omega)] at h
        have : ([maskE md acc o.after.toList] : List Nat)[i - acc.length]? = none := List.getElem?_eq_none (by simp; omega)
        rw [this] at h; simp at h

def orB (a b : Bool) : Bool := match a with | true => true | false => b
theorem orB_ok {a b : Bool} (h : orB a b = true) : a = true ∨ b = true := by cases a <;> simp_all [orB]
def andB (a b : Bool) : Bool := match a with | true => b | false => false
theorem andB_ok {a b : Bool} (h : andB a b = true) : a = true ∧ b = true := by cases a <;> simp_all [andB]

def pairB (ms : List Nat) (i : Nat) (r : Res) (j : Nat) (s : Res) : Bool :=
  orB (Nat.beq i j) (andB (orB ((nthM ms i).testBit j) (cleanB r s)) (orB (Nat.ble j i) (orB ((nthM ms j).testBit i) (idsB r s))))
def memB (k : Nat) : Mem → Bool
  | [] => true
  | (_, b) :: r => match menB k b with | true => false | false => memB k r
theorem memB_ok {k : Nat} : ∀ {m : Mem}, memB k m = true → ∀ i b, mget m i = some b → menB k b = false
  | [], _, i, b, hb => by simp [mget] at hb
  | (j, c) :: r, h, i, b, hb => by
    simp only [memB] at h
    split at h
    · cases h
    · rename_i hc
      simp only [mget] at hb
      split at hb
      · cases hb; exact hc
      · exact memB_ok h i b hb
def startB (f : List AV) (m : Mem) (_ : Nat) (r : Res) : Bool := allL (fun k => match menL k f with | true => false | false => memB k m) r.c.fg
def confB (md : Region.Mode) (ops : List Oper) (rs : List Res) (f : List AV) (m : Mem) : Bool :=
  andB (allIx (startB f m) 0 rs) (allIx (fun i r => allIx (fun j s => pairB (masks md ops []) i r j s) 0 rs) 0 rs)

/-! ### The walk -/
def guardR (all : List Oper) (f : List AV) (gd : Option (Nat × Bool)) (run skip : List AV → Prop) : Prop :=
  match gd with
  | none => run f
  | some (j, want) => match opAt all j with
    | some oj => match oj.dst with
      | some d => nthK f d fun v => match v with
        | .tt => match want with | true => run f | false => skip f
        | .ff => match want with | true => skip f | false => run f
        | .lit (.bool b) => (b = true → setK f d .tt fun f => match want with | true => run f | false => skip f) ∧
            (b = false → setK f d .ff fun f => match want with | true => skip f | false => run f)
        | .lit (.tuple _) => skip f
        | _ => False
      | none => False
    | none => False

/-- A call, as an act. -/
def callD (P : Program) (C : Cfg2) (base : Nat) (f : List AV) (m : Mem) (fo : Operand) (args : List Operand) (K : Act1 → Prop) : Prop :=
  avalK f fo fun fv => calleeK fv fun g fs cs => avalsK f args fun vs => appK vs cs fun vc => appK fs vc fun all => match C.fn g with
    | true => ∃ c : Act1, (∀ p ∈ c.rd, mget m p.1 = some p.2) ∧ CAct P base g all c ∧ K c
    | false => False

def stepD (P : Program) (C : Cfg2) (base : Nat) (f : List AV) (m : Mem) (o : Oper) (K : Act1 → Prop) : Prop :=
  match o.op with
  | .call { callee := .value fo, args := args, argTypes := _ } => callD P C base f m fo args.toList K
  | _ => opA P C.toCfg base f m o K

def drawK (P : Program) (C : Cfg2) (base : Nat) (all : List Oper) : List Oper → List AV → Mem → (List Res → List AV → Mem → Prop) → Prop
  | [], f, m, K => K [] f m
  | o :: l, f, m, K => guardR all f o.guard
      (fun f => stepD P C base f m o fun c => match c with | ⟨v, rd, up, fg⟩ => putsC up m fun m => fputK f o.dst v fun f' => drawK P C base all l f' m fun rs => K (⟨true, ⟨v, rd, up, fg⟩, aval f⟩ :: rs))
      (fun f => fputK f o.dst und fun f' => drawK P C base all l f' m fun rs => K (⟨false, vA und, aval f⟩ :: rs))

def RefL (f fr : List AV) : Prop := f.length = fr.length ∧ ∀ i : Nat, Ref ((f[i]?).getD und) ((fr[i]?).getD und)
theorem RefL.refl (f : List AV) : RefL f f := ⟨rfl, fun _ => Ref.refl _⟩
theorem RefL.aval {f fr : List AV} (h : RefL f fr) (x : Operand) : Ref (aval f x) (aval fr x) := by
  cases x with
  | tmp t => exact h.2 t
  | const v => cases v <;> first | exact Ref.refl _ | (rename_i b; cases b <;> exact Ref.refl _)
  | global k => exact Ref.refl _
  | func k => exact Ref.refl _
theorem RefL.fput {f fr : List AV} (h : RefL f fr) (d : Option Nat) (v : AV) : RefL (fput f d v) (fput fr d v) := by
  cases d with
  | none => exact h
  | some d =>
    refine ⟨by simp [Eng.fput, h.1], fun i => ?_⟩
    simp only [Eng.fput, List.getElem?_set]
    by_cases hd : d = i
    · subst hd
      simp only [if_true, h.1]
      exact Ref.refl _
    · simp only [if_neg hd]; exact h.2 i
theorem RefL.set {f fr : List AV} (h : RefL f fr) {d : Nat} {b : Bool} (hv : fr[d]? = some (.lit (.bool b))) : RefL f (fr.set d (match b with | true => .tt | false => .ff)) := by
  refine ⟨by simp [h.1], fun i => ?_⟩
  rw [List.getElem?_set]
  by_cases hd : d = i
  · subst hd
    have hlt : d < fr.length := (List.getElem?_eq_some_iff.1 hv).1
    have := h.2 d
    rw [hv] at this
    simp only [Option.getD_some] at this
    simp only [if_true, hlt, Option.getD_some]
    rcases this with e | ⟨_, e⟩ | ⟨_, e⟩
    · rw [e]; cases b
      · exact .inr (.inr ⟨rfl, rfl⟩)
      · exact .inr (.inl ⟨rfl, rfl⟩)
    · cases e
    · cases e
  · simp only [if_neg hd]; exact h.2 i

theorem guardR_ok {all : List Oper} {fr : List AV} {o : Oper} {run skip : List AV → Prop} (h : guardR all fr o.guard run skip) {f : List AV} (hr : RefL f fr) :
    ∃ fr', RefL f fr' ∧ ((run fr' ∧ ∀ c, WantOk all.toArray o ⟨true, c, aval fr'⟩) ∨ (skip fr' ∧ ∀ c, WantOk all.toArray o ⟨false, c, aval fr'⟩)) := by
  unfold guardR at h
  cases hg : o.guard with
  | none => rw [hg] at h; exact ⟨fr, hr, .inl ⟨h, fun c => by unfold WantOk; simp [hg]⟩⟩
  | some p =>
    obtain ⟨j, want⟩ := p
    rw [hg] at h
    simp only at h
    rw [opAt_eq] at h
    cases hj : all[j]? with
    | none => rw [hj] at h; exact h.elim
    | some oj =>
    rw [hj] at h
    simp only at h
    cases hd : oj.dst with
    | none => rw [hd] at h; exact h.elim
    | some d =>
    rw [hd] at h
    simp only at h
    rw [nthK_eq] at h
    have hj' : all.toArray[j]? = some oj := by simpa using hj
    have wo : ∀ (b r : Bool) (f' : List AV) (c : Act1), (f'[d]?).getD und = (match b with | true => .tt | false => .ff) → r = (b == want) → WantOk all.toArray o ⟨r, c, aval f'⟩ := by
      intro b r f' c hb hrr
      unfold WantOk
      simp only [hg]
      refine ⟨oj, d, hj', hd, ?_⟩
      simp only [aval, hb, hrr]
      cases b <;> cases want <;> simp
    split at h
    · rename_i hv
      cases want with
      | true => exact ⟨fr, hr, .inl ⟨h, fun c => wo true _ fr c hv rfl⟩⟩
      | false => exact ⟨fr, hr, .inr ⟨h, fun c => wo true _ fr c hv rfl⟩⟩
    · rename_i hv
      cases want with
      | true => exact ⟨fr, hr, .inr ⟨h, fun c => wo false _ fr c hv rfl⟩⟩
      | false => exact ⟨fr, hr, .inl ⟨h, fun c => wo false _ fr c hv rfl⟩⟩
    · rename_i b hv
      rw [setK_eq, setK_eq] at h
      have hlt : fr[d]? = some (.lit (.bool b)) := by
        cases hf : fr[d]? with
        | none => rw [hf] at hv; cases hv
        | some x => rw [hf] at hv; simp at hv; rw [hv]
      have hl : d < fr.length := (List.getElem?_eq_some_iff.1 hlt).1
      cases b with
      | true =>
        have h := h.1 rfl
        refine ⟨_, hr.set hlt, ?_⟩
        have e : ((fr.set d AV.tt)[d]?).getD und = .tt := by simp [hl]
        cases want with
        | true => exact .inl ⟨h, fun c => wo true _ _ c e rfl⟩
        | false => exact .inr ⟨h, fun c => wo true _ _ c e rfl⟩
      | false =>
        have h := h.2 rfl
        refine ⟨_, hr.set hlt, ?_⟩
        have e : ((fr.set d AV.ff)[d]?).getD und = .ff := by simp [hl]
        cases want with
        | true => exact .inr ⟨h, fun c => wo false _ _ c e rfl⟩
        | false => exact .inl ⟨h, fun c => wo false _ _ c e rfl⟩
    · rename_i ys hv
      refine ⟨fr, hr, .inr ⟨h, fun c => ?_⟩⟩
      unfold WantOk
      simp only [hg]
      exact ⟨oj, d, hj', hd, .inr (.inr ⟨⟨ys, hv⟩, by simp⟩)⟩
    · exact h.elim

theorem stepD_ok {P : Program} {C : Cfg2} (hC : Cfg2Ok P C) {base : Nat} {f : List AV} {m : Mem} {o : Oper} {K : Act1 → Prop} (h : stepD P C base f m o K) :
    ∃ c, K c ∧ (∀ p ∈ c.rd, mget m p.1 = some p.2) ∧ AOv P base o (aval f) c := by
  unfold stepD at h
  split at h
  case h_1 fo args ats ho =>
    unfold callD at h
    rw [avalK_eq] at h
    obtain ⟨g, fs, cs, h, hc⟩ := calleeK_ok h
    rw [avalsK_eq, appK_eq, appK_eq] at h
    cases hg : C.fn g with
    | false => rw [hg] at h; exact h.elim
    | true =>
    rw [hg] at h
    obtain ⟨c, hrd, hca, hK⟩ := h
    refine ⟨c, hK, hrd, ?_⟩
    intro f' m' hop hrd' w gh a hs N Q hN
    have hops : ∀ x, x = fo ∨ x ∈ args.toList → Le (aval f' x) (aval f x) := by
      intro x hx
      apply hop
      rw [ho]
      rcases hx with rfl | hx
      · simp [Op.operands, Call.operands]
      · simp [Op.operands, Call.operands]; right; simpa using hx
    refine calls_wp hC (f := f') ho hg (fun {w gh lim x} hr => hc (hops fo (.inl rfl) _ _ _ _ hr)) hs N Q fun vs hvs => ?_
    have hvs' : RepL w gh (base + L) (fs ++ (args.toList.map (aval f) ++ cs)) vs := by
      refine ⟨by simpa using hvs.1, fun i x y hx hy => ?_⟩
      by_cases h1 : i < fs.length
      · exact hvs.2 i x y (by rw [List.getElem?_append_left h1] at hx ⊢; exact hx) hy
      · rw [List.getElem?_append_right (by omega)] at hx
        by_cases h2 : i - fs.length < args.size
        · rw [List.getElem?_append_left (by simpa using h2)] at hx
          simp only [List.getElem?_map, Option.map_eq_some_iff] at hx
          obtain ⟨z, hz, rfl⟩ := hx
          refine hops z (.inr (List.mem_of_getElem? hz)) _ _ _ _ (hvs.2 i (aval f' z) y ?_ hy)
          rw [List.getElem?_append_right (by omega), List.getElem?_append_left (by simpa using h2)]
          simp only [List.getElem?_map, hz, Option.map_some]
        · refine hvs.2 i x y ?_ hy
          rw [List.getElem?_append_right (by omega), List.getElem?_append_right (by simp; omega)]
          rw [List.getElem?_append_right (by simp; omega)] at hx
          simpa using hx
    refine (hca.go m' hrd' w gh vs hs.me hvs').mono fun e w' ⟨x, g', e1, e2, e3, e4, e5, e6⟩ => ⟨x, e1, ?_⟩
    exact hN w' g' _ ⟨(e6 _ _ hs.fr).put e2 o.dst, (Act.put_df _ _ _).trans hs.df, e3⟩ e4 e5
  case h_2 =>
    obtain ⟨c, hK, hrd, hok⟩ := opA_ok hC.toCfgOk h
    exact ⟨c, hK, hrd, hok⟩

theorem drawK_ok {P : Program} {C : Cfg2} (hC : Cfg2Ok P C) {base : Nat} {all : List Oper} : ∀ (l : List Oper) (k : Nat) (fr : List AV) (m : Mem) (K : List Res → List AV → Mem → Prop), drawK P C base all l fr m K →
    ∀ f, RefL f fr → ∃ rs fr' m' f', rs.length = l.length ∧ K rs fr' m' ∧ RefL f' fr' ∧ (∀ (j : Nat) (o : Oper) (r : Res), l[j]? = some o → rs[j]? = some r → Good P base all.toArray o r) ∧
      (∀ rs' : Nat → Res, (∀ (j : Nat) (r : Res), rs[j]? = some r → rs' (k + j) = r) → aLex all.toArray rs' (fun a b => a = f' ∧ b = mget m') l k f (mget m))
  | [], _, fr, m, K, h, f, hr => ⟨[], fr, m, f, rfl, h, hr, fun j o r ho => by simp at ho, fun rs' _ => ⟨rfl, rfl⟩⟩
  | o :: l, k, fr, m, K, h, f, hr => by
    simp only [drawK] at h
    obtain ⟨fr1, hr1, hh⟩ := guardR_ok h hr
    rcases hh with ⟨h1, hw⟩ | ⟨h1, hw⟩
    · obtain ⟨c, hK, hrd, hok⟩ := stepD_ok hC h1
      replace hK : putsC c.up m fun m => fputK fr1 o.dst c.v fun f' => drawK P C base all l f' m fun rs => K (⟨true, c, aval fr1⟩ :: rs) := hK
      obtain ⟨m1, hK, hm1⟩ := putsC_eq _ _ _ hK
      rw [fputK_eq] at hK
      obtain ⟨rs, fr', m', f', e1, e2, e3, e4, e5⟩ := drawK_ok hC l (k + 1) _ m1 _ hK _ (hr1.fput o.dst c.v)
      refine ⟨_, fr', m', f', by simp [e1], e2, e3, ?_, ?_⟩
      · intro j o' r ho' hr'
        cases j with
        | zero =>
          simp at ho' hr'; subst ho'; subst hr'
          exact ⟨hw c, fun _ => hok, fun he => by cases he⟩
        | succ j => exact e4 j o' r (by simpa using ho') (by simpa using hr')
      · intro rs' hrs
        have h0 : rs' k = ⟨true, c, aval fr1⟩ := by simpa using hrs 0 _ rfl
        refine ⟨⟨fun x hx => ?_, fun p hp => ?_⟩, ?_⟩
        · rw [h0]; exact hr1.aval x
        · rw [h0] at hp; exact hrd p hp
        · rw [h0, ← hm1]
          exact e5 rs' fun j r hj => by rw [← hrs (j + 1) r (by simpa using hj)]; congr 1; omega
    · rw [fputK_eq] at h1
      obtain ⟨rs, fr', m', f', e1, e2, e3, e4, e5⟩ := drawK_ok hC l (k + 1) _ m _ h1 _ (hr1.fput o.dst und)
      refine ⟨_, fr', m', f', by simp [e1], e2, e3, ?_, ?_⟩
      · intro j o' r ho' hr'
        cases j with
        | zero =>
          simp at ho' hr'; subst ho'; subst hr'
          exact ⟨hw _, (by intro he; cases he), fun _ => rfl⟩
        | succ j => exact e4 j o' r (by simpa using ho') (by simpa using hr')
      · intro rs' hrs
        have h0 : rs' k = ⟨false, vA und, aval fr1⟩ := by simpa using hrs 0 _ rfl
        refine ⟨⟨fun x hx => ?_, fun p hp => ?_⟩, ?_⟩
        · rw [h0]; exact hr1.aval x
        · rw [h0] at hp; simp [vA] at hp
        · rw [h0]
          exact e5 rs' fun j r hj => by rw [← hrs (j + 1) r (by simpa using hj)]; congr 1; omega

/-- **ONE WALK SERVES EVERY ORDER.** -/
theorem Draws.of {P : Program} {C : Cfg2} (hC : Cfg2Ok P C) {base : Nat} {ops : Array Oper} {f : List AV} {m : Mem} {K : List AV → Mem → Prop} (hB : Region.lexB .any ops = true)
    (h : drawK P C base ops.toList ops.toList f m fun rs fr m' => confB .any ops.toList rs f m = true ∧ K fr m') : Draws P base ops f m K := by
  refine ⟨fun id => ⟨fun w g a hs => ?_⟩⟩
  obtain ⟨rs, fr', m', f', e1, ⟨hconf, hK⟩, e3, e4, e5⟩ := drawK_ok hC ops.toList 0 f m _ h f (RefL.refl f)
  obtain ⟨c1, c2⟩ := andB_ok hconf
  let rn : Nat → Res := fun i => (rs[i]?).getD ⟨false, vA und, aval f⟩
  have hrn : ∀ (j : Nat) (r : Res), rs[j]? = some r → rn j = r := fun j r hj => by simp only [rn, hj, Option.getD_some]
  have hget : ∀ (j : Nat) (o : Oper), ops[j]? = some o → ∃ r, rs[j]? = some r ∧ rn j = r := fun j o ho => by
    have hlt : j < rs.length := by rw [e1]; simpa using (Array.getElem?_eq_some_iff.1 ho).1
    exact ⟨rs[j], List.getElem?_eq_getElem hlt, hrn _ _ (List.getElem?_eq_getElem hlt)⟩
  have hdep : ∀ i j, (nthM (masks .any ops.toList []) i).testBit j = true → Dep .any ops i j :=
    masks_ok ops.toList [] (fun j => by simp) (fun i j h => by simp [nthM] at h)
  have hpair : ∀ i j oi oj, i ≠ j → ops[i]? = some oi → ops[j]? = some oj → (Dep .any ops i j ∨ Clean (rn i) (rn j)) ∧ (j ≤ i ∨ Dep .any ops j i ∨ Ids (rn i) (rn j)) := by
    intro i j oi oj hne hi hj
    obtain ⟨r, hr, er⟩ := hget i oi hi
    obtain ⟨s, hs', es⟩ := hget j oj hj
    have p1 := allIx_get c2 (j := i) hr
    have p2 := allIx_get p1 (j := j) hs'
    simp only [Nat.zero_add] at p2
    rw [er, es]
    rcases orB_ok p2 with h | h
    · exact absurd (nbt.1 h) hne
    obtain ⟨h3, h4⟩ := andB_ok h
    refine ⟨?_, ?_⟩
    · rcases orB_ok h3 with h | h
      · exact .inl (hdep _ _ h)
      · exact .inr (cleanB_ok h)
    · rcases orB_ok h4 with h | h
      · exact .inl (Nat.le_of_ble_eq_true h)
      rcases orB_ok h with h | h
      · exact .inr (.inl (hdep _ _ h))
      · exact .inr (.inr (idsB_ok h))
  have hB' := hB
  simp only [Region.lexB, Bool.and_eq_true] at hB'
  have hcl : Closed .any ops (Array.replicate ops.size false) := by
    intro i o ho hl
    have hlt := (Array.getElem?_eq_some_iff.1 ho).1
    simp [hlt] at hl
  have hinv : Inv ops rn (Array.replicate ops.size false) f (mget m) := by
    intro j o ho _ k hk
    obtain ⟨r, hr, er⟩ := hget j o ho
    rw [er] at hk
    have p1 := allL_get (allIx_get c1 (j := j) hr) k hk
    cases hm : menL k f with
    | true => rw [hm] at p1; cases p1
    | false => rw [hm] at p1; exact ⟨rfl, memB_ok p1⟩
  have hlex := e5 rn fun j r hj => by rw [Nat.zero_add]; exact hrn j r hj
  simp only [Array.toArray_toList] at hlex e4
  have hany := aAny_lex (md := .any) (ops := ops) (rs := rn) (fun i j oi oj hlt hi hj => by
      rcases (hpair i j oi oj (by omega) hi hj).2 with h | h
      · omega
      · exact h) ops.toList 0 (Array.replicate ops.size false) f (mget m) (by simp) hcl (by simp) (by simpa using hB'.2) hlex
  rw [Array.length_toList] at hany
  refine wp_region_any hC.mixed ?_
  have hs1 : Sim { w with drawn := w.drawn + 1 } g (base + L) f (mget m) a := ⟨hs.fr.same (fun _ _ => rfl), hs.df, ⟨hs.me.al, hs.me.lt, hs.me.nro, hs.me.inj, fun k b h => (hs.me.blk k b h).mono' ⟨fun _ h => h, fun _ _ => rfl⟩ (Nat.le_refl _) (fun _ => rfl) (fun k _ _ h => ⟨h, rfl, rfl⟩), hs.me.rolt, hs.me.nof⟩⟩
  have := aAny_ok (P := P) (base := base) (fun i o ho => by
      obtain ⟨r, hr, er⟩ := hget i o ho
      rw [er]; exact e4 i o r (by simpa using ho) hr) (fun i j oi oj hne hi hj => (hpair i j oi oj hne hi hj).1)
    (Q' := fun e a' w' => ∃ ae f' m' g', e = exitOf ae ∧ (fun (e : AE) (f' : List AV) (m' : Mem) => match e with | .normal => K f' m' | _ => False) ae f' m' ∧ Sim w' g' (base + L) f' (mget m') a' ∧ Tr g w w' ∧ LeG base g g') _ _ _ _ hcl hinv hany _ g a hs1
    (fun f2 m2 w2 g2 a2 hQ hs2 ht hl => by
      obtain ⟨rfl, rfl⟩ := hQ
      refine ⟨.normal, fr', m', g2, rfl, hK, ⟨?_, hs2.df, hs2.me⟩, ?_, hl⟩
      · refine ⟨by rw [← e3.1]; exact hs2.fr.1, fun i c x hc hx => ?_⟩
        have := e3.2 i
        rw [hc] at this
        have hlt : i < f2.length := by rw [e3.1]; exact (List.getElem?_eq_some_iff.1 hc).1
        rw [List.getElem?_eq_getElem hlt] at this
        exact this.le _ _ _ _ (hs2.fr.2 i _ x (List.getElem?_eq_getElem hlt) hx)
      · exact ⟨ht.os, ht.tape, ht.output, ht.size, ht.same, ht.others⟩)
  exact this
end Eng
