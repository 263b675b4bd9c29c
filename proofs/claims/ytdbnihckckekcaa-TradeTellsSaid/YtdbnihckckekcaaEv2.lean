/- CODE OVER ABSTRACT VALUES, second part: regions, tests, loops, calls; and that the model's code does so. -/
import Derived.Test.YtdbnihckckekcaaEv
import Derived.Lib.Overlaps
set_option linter.unusedSimpArgs false
set_option linter.unusedVariables false
namespace Eng
open Go Go.RowKit

/-- Which function a value calls, with what ahead of the arguments and behind them. -/
def calleeK (v : AV) (K : FuncId → List AV → List AV → Prop) : Prop :=
  match v with
  | .lit (.func (.func g) fs cs) => match fs.size, cs.size with
    | 0, 0 => K g [] []
    | _, _ => False
  | .clo (.func g) fs cs => K g fs cs
  | _ => False

def appK : List AV → List AV → (List AV → Prop) → Prop
  | [], l, K => K l
  | a :: r, l, K => appK r l fun r => K (a :: r)
theorem appK_eq (a b : List AV) (K : List AV → Prop) : appK a b K = K (a ++ b) := by
  induction a generalizing K with
  | nil => rfl
  | cons x r ih => simp only [appK, List.cons_append]; rw [ih]

/-- What is known of the program's functions: those that a call enters. -/
structure Cfg2 extends Cfg where
  fn : Nat → Bool
  ov : Nat → Bool
structure Cfg2Ok (P : Program) (c : Cfg2) : Prop extends CfgOk P c.toCfg where
  call : ∀ f, c.fn f = true → ∀ (args : Array Value) (w : World), (callFunc f args).run P w = .ok (.enter f args) w
  over : ∀ f, c.ov f = true → ∃ (t tR e : TypeId) (z : Nat), P.underlying t = some (.slice e) ∧ szOf P e = some z ∧ ∀ (args : Array Value) (w : World),
    (callFunc f args).run P w = ((Extern.SlicesOverlaps.overlaps #[t, t] #[tR] args).run P w).andThen fun v w' => .ok (.value v) w'

/-- Do two own rows lie upon one another? -/
def ovK (m : Mem) (all : List AV) (K : Act1 → Prop) : Prop :=
  match all with
  | [a, b] => match a with
    | .own _ k1 _ _ _ => match b with
      | .own _ k2 _ _ _ => match Nat.beq k1 k2 with
        | true => False
        | false => memK m k1 fun b1 => memK m k2 fun b2 => match b1 with
          | .row _ _ => match b2 with
            | .row _ _ => K ⟨.ff, [(k1, b1), (k2, b2)], [], []⟩
            | .box _ => False
          | .box _ => False
      | _ => False
    | _ => False
  | _ => False

theorem run_over {P : Program} {w : World} {t tR e : TypeId} {z : Nat} (ht : P.underlying t = some (.slice e)) (hz : szOf P e = some z) {g : G} {lim : Nat} {m : Mem} (hm : MSim w g lim (mget m)) {t1 t2 : Ty} {k1 k2 o1 o2 n1 n2 : Nat} {c1 c2 : Option Nat}
    (hk : k1 ≠ k2) {x y : Value} (hx : Rep w g lim (.own t1 k1 o1 n1 c1) x) (hy : Rep w g lim (.own t2 k2 o2 n2 c2) y) {b1 b2 : Blk} (h1 : mget m k1 = some b1) (h2 : mget m k2 = some b2) (r1 : ∃ t l, b1 = .row t l) (r2 : ∃ t l, b2 = .row t l) :
    (Extern.SlicesOverlaps.overlaps #[t, t] #[tR] #[x, y]).run P w = .ok (.bool false) w := by
  obtain ⟨s1, l1, rfl⟩ := r1
  obtain ⟨s2, l2, rfl⟩ := r2
  have hzr := fun w => Eng.run_sizeOf (P := P) (w := w) hz
  have none1 : ∀ (a b : Option Addr) (la ca lb cb : Nat), (la = 0 ∨ lb = 0) → (Extern.SlicesOverlaps.overlaps #[t, t] #[tR] #[.slice a la ca, .slice b lb cb]).run P w = .ok (.bool false) w := by
    intro a b la ca lb cb h
    have h' : la = 0 ∨ lb = 0 ∨ z = 0 := by omega
    change Sem.run P (α := Value) (do
      let some t := (#[t, t] : Array TypeId)[0]? | stuck "slices.overlaps: no parameter types"
      let .slice elem ← underlying t | stuck "slices.overlaps: slice type expected"
      let size ← Go.sizeOf elem
      match a, b with
      | some a, some b =>
        if la = 0 ∨ lb = 0 ∨ size = 0 then pure (Value.bool false)
        else if a.block != b.block && (← frozen a) && (← frozen b) then unsupported .addressObserved
        else do
          if a.block != b.block then do
            noView a; noView b
            if ← mayBeOne a b then return Value.bool ((← choose (.extern "sameAddr.stringBytes" 2)) == 1)
          pure (Value.bool (a.block == b.block && a.off < b.off + lb * size && b.off < a.off + la * size))
      | _, _ => pure (Value.bool false)) w = _
    cases a <;> cases b <;> simp [run_underlying ht, hzr, h']
  have hal1 : g.al k1 := (hm.al k1).2 (by simp [h1])
  have hal2 : g.al k2 := (hm.al k2).2 (by simp [h2])
  cases hx with
  | ownE _ _ _ _ ad _ _ => cases hy <;> exact none1 _ _ _ _ _ _ (.inl rfl)
  | own _ _ _ _ a ca _ _ hc1 _ hh1 =>
    obtain ⟨rfl, s1'⟩ := hh1 hal1
    cases hy with
    | ownE _ _ _ _ ad _ _ => exact none1 _ _ _ _ _ _ (.inr rfl)
    | own _ _ _ _ b cb _ _ hc2 _ hh2 =>
      obtain ⟨rfl, s2'⟩ := hh2 hal2
      by_cases hn : n1 = 0 ∨ n2 = 0
      · exact none1 _ _ _ _ _ _ hn
      · have z1 : 0 < g.sz k1 := Nat.lt_of_lt_of_le (Nat.mul_pos (by omega) (csz_pos t1)) s1'
        have z2 : 0 < g.sz k2 := Nat.lt_of_lt_of_le (Nat.mul_pos (by omega) (csz_pos t2)) s2'
        obtain ⟨d1, ty1, p1, p2, _, _⟩ := (hm.blk k1 _ h1).getRow z1
        obtain ⟨d2, ty2, q1, q2, _, _⟩ := (hm.blk k2 _ h2).getRow z2
        exact Lib.run_overlaps_apart w t tR e ht z hzr _ _ n1 ca n2 cb (fun e => hk (hm.inj k1 k2 hal1 hal2 z1 z2 e)) ty1 ty2 d1.size d2.size (by simp [World.shape?, p1]) (by simp [World.shape?, q1]) (by omega)
          (by simp [World.frozen?, p1]) (by simp [World.frozen?, p1])

/-- A call of a Go function. -/
def callK (P : Program) (C : Cfg2) (base : Nat) (f : List AV) (m : Mem) (o : Oper) (fo : Operand) (args : List Operand) (K : List AV → Mem → Prop) : Prop :=
  avalK f fo fun fv => calleeK fv fun g fs cs => avalsK f args fun vs => appK vs cs fun vc => appK fs vc fun all => match C.fn g with
    | true => (∃ c : Act1, (∀ p ∈ c.rd, mget m p.1 = some p.2) ∧ CAct P base g all c ∧ applyK c f m o.dst K) ∨
        ICall P base g all m (fun v m' => noRCL (base + L) f fun f' => fputK f' o.dst v fun f'' => K f'' m')
    | false => match C.ov g with
      | true => ovK m all fun c => applyK c f m o.dst K
      | false => False

def stepK (P : Program) (C : Cfg2) (base : Nat) (f : List AV) (m : Mem) (o : Oper) (K : List AV → Mem → Prop) : Prop :=
  match o.op with
  | .call { callee := .value fo, args := args, argTypes := _ } => callK P C base f m o fo args.toList K
  | _ => opA P C.toCfg base f m o fun c => applyK c f m o.dst K

def SOk (P : Program) (base : Nat) (o : Oper) (f : List AV) (m : Mem) (K : List AV → Mem → Prop) : Prop :=
  ∀ (w : World) (g : G) (a : Act), Sim w g (base + L) f (mget m) a → ∀ (N : Act → World → Prop) (Q : Exit → Act → World → Prop),
    (∀ f' m' w' g' a', K f' m' → Sim w' g' (base + L) f' (mget m') a' → Tr g w w' → LeG base g g' → N a' w') → o.wp P a w N Q

theorem calls_wp {P : Program} {C : Cfg2} (hC : Cfg2Ok P C) {base : Nat} {f : List AV} {m : Nat → Option Blk} {o : Oper} {fo : Operand} {args : Array Operand} {ats : Array TypeId}
    (ho : o.op = .call { callee := .value fo, args := args, argTypes := ats }) {g : FuncId} {fs cs : List AV} (hg : C.fn g = true)
    (hc : ∀ {w : World} {gh : G} {lim : Nat} {x : Value}, Rep w gh lim (aval f fo) x → ∃ fs' cs', x = .func (.func g) fs' cs' ∧ RepL w gh lim fs fs' ∧ RepL w gh lim cs cs')
    {w : World} {gh : G} {a : Act} (hs : Sim w gh (base + L) f m a) (N : Act → World → Prop) (Q : Exit → Act → World → Prop)
    (h : ∀ vs, RepL w gh (base + L) (fs ++ ((args.toList.map (aval f)) ++ cs)) vs → Calls P g vs w fun e w' => ∃ x, e = .returned x ∧ N (a.put o.dst x) w') : o.wp P a w N Q := by
  obtain ⟨fs', cs', e1, e2, e3⟩ := hc (rep_aval hs fo)
  have hall : RepL w gh (base + L) (fs ++ ((args.toList.map (aval f)) ++ cs)) (fs' ++ args.map a.eval ++ cs') := by
    have l1 : fs.length = fs'.size := e2.1
    have l2 : cs.length = cs'.size := e3.1
    refine ⟨by simp [l1, l2, Nat.add_assoc], fun i c x hcx hx => ?_⟩
    by_cases h1 : i < fs.length
    · rw [List.getElem?_append_left h1] at hcx
      rw [Array.append_assoc, Array.getElem?_append_left (by omega)] at hx
      exact e2.2 i c x hcx hx
    · rw [List.getElem?_append_right (by omega)] at hcx
      rw [Array.append_assoc, Array.getElem?_append_right (by omega)] at hx
      by_cases h2 : i - fs.length < args.size
      · rw [List.getElem?_append_left (by simpa using h2)] at hcx
        rw [Array.getElem?_append_left (by simp; omega)] at hx
        rw [l1] at hcx
        simp only [List.getElem?_map] at hcx
        simp only [Array.getElem?_map] at hx
        cases hi : args[i - fs'.size]? with
        | none => rw [hi] at hx; cases hx
        | some z =>
          rw [hi] at hx
          have : args.toList[i - fs'.size]? = some z := by simpa using hi
          rw [this] at hcx
          simp at hcx hx; subst hcx; subst hx
          exact rep_aval hs z
      · rw [List.getElem?_append_right (by simp; omega)] at hcx
        rw [Array.getElem?_append_right (by simp; omega)] at hx
        refine e3.2 _ c x hcx ?_
        rw [← hx]; congr 1; simp; omega
  have hrun : (execOp a.eval o).run P w = .ok (.enter g (fs' ++ args.map a.eval ++ cs')) w := by
    unfold execOp; rw [ho]
    simp [resolve, e1, Deferred.ofValue, invoke, hC.call g hg]
  unfold Oper.wp
  rw [hrun, Oper.upon_enter]
  refine (h _ hall).mono fun e w' ⟨x, he, hn⟩ => ?_
  subst he
  exact hn

theorem over_wp {P : Program} {C : Cfg2} (hC : Cfg2Ok P C) {base : Nat} {f : List AV} {m : Nat → Option Blk} {o : Oper} {fo : Operand} {args : Array Operand} {ats : Array TypeId}
    (ho : o.op = .call { callee := .value fo, args := args, argTypes := ats }) {g : FuncId} {fs cs : List AV} (hg : C.ov g = true)
    (hc : ∀ {w : World} {gh : G} {lim : Nat} {x : Value}, Rep w gh lim (aval f fo) x → ∃ fs' cs', x = .func (.func g) fs' cs' ∧ RepL w gh lim fs fs' ∧ RepL w gh lim cs cs')
    {w : World} {gh : G} {a : Act} (hs : Sim w gh (base + L) f m a) (N : Act → World → Prop) (Q : Exit → Act → World → Prop)
    (h : ∀ vs, RepL w gh (base + L) (fs ++ ((args.toList.map (aval f)) ++ cs)) vs → ∀ (t tR e : TypeId) (z : Nat), P.underlying t = some (.slice e) → szOf P e = some z →
      ∃ x, (Extern.SlicesOverlaps.overlaps #[t, t] #[tR] vs).run P w = .ok x w ∧ N (a.put o.dst x) w) : o.wp P a w N Q := by
  obtain ⟨fs', cs', e1, e2, e3⟩ := hc (rep_aval hs fo)
  have hall : RepL w gh (base + L) (fs ++ ((args.toList.map (aval f)) ++ cs)) (fs' ++ args.map a.eval ++ cs') := by
    have l1 : fs.length = fs'.size := e2.1
    have l2 : cs.length = cs'.size := e3.1
    refine ⟨by simp [l1, l2, Nat.add_assoc], fun i c x hcx hx => ?_⟩
    by_cases h1 : i < fs.length
    · rw [List.getElem?_append_left h1] at hcx
      rw [Array.append_assoc, Array.getElem?_append_left (by omega)] at hx
      exact e2.2 i c x hcx hx
    · rw [List.getElem?_append_right (by omega)] at hcx
      rw [Array.append_assoc, Array.getElem?_append_right (by omega)] at hx
      by_cases h2 : i - fs.length < args.size
      · rw [List.getElem?_append_left (by simpa using h2)] at hcx
        rw [Array.getElem?_append_left (by simp; omega)] at hx
        rw [l1] at hcx
        simp only [List.getElem?_map] at hcx
        simp only [Array.getElem?_map] at hx
        cases hi : args[i - fs'.size]? with
        | none => rw [hi] at hx; cases hx
        | some z =>
          rw [hi] at hx
          have : args.toList[i - fs'.size]? = some z := by simpa using hi
          rw [this] at hcx
          simp at hcx hx; subst hcx; subst hx
          exact rep_aval hs z
      · rw [List.getElem?_append_right (by simp; omega)] at hcx
        rw [Array.getElem?_append_right (by simp; omega)] at hx
        refine e3.2 _ c x hcx ?_
        rw [← hx]; congr 1; simp; omega
  obtain ⟨t, tR, e, z, ht, hz, hcall⟩ := hC.over g hg
  obtain ⟨x, hx, hn⟩ := h _ hall t tR e z ht hz
  have hrun : (execOp a.eval o).run P w = .ok (.value x) w := by
    unfold execOp; rw [ho]
    have hx2 := hx
    rw [Array.append_assoc] at hx2
    simp [resolve, e1, Deferred.ofValue, invoke, hcall, hx, hx2]
  unfold Oper.wp
  rw [hrun, Oper.upon_value]
  exact hn

theorem calleeK_ok {v : AV} {K : FuncId → List AV → List AV → Prop} (h : calleeK v K) : ∃ g fs cs, K g fs cs ∧
    ∀ {w : World} {gh : G} {lim : Nat} {x : Value}, Rep w gh lim v x → ∃ fs' cs', x = .func (.func g) fs' cs' ∧ RepL w gh lim fs fs' ∧ RepL w gh lim cs cs' := by
  unfold calleeK at h
  split at h
  · rename_i g fs cs
    split at h
    · rename_i h1 h2
      refine ⟨g, [], [], h, fun {w gh lim x} hr => ⟨fs, cs, rep_lit hr, ⟨by simpa using h1.symm, fun i c x hc => by simp at hc⟩, ⟨by simpa using h2.symm, fun i c x hc => by simp at hc⟩⟩⟩
    · exact h.elim
  · rename_i g fs cs
    refine ⟨g, fs, cs, h, fun {w gh lim x} hr => ?_⟩
    cases hr with
    | clo _ _ _ fs' cs' hl h hl' h' => exact ⟨fs', cs', rfl, ⟨hl, h⟩, ⟨hl', h'⟩⟩
  · exact h.elim

theorem stepK_ok {P : Program} {C : Cfg2} (hC : Cfg2Ok P C) {base : Nat} {f : List AV} {m : Mem} {o : Oper} {K : List AV → Mem → Prop} (h : stepK P C base f m o K) : SOk P base o f m K := by
  unfold stepK at h
  split at h
  case h_1 fo args ats ho =>
    unfold callK at h
    rw [avalK_eq] at h
    obtain ⟨g, fs, cs, h, hc⟩ := calleeK_ok h
    rw [avalsK_eq, appK_eq, appK_eq] at h
    cases hg : C.fn g with
    | false =>
      rw [hg] at h
      simp only at h
      cases hov : C.ov g with
      | false => rw [hov] at h; exact h.elim
      | true =>
      rw [hov] at h
      simp only at h
      generalize hall : fs ++ (args.toList.map (aval f) ++ cs) = all at h
      unfold ovK at h
      split at h
      case h_2 => exact h.elim
      split at h
      case h_2 => exact h.elim
      split at h
      case h_2 => exact h.elim
      rename_i t1 k1 o1 n1 c1 xx t2 k2 o2 n2 c2
      cases hk : Nat.beq k1 k2 with
      | true => rw [hk] at h; exact h.elim
      | false =>
      rw [hk] at h
      simp only at h
      obtain ⟨b1, hb1, h'⟩ := memK_ok h
      clear h
      obtain ⟨b2, hb2, h⟩ := memK_ok h'
      clear h'
      cases b1 with
      | box _ => exact h.elim
      | row s1 l1 =>
      cases b2 with
      | box _ => exact h.elim
      | row s2 l2 =>
      obtain ⟨m', hK, hm'⟩ := applyK_eq h
      intro w gh a hs N Q hN
      refine over_wp hC ho hov hc hs N Q fun vs hvs t tR e z ht hz => ?_
      rw [hall] at hvs
      obtain ⟨x, y, rfl⟩ : ∃ x y, vs = #[x, y] := by
        have hsz := hvs.1
        obtain ⟨l, rfl⟩ : ∃ l : List Value, vs = l.toArray := ⟨vs.toList, by simp⟩
        match l, hsz with
        | [x, y], _ => exact ⟨x, y, rfl⟩
      refine ⟨.bool false, run_over ht hz hs.me (nbf.1 hk) (hvs.2 0 (.own t1 k1 o1 n1 c1) x rfl rfl) (hvs.2 1 (.own t2 k2 o2 n2 c2) y rfl rfl) hb1 hb2 ⟨_, _, rfl⟩ ⟨_, _, rfl⟩, ?_⟩
      refine hN _ m' w gh _ hK ⟨hs.fr.put .ff o.dst, (Act.put_df _ _ _).trans hs.df, by rw [hm']; exact hs.me⟩ (Tr.refl gh w) (LeG.refl base gh)
    | true =>
    rw [hg] at h
    intro w gh a hs N Q hN
    rcases h with ⟨c, hrd, hca, hK⟩ | hI
    · obtain ⟨m', hK, hm'⟩ := applyK_eq hK
      refine calls_wp hC ho hg hc hs N Q fun vs hvs => ?_
      refine (hca.go (mget m) hrd w gh vs hs.me hvs).mono fun e w' ⟨x, g', e1, e2, e3, e4, e5, e6⟩ => ⟨x, e1, ?_⟩
      exact hN _ m' w' g' _ hK ⟨(e6 _ _ hs.fr).put e2 o.dst, (Act.put_df _ _ _).trans hs.df, by rw [hm']; exact e3⟩ e4 e5
    · refine calls_wp hC ho hg hc hs N Q fun vs hvs => ?_
      refine (hI.go w gh vs hs.me hvs).mono fun e w' ⟨v, x, g', m', e1, e2, e3, e4, e5, e6⟩ => ⟨x, e1, ?_⟩
      -- as it is
      rw [noRCL_eq, fputK_eq] at e6
      exact hN _ m' w' g' _ e6 ⟨(hs.fr.noR e5 e4).put e2 o.dst, (Act.put_df _ _ _).trans hs.df, e3⟩ e4 (e5.mono (Nat.le_add_right _ _))
  case h_2 =>
    intro w gh a hs N Q hN
    obtain ⟨c, hK, hrd, hok⟩ := opA_ok hC.toCfgOk h
    obtain ⟨m', hK, hm'⟩ := applyK_eq hK
    refine hok f (mget m) (fun _ _ => Le.refl _) hrd w gh a hs N Q fun w' g' a' hs' ht hl => ?_
    exact hN _ m' w' g' a' hK (by rw [hm']; exact hs') ht hl

/-- A guard. -/
def opAt : List Oper → Nat → Option Oper
  | [], _ => none
  | o :: _, 0 => some o
  | _ :: r, n + 1 => opAt r n
theorem opAt_eq (l : List Oper) (n : Nat) : opAt l n = l[n]? := by
  induction l generalizing n with
  | nil => rfl
  | cons o r ih => cases n <;> simp [opAt, ih]

def guardK (all : List Oper) (f : List AV) (gd : Option (Nat × Bool)) (run skip : List AV → Prop) : Prop :=
  match gd with
  | none => run f
  | some (j, want) => match opAt all j with
    | some oj => match oj.dst with
      | some d => nthK f d fun v => match v with
        | .tt => match want with | true => run f | false => skip f
        | .ff => match want with | true => skip f | false => run f
        | .lit (.bool b) => (b = true → setK f d .tt fun f => match want with | true => run f | false => skip f) ∧
            (b = false → setK f d .ff fun f => match want with | true => skip f | false => run f)
        | .bl p q => (p → setK f d .tt fun f => match want with | true => run f | false => skip f) ∧
            (q → setK f d .ff fun f => match want with | true => skip f | false => run f)
        | .lit (.tuple _) => skip f
        | _ => False
      | none => False
    | none => False

/-- Operations, one after the other. -/
def opsK (P : Program) (C : Cfg2) (base : Nat) (all : List Oper) : List Oper → List AV → Mem → (List AV → Mem → Prop) → Prop
  | [], f, m, K => K f m
  | o :: r, f, m, K => guardK all f o.guard (fun f => stepK P C base f m o fun f m => opsK P C base all r f m K) (fun f => fputK f o.dst und fun f => opsK P C base all r f m K)

theorem set_self {f : List AV} {d : Nat} {v : AV} {w : World} {g : G} {lim : Nat} {m : Nat → Option Blk} {a : Act} (hs : Sim w g lim f m a) (h : ∀ x, a.tmps[d]? = some x → Rep w g lim v x) :
    Sim w g lim (f.set d v) m a := by
  refine ⟨⟨by simpa using hs.fr.1, fun i c x hc hx => ?_⟩, hs.df, hs.me⟩
  rw [List.getElem?_set] at hc
  by_cases hd : d = i
  · subst hd
    simp at hc
    obtain ⟨_, rfl⟩ := hc
    exact h x hx
  · rw [if_neg hd] at hc
    exact hs.fr.2 i c x hc hx

theorem guardK_ok {all : List Oper} {f : List AV} {o : Oper} {run skip : List AV → Prop} (h : guardK all f o.guard run skip) {w : World} {g : G} {lim : Nat} {m : Nat → Option Blk} {a : Act} (hs : Sim w g lim f m a) :
    ∃ f', Sim w g lim f' m a ∧ ((Region.wanted o (yielded all.toArray a.tmps) = true ∧ run f') ∨ (Region.wanted o (yielded all.toArray a.tmps) = false ∧ skip f')) := by
  unfold guardK at h
  cases hg : o.guard with
  | none => rw [hg] at h; exact ⟨f, hs, .inl ⟨by simp [Region.wanted, hg], h⟩⟩
  | some p =>
    obtain ⟨j, want⟩ := p
    rw [hg] at h
    simp only at h
    rw [opAt_eq] at h
    cases hj : all[j]? with
    | none => rw [hj] at h; exact h.elim
    | some oj =>
    rw [hj] at h
    simp only at h
    cases hd : oj.dst with
    | none => rw [hd] at h; exact h.elim
    | some d =>
    rw [hd] at h
    simp only at h
    rw [nthK_eq] at h
    have key : ∀ (b : Bool), (∀ x, a.tmps[d]? = some x → x = .bool b) → d < f.length → Region.wanted o (yielded all.toArray a.tmps) = (b == want) := by
      intro b hb hlt
      have hsz : f.length = a.tmps.size := hs.fr.1
      have hx : a.tmps[d]? = some (a.tmps[d]'(by rw [← hsz]; exact hlt)) := Array.getElem?_eq_getElem _
      have := hb _ hx
      rw [this] at hx
      have hy : yielded all.toArray a.tmps j = some b := by
        unfold yielded
        simp [hj, hd, hx]
      simp only [Region.wanted, hg, hy]
      cases b <;> cases want <;> rfl
    by_cases hlt : d < f.length
    · have hf : f[d]? = some f[d] := List.getElem?_eq_getElem hlt
      rw [hf] at h
      simp only [Option.getD_some] at h
      have hrep : ∀ x, a.tmps[d]? = some x → Rep w g lim f[d] x := fun x hx => hs.fr.2 d _ x hf hx
      split at h
      · rename_i hv
        have hw := key true (fun x hx => by have := hrep x hx; rw [hv] at this; cases this; rfl) hlt
        cases want with
        | true => exact ⟨f, hs, .inl ⟨by simpa using hw, h⟩⟩
        | false => exact ⟨f, hs, .inr ⟨by simpa using hw, h⟩⟩
      · rename_i hv
        have hw := key false (fun x hx => by have := hrep x hx; rw [hv] at this; cases this; rfl) hlt
        cases want with
        | true => exact ⟨f, hs, .inr ⟨by simpa using hw, h⟩⟩
        | false => exact ⟨f, hs, .inl ⟨by simpa using hw, h⟩⟩
      · rename_i b hv
        rw [setK_eq, setK_eq] at h
        have hxb : ∀ x, a.tmps[d]? = some x → x = .bool b := fun x hx => by have := hrep x hx; rw [hv] at this; exact rep_lit this
        have hw := key b hxb hlt
        cases b with
        | true =>
          refine ⟨f.set d .tt, set_self hs (fun x hx => by rw [hxb x hx]; exact .tt), ?_⟩
          have h := h.1 rfl
          cases want with
          | true => exact .inl ⟨by simpa using hw, h⟩
          | false => exact .inr ⟨by simpa using hw, h⟩
        | false =>
          refine ⟨f.set d .ff, set_self hs (fun x hx => by rw [hxb x hx]; exact .ff), ?_⟩
          have h := h.2 rfl
          cases want with
          | true => exact .inr ⟨by simpa using hw, h⟩
          | false => exact .inl ⟨by simpa using hw, h⟩
      · rename_i p q hv
        rw [setK_eq, setK_eq] at h
        have hx0 : a.tmps[d]? = some (a.tmps[d]'(by rw [← hs.fr.1]; exact hlt)) := Array.getElem?_eq_getElem _
        have hr0 := hrep _ hx0
        rw [hv] at hr0
        generalize hX : a.tmps[d]'(by rw [← hs.fr.1]; exact hlt) = X at hr0 hx0
        cases hr0 with
        | bl _ _ b hp hq =>
        have hxb : ∀ x, a.tmps[d]? = some x → x = .bool b := fun x hx => by rw [hx0] at hx; cases hx; rfl
        have hw := key b hxb hlt
        cases b with
        | true =>
          refine ⟨f.set d .tt, set_self hs (fun x hx => by rw [hxb x hx]; exact .tt), ?_⟩
          have h := h.1 (hp rfl)
          cases want with
          | true => exact .inl ⟨by simpa using hw, h⟩
          | false => exact .inr ⟨by simpa using hw, h⟩
        | false =>
          refine ⟨f.set d .ff, set_self hs (fun x hx => by rw [hxb x hx]; exact .ff), ?_⟩
          have h := h.2 (hq rfl)
          cases want with
          | true => exact .inr ⟨by simpa using hw, h⟩
          | false => exact .inl ⟨by simpa using hw, h⟩
      · rename_i ys hv
        have hx0 : a.tmps[d]? = some (a.tmps[d]'(by rw [← hs.fr.1]; exact hlt)) := Array.getElem?_eq_getElem _
        have hr0 := hrep _ hx0
        rw [hv] at hr0
        rw [rep_lit hr0] at hx0
        refine ⟨f, hs, .inr ⟨?_, h⟩⟩
        have hy : yielded all.toArray a.tmps j = none := by
          unfold yielded
          simp [hj, hd, hx0]
        simp only [Region.wanted, hg, hy]
        rfl
      · exact h.elim
    · have hf : f[d]? = none := List.getElem?_eq_none (Nat.le_of_not_lt hlt)
      rw [hf] at h
      have hx0 : a.tmps[d]? = none := Array.getElem?_eq_none (by rw [← hs.fr.1]; exact Nat.le_of_not_lt hlt)
      refine ⟨f, hs, .inr ⟨?_, h⟩⟩
      have hy : yielded all.toArray a.tmps j = none := by
        unfold yielded
        simp [hj, hd, hx0]
      simp only [Region.wanted, hg, hy]
      rfl

theorem opsK_ok {P : Program} {C : Cfg2} (hC : Cfg2Ok P C) {base : Nat} {all : List Oper} (l : List Oper) : ∀ {f : List AV} {m : Mem} {K : List AV → Mem → Prop}, opsK P C base all l f m K →
    ∀ (w : World) (g : G) (a : Act), Sim w g (base + L) f (mget m) a → ∀ (Q : Exit → Act → World → Prop),
      (∀ f' m' w' g' a', K f' m' → Sim w' g' (base + L) f' (mget m') a' → Tr g w w' → LeG base g g' → Q .normal a' w') → wpList P all.toArray Q l a w := by
  induction l with
  | nil => intro f m K h w g a hs Q hQ; exact hQ f m w g a h hs (Tr.refl g w) (LeG.refl base g)
  | cons o r ih =>
    intro f m K h w g a hs Q hQ
    simp only [opsK] at h
    obtain ⟨f', hs', hh⟩ := guardK_ok h hs
    unfold wpList
    rcases hh with ⟨hw, hr⟩ | ⟨hw, hr⟩
    · rw [if_pos hw]
      refine .inl (stepK_ok hC hr w g a hs' _ Q fun f2 m2 w2 g2 a2 hK hs2 ht hl => ?_)
      exact ih hK w2 g2 a2 hs2 Q fun f3 m3 w3 g3 a3 hK3 hs3 ht3 hl3 => hQ f3 m3 w3 g3 a3 hK3 hs3 (ht.trans hl ht3) (hl.trans hl3)
    · rw [if_neg (by simp [hw])]
      rw [fputK_eq] at hr
      exact ih hr w g _ (hs'.put (.lit _) o.dst) Q hQ

end Eng
