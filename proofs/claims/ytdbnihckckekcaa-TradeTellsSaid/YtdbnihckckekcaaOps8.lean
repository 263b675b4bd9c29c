/- THE OPERATIONS OVER ABSTRACT VALUES, eighth part: the model's operations do what the abstract ones say. -/
import Derived.Test.YtdbnihckckekcaaRowF
set_option linter.unusedSimpArgs false
set_option linter.unusedVariables false
namespace Eng
open Go Go.RowKit

def isArrK (P : Program) (t : TypeId) : Bool := match P.underlying t with | some (.array _ _) => true | _ => false
def isIntK (P : Program) (ats : List TypeId) : Bool := match ats with
  | [_, tx] => match P.underlying tx with
    | some (.int _) => true
    | _ => false
  | _ => false
theorem isIntK_ok {P : Program} {ats : Array TypeId} (h : isIntK P ats.toList = true) : ∃ tx k, ats[1]? = some tx ∧ P.underlying tx = some (.int k) := by
  unfold isIntK at h
  split at h
  · rename_i t tx hats
    split at h
    · rename_i k hk
      exact ⟨tx, k, by rw [← Array.toArray_toList (xs := ats), hats]; rfl, hk⟩
    · cases h
  · cases h

def builtinK2 (P : Program) (C : Cfg) (base : Nat) (m : Mem) (dst : Option Nat) (b : Builtin) (ats : Array TypeId) (args : List Operand) (f : List AV) (K : Act1 → Prop) : Prop :=
  match b with
  | .append => match args with
    | [x, y] => avalK f x fun a => avalK f y fun b => match isIntK P ats.toList with
      | true => zerosK P C base m dst ats.toList a b K
      | false => appendK P C base m dst ats.toList a b K
    | _ => False
  | .copy => match args with
    | [x, y] => avalK f x fun a => avalK f y fun b => copyK P C m ats.toList a b K
    | _ => False
  | .clear => match args with
    | [x] => avalK f x fun a => clearK P C m ats.toList a K
    | _ => False
  | .cap => match args with
    | [x] => match ats.toList with
      | [t] => avalK f x fun a => capK P t a fun v => K (vA v)
      | _ => False
    | _ => False
  | b => builtinK P b ats args f K

/-- AN OPERATION THAT CALLS NO GO FUNCTION. -/
def opA (P : Program) (C : Cfg) (base : Nat) (f : List AV) (m : Mem) (o : Oper) (K : Act1 → Prop) : Prop :=
  match o.op with
  | .move x => avalK f x fun v => K (vA v)
  | .assign x => avalK f x fun v => K (vA v)
  | .pick c a b => avalK f c fun c => avalK f a fun a => avalK f b fun b => pickK c a b fun v => K (vA v)
  | .alloc t => allocK P base o.dst t K
  | .box _ x => avalK f x fun v => cellsK v fun cs => boxK base o.dst cs K
  | .load t x => avalK f x fun v => loadK P m t v K
  | .store t x y => avalK f x fun a => avalK f y fun v => storeK P m t a v K
  | .binOp op t x y _ => avalK f x fun a => avalK f y fun b => binK P C op t a b fun v => K (vA v)
  | .unOp op _ x => avalK f x fun a => unK op a fun v => K (vA v)
  | .convert s d x => avalK f x fun a => match isStrK P s d with
    | true => toStrK P m s d a K
    | false => convK P s d a fun v => K (vA v)
  | .makeFunc fn fs cs => avalsK f fs.toList fun fs => avalsK f cs.toList fun cs => K (vA (.clo fn fs cs))
  | .fieldAddr t x i => avalK f x fun a => faK P t a i fun v => K (vA v)
  | .field t x i => avalK f x fun a => fieldK P t a i fun v => K (vA v)
  | .indexAddr t x i => avalK f x fun a => avalK f i fun i => ixK P t a i fun v => K (vA v)
  | .extract x i => avalK f x fun a => extrK a i fun v => K (vA v)
  | .nilCheck x => avalK f x fun a => ncK a fun v => K (vA v)
  | .call { callee := .builtin b, args := args, argTypes := ats } => builtinK2 P C base m o.dst b ats args.toList f K
  | .build t ps => buildK P f t ps.toList fun v => K (vA v)
  | .makeSlice t x y => avalK f x fun a => avalK f y fun b => makeK P C base o.dst t a b K
  | .slice t x l h mx => avalK f x fun a => match isArrK P t with
    | true => arrK P m t a f l h mx K
    | false => sliceK2 P t a f l h mx fun v => K (vA v)
  | .buildSlice t n ps => litK P C base m f o.dst t n ps.toList K
  | _ => False


theorem pureOf {P : Program} {base : Nat} {m : Mem} {f : List AV} {o : Oper} {v : AV} {K : Act1 → Prop} (hK : K (vA v))
    (h : ∀ (w : World) (g : G) (a : Act), (∀ x ∈ o.op.operands.toList, Rep w g (base + L) (aval f x) (a.eval x)) → ∃ x, (execOp a.eval o).run P w = .ok (.value x) w ∧ Rep w g (base + L) v x) :
    ∃ c, K c ∧ (∀ p ∈ c.rd, mget m p.1 = some p.2) ∧ AOk P base o f c :=
  pure_ok hK fun w g a _ hop => h w g a hop

theorem opA_ok {P : Program} {C : Cfg} (hC : CfgOk P C) {base : Nat} {f : List AV} {m : Mem} {o : Oper} {K : Act1 → Prop} (h : opA P C base f m o K) :
    ∃ c, K c ∧ (∀ p ∈ c.rd, mget m p.1 = some p.2) ∧ AOk P base o f c := by
  unfold opA at h
  split at h
  case h_1 x ho =>
    rw [avalK_eq] at h
    refine pureOf h fun w g a hop => ⟨_, ?_, hop x (by rw [ho]; simp [Op.operands])⟩
    unfold execOp; rw [ho]; rfl
  case h_2 x ho =>
    rw [avalK_eq] at h
    refine pureOf h fun w g a hop => ⟨_, ?_, hop x (by rw [ho]; simp [Op.operands])⟩
    unfold execOp; rw [ho]; rfl
  case h_3 c x y ho =>
    rw [avalK_eq, avalK_eq, avalK_eq] at h
    obtain ⟨v, hK, hv⟩ := pickK_ok h
    refine pureOf hK fun w g a hop => ?_
    obtain ⟨p, e1, e2⟩ := hv w g (base + L) _ _ _ (hop c (by rw [ho]; simp [Op.operands])) (hop x (by rw [ho]; simp [Op.operands])) (hop y (by rw [ho]; simp [Op.operands]))
    refine ⟨_, ?_, e2⟩
    unfold execOp; rw [ho]; simp [e1, asBool]
  case h_4 t ho => exact allocK_ok ho h
  case h_5 t x ho => rw [avalK_eq] at h; exact boxOp_ok ho h
  case h_6 t x ho => rw [avalK_eq] at h; exact loadK_ok ho h
  case h_7 t x y ho => rw [avalK_eq, avalK_eq] at h; exact storeK_ok ho h
  case h_8 op t x y t2 ho =>
    rw [avalK_eq, avalK_eq] at h
    obtain ⟨v, hK, hv⟩ := binK_ok hC h
    refine pureOf hK fun w g a hop => ?_
    obtain ⟨r, e1, e2, e3⟩ := hv w g (base + L) _ _ x y (hop x (by rw [ho]; simp [Op.operands])) (hop y (by rw [ho]; simp [Op.operands]))
    refine ⟨r, ?_, e3⟩
    unfold execOp; rw [ho]; simp [e1, e2]
  case h_9 op t x ho =>
    rw [avalK_eq] at h
    obtain ⟨v, hK, hv⟩ := unK_ok (P := P) h
    refine pureOf hK fun w g a hop => ?_
    obtain ⟨r, e1, e2⟩ := hv w g (base + L) _ (hop x (by rw [ho]; simp [Op.operands]))
    refine ⟨r, ?_, e2⟩
    unfold execOp; rw [ho]; simp [e1]
  case h_10 s d x ho =>
    rw [avalK_eq] at h
    cases his : isStrK P s d with
    | true => rw [his] at h; exact toStrK_ok ho h
    | false =>
    rw [his] at h
    obtain ⟨v, hK, hv⟩ := convK_ok h
    refine pureOf hK fun w g a hop => ?_
    obtain ⟨r, e1, e2⟩ := hv w g (base + L) _ (hop x (by rw [ho]; simp [Op.operands]))
    refine ⟨r, ?_, e2⟩
    unfold execOp; rw [ho]; simp [e1]
  case h_11 fn fs cs ho =>
    rw [avalsK_eq, avalsK_eq] at h
    refine pureOf h fun w g a hop => ⟨.func fn (fs.map a.eval) (cs.map a.eval), ?_, ?_⟩
    · unfold execOp; rw [ho]; simp [Instr.makeFunc]
    · refine .clo _ _ _ _ _ (by simp) (fun i c x hc hx => ?_) (by simp) (fun i c x hc hx => ?_)
      · rw [List.getElem?_map] at hc
        rw [Array.getElem?_map] at hx
        cases hi : fs.toList[i]? with
        | none => rw [hi] at hc; cases hc
        | some z =>
          rw [hi] at hc
          have hi' : fs[i]? = some z := by simpa using hi
          rw [hi'] at hx
          simp at hc hx; subst hc; subst hx
          exact hop z (by rw [ho]; simp [Op.operands]; exact .inl (Array.mem_of_getElem? hi'))
      · rw [List.getElem?_map] at hc
        rw [Array.getElem?_map] at hx
        cases hi : cs.toList[i]? with
        | none => rw [hi] at hc; cases hc
        | some z =>
          rw [hi] at hc
          have hi' : cs[i]? = some z := by simpa using hi
          rw [hi'] at hx
          simp at hc hx; subst hc; subst hx
          exact hop z (by rw [ho]; simp [Op.operands]; exact .inr (Array.mem_of_getElem? hi'))
  case h_12 t x i ho =>
    rw [avalK_eq] at h
    obtain ⟨v, hK, hv⟩ := faK_ok h
    refine pureOf hK fun w g a hop => ?_
    obtain ⟨r, e1, e2⟩ := hv w g (base + L) _ (hop x (by rw [ho]; simp [Op.operands]))
    refine ⟨r, ?_, e2⟩
    unfold execOp; rw [ho]; simp [e1]
  case h_13 t x i ho =>
    rw [avalK_eq] at h
    obtain ⟨v, hK, hv⟩ := fieldK_ok h
    refine pureOf hK fun w g a hop => ?_
    obtain ⟨r, e1, e2⟩ := hv w g (base + L) _ (hop x (by rw [ho]; simp [Op.operands]))
    refine ⟨r, ?_, e2⟩
    unfold execOp; rw [ho]; simp [e1]
  case h_14 t x i ho =>
    rw [avalK_eq, avalK_eq] at h
    obtain ⟨v, hK, hv⟩ := ixK_ok h
    refine pureOf hK fun w g a hop => ?_
    obtain ⟨r, e1, e2⟩ := hv w g (base + L) _ _ (hop x (by rw [ho]; simp [Op.operands])) (hop i (by rw [ho]; simp [Op.operands]))
    refine ⟨r, ?_, e2⟩
    unfold execOp; rw [ho]; simp [e1]
  case h_15 x i ho =>
    rw [avalK_eq] at h
    obtain ⟨v, hK, hv⟩ := extrK_ok (P := P) h
    refine pureOf hK fun w g a hop => ?_
    obtain ⟨r, e1, e2⟩ := hv w g (base + L) _ (hop x (by rw [ho]; simp [Op.operands]))
    refine ⟨r, ?_, e2⟩
    unfold execOp; rw [ho]; simp [e1]
  case h_16 x ho =>
    rw [avalK_eq] at h
    obtain ⟨hK, hv⟩ := ncK_ok (P := P) ho h
    refine pureOf hK fun w g a hop => ?_
    have hr := hop x (by rw [ho]; simp [Op.operands])
    exact ⟨_, hv w g (base + L) a.eval hr, hr⟩
  case h_17 b args ats ho =>
    unfold builtinK2 at h
    split at h
    case h_1 =>
      split at h
      case h_2 => exact h.elim
      rename_i x y hargs
      have hargs' : args = #[x, y] := by rw [← Array.toArray_toList (xs := args), hargs]
      subst hargs'
      simp only [avalK_eq] at h
      cases hi : isIntK P ats.toList with
      | true => rw [hi] at h; exact zerosK_ok hC ho (isIntK_ok hi) h
      | false => rw [hi] at h; exact appendK_ok hC ho h
    case h_2 =>
      split at h
      case h_2 => exact h.elim
      rename_i x y hargs
      have hargs' : args = #[x, y] := by rw [← Array.toArray_toList (xs := args), hargs]
      subst hargs'
      simp only [avalK_eq] at h
      exact copyK_ok hC ho h
    case h_3 =>
      split at h
      case h_2 => exact h.elim
      rename_i x hargs
      have hargs' : args = #[x] := by rw [← Array.toArray_toList (xs := args), hargs]
      subst hargs'
      simp only [avalK_eq] at h
      exact clearK_ok hC ho h
    case h_4 =>
      split at h
      case h_2 => exact h.elim
      rename_i x hargs
      have hargs' : args = #[x] := by rw [← Array.toArray_toList (xs := args), hargs]
      subst hargs'
      split at h
      case h_2 => exact h.elim
      rename_i t hats
      have hats' : ats = #[t] := by rw [← Array.toArray_toList (xs := ats), hats]
      subst hats'
      simp only [avalK_eq] at h
      obtain ⟨v, hK, hv⟩ := capK_ok (ty := o.type) h
      refine pureOf hK fun w g a hop => ?_
      obtain ⟨r, e1, e2⟩ := hv w g (base + L) _ (hop x (by rw [ho]; simp [Op.operands, Call.operands]))
      refine ⟨r, ?_, e2⟩
      unfold execOp; rw [ho]; simp [resolve, invoke, builtin, e1]
    unfold builtinK at h
    split at h
    case h_1 =>
      split at h
      case h_2 => exact h.elim
      rename_i x hargs
      have hargs' : args = #[x] := by rw [← Array.toArray_toList (xs := args), hargs]
      subst hargs'
      cases hat : ats[0]? with
      | none => rw [hat] at h; exact h.elim
      | some t =>
        rw [hat] at h
        simp only [avalK_eq] at h
        obtain ⟨v, hK, hv⟩ := lenK_ok (ty := o.type) hat h
        refine pureOf hK fun w g a hop => ?_
        obtain ⟨r, e1, e2⟩ := hv w g (base + L) (a.eval x) #[a.eval x] (by simp) (hop x (by rw [ho]; simp [Op.operands, Call.operands]))
        refine ⟨r, ?_, e2⟩
        unfold execOp; rw [ho]; simp [resolve, invoke, builtin, e1]
    case h_2 =>
      split at h
      case h_2 => exact h.elim
      rename_i x y hargs
      have hargs' : args = #[x, y] := by rw [← Array.toArray_toList (xs := args), hargs]
      subst hargs'
      simp only [avalK_eq] at h
      obtain ⟨v, hK, hv⟩ := mmK_ok (P := P) h
      refine pureOf hK fun w g a hop => ?_
      obtain ⟨r, e1, e2⟩ := hv w g (base + L) _ _ (hop x (by rw [ho]; simp [Op.operands, Call.operands])) (hop y (by rw [ho]; simp [Op.operands, Call.operands]))
      refine ⟨r, ?_, e2⟩
      unfold execOp; rw [ho]; simp only at e1; simp [resolve, invoke, builtin, Builtin.min_, e1]
    case h_3 =>
      split at h
      case h_2 => exact h.elim
      rename_i x y hargs
      have hargs' : args = #[x, y] := by rw [← Array.toArray_toList (xs := args), hargs]
      subst hargs'
      simp only [avalK_eq] at h
      obtain ⟨v, hK, hv⟩ := mmK_ok (P := P) h
      refine pureOf hK fun w g a hop => ?_
      obtain ⟨r, e1, e2⟩ := hv w g (base + L) _ _ (hop x (by rw [ho]; simp [Op.operands, Call.operands])) (hop y (by rw [ho]; simp [Op.operands, Call.operands]))
      refine ⟨r, ?_, e2⟩
      unfold execOp; rw [ho]; simp only at e1; simp [resolve, invoke, builtin, Builtin.max_, e1]
    case h_4 => exact h.elim
  case h_18 t ps ho =>
    obtain ⟨v, hK, hv⟩ := buildK_ok h
    refine pureOf hK fun w g a hop => ?_
    obtain ⟨r, e1, e2⟩ := hv w g (base + L) a.eval fun p hp => hop p.2 (by rw [ho]; simp [Op.operands]; exact ⟨p.1, by simpa using hp⟩)
    refine ⟨r, ?_, e2⟩
    unfold execOp; rw [ho]; simp [e1]
  case h_19 t x y ho =>
    simp only [avalK_eq] at h
    exact makeK_ok hC ho h
  case h_20 t x l hh mx ho =>
    rw [avalK_eq] at h
    cases hia : isArrK P t with
    | true => rw [hia] at h; exact arrK_ok ho h
    | false =>
    rw [hia] at h
    obtain ⟨v, hK, hv⟩ := sliceK2_ok h
    refine pureOf hK fun w g a hop => ?_
    obtain ⟨r, e1, e2⟩ := hv w g (base + L) _ a.eval (hop x (by rw [ho]; simp [Op.operands])) (fun y hy => hop y (by rw [ho]; simp [Op.operands, hy])) (fun y hy => hop y (by rw [ho]; simp [Op.operands, hy])) (fun y hy => hop y (by rw [ho]; simp [Op.operands, hy]))
    refine ⟨r, ?_, e2⟩
    unfold execOp; rw [ho]; simp [e1]
  case h_21 t n ps ho => exact litK_ok hC ho h
  case h_22 => exact h.elim

end Eng
