/- THE OPERATIONS OVER ABSTRACT VALUES, seventh part: all of them under one name. -/
import Derived.Test.YtdbnihckckekcaaOps6
set_option linter.unusedSimpArgs false
set_option linter.unusedVariables false
namespace Eng
open Go Go.RowKit

/-- A part of a struct's or an array's value. -/
theorem run_part {P : Program} {w : World} {g : G} {lim : Nat} {t : TypeId} {cs : List AV} {off : Nat} {K : AV → Prop} (h : aggK P t cs off K) :
    ∃ v, K v ∧ ∀ (w : World) (g : G) (lim : Nat) (xs : Array Value), RepL w g lim cs xs → ∃ x, (part t xs off).run P w = .ok x w ∧ Rep w g lim v x := by
  unfold aggK at h
  split at h
  · rename_i n ha hs
    obtain ⟨h1, h2⟩ := dropK_ok h
    obtain ⟨h3, h4⟩ := takeK_ok h2
    simp only [List.length_drop] at h3
    refine ⟨_, h4, fun w g lim xs hr => ⟨.agg (xs.extract off (off + n)), by simp [part, run_isAgg ha, run_sizeOf hs], ?_⟩⟩
    have hl : cs.length = xs.size := hr.1
    refine .agg _ _ (by simp [List.length_take, List.length_drop]; omega) fun i c x hc hx => ?_
    have hin : i < n := by have := (List.getElem?_eq_some_iff.1 hc).1; simp at this; omega
    rw [List.getElem?_take, if_pos hin, List.getElem?_drop] at hc
    rw [Array.getElem?_extract, if_pos (by omega)] at hx
    exact hr.2 _ _ _ hc hx
  · rename_i ha hs
    obtain ⟨h1, h2⟩ := dropK_ok h
    obtain ⟨h3, h4⟩ := takeK_ok h2
    simp only [List.length_drop] at h3
    have hc : cs[off]? = some (cs[off]'(by omega)) := List.getElem?_eq_getElem (by omega)
    have he : (cs.drop off).take 1 = [cs[off]'(by omega)] := by
      rw [List.drop_eq_getElem_cons (by omega), List.take_succ_cons, List.take_zero]
    rw [he] at h4
    refine ⟨_, h4, fun w g lim xs hr => ?_⟩
    have hl : cs.length = xs.size := hr.1
    have hx : xs[off]? = some (xs[off]'(by omega)) := Array.getElem?_eq_getElem (by omega)
    exact ⟨xs[off]'(by omega), by simp [part, run_isAgg ha, hx], hr.2 _ _ _ hc hx⟩
  · exact h.elim

def fieldK (P : Program) (t : TypeId) (v : AV) (i : Nat) (K : AV → Prop) : Prop :=
  match P.underlying t with
  | some (.struct fs) => match fs[i]? with
    | some f => match v with
      | .agg cs => aggK P f.type cs f.offset K
      | _ => False
    | none => False
  | _ => False
theorem fieldK_ok {P : Program} {t : TypeId} {a : AV} {i : Nat} {K : AV → Prop} (h : fieldK P t a i K) :
    ∃ v, K v ∧ ∀ (w : World) (g : G) (lim : Nat) (xa : Value), Rep w g lim a xa → ∃ r, (Instr.field t xa i).run P w = .ok r w ∧ Rep w g lim v r := by
  unfold fieldK at h
  cases hu : P.underlying t with
  | none => rw [hu] at h; exact h.elim
  | some d =>
  rw [hu] at h
  cases d <;> simp only at h
  case struct fs =>
    cases hf : fs[i]? with
    | none => rw [hf] at h; exact h.elim
    | some f =>
    rw [hf] at h
    cases a with
    | agg cs =>
      obtain ⟨v, hK, hv⟩ := run_part (w := default) (g := ⟨fun _ => False, fun _ => False, fun _ => False, id, id⟩) (lim := 0) h
      refine ⟨v, hK, fun w g lim xa ha => ?_⟩
      obtain ⟨xs, rfl, hr⟩ := rep_agg ha
      obtain ⟨x, e1, e2⟩ := hv w g lim xs hr
      exact ⟨x, by simp [Instr.field, run_underlying hu, hf, asAgg, e1], e2⟩
    | _ => exact h.elim

/-- One of a call's values. -/
def extrK (v : AV) (i : Nat) (K : AV → Prop) : Prop :=
  match v with
  | .tup cs => dropK cs i fun l => match l with | x :: _ => K x | [] => False
  | _ => False
theorem extrK_ok {P : Program} {a : AV} {i : Nat} {K : AV → Prop} (h : extrK a i K) :
    ∃ v, K v ∧ ∀ (w : World) (g : G) (lim : Nat) (xa : Value), Rep w g lim a xa → ∃ r, (Instr.extract xa i).run P w = .ok r w ∧ Rep w g lim v r := by
  unfold extrK at h
  cases a with
  | tup cs =>
    obtain ⟨h1, h2⟩ := dropK_ok h
    cases hd : cs.drop i with
    | nil => rw [hd] at h2; exact h2.elim
    | cons x r =>
      rw [hd] at h2
      refine ⟨x, h2, fun w g lim xa ha => ?_⟩
      have hc : cs[i]? = some x := by
        have : (cs.drop i)[0]? = some x := by rw [hd]; rfl
        simpa using this
      cases ha with
      | tup _ xs hl hr =>
        have hlt : i < xs.size := by have := (List.getElem?_eq_some_iff.1 hc).1; omega
        have hx : xs[i]? = some xs[i] := Array.getElem?_eq_getElem hlt
        exact ⟨xs[i], by simp [Instr.extract, hx], hr i x _ hc hx⟩
  | _ => exact h.elim

/-- min and max of two integers. -/
def mmK (mx : Bool) (a b : AV) (K : AV → Prop) : Prop :=
  match a with
  | .lit (.int k x) => match b with
    | .lit (.int _ y) => match mx with
      | true => K (.lit (.int k (max x y)))
      | false => K (.lit (.int k (min x y)))
    | _ => False
  | _ => False
theorem mmK_ok {P : Program} {mx : Bool} {a b : AV} {K : AV → Prop} (h : mmK mx a b K) :
    ∃ v, K v ∧ ∀ (w : World) (g : G) (lim : Nat) (xa xb : Value), Rep w g lim a xa → Rep w g lim b xb →
      ∃ r, (match mx with | true => Builtin.max2 xa xb | false => Builtin.min2 xa xb).run P w = .ok r w ∧ Rep w g lim v r := by
  unfold mmK at h
  cases a with
  | lit va =>
    cases va with
    | int k x =>
      cases b with
      | lit vb =>
        cases vb with
        | int k' y =>
          cases mx with
          | true =>
            refine ⟨_, h, fun w g lim xa xb ha hb => ?_⟩
            rw [rep_lit ha, rep_lit hb]
            refine ⟨_, rfl, ?_⟩
            have : (if y > x then y else x) = max x y := by rw [Int.max_def]; split <;> split <;> omega
            rw [this]; exact .lit _
          | false =>
            refine ⟨_, h, fun w g lim xa xb ha hb => ?_⟩
            rw [rep_lit ha, rep_lit hb]
            refine ⟨_, rfl, ?_⟩
            have : (if y < x then y else x) = min x y := by rw [Int.min_def]; split <;> split <;> omega
            rw [this]; exact .lit _
        | _ => exact h.elim
      | _ => exact h.elim
    | _ => exact h.elim
  | _ => exact h.elim

/-- A part of a slice. -/
def boundK (x : Option Operand) (f : List AV) (d : Int) (K : Int → Prop) : Prop :=
  match x with
  | none => K d
  | some x => avalK f x fun v => match v with | .lit (.int _ n) => K n | _ => False
def sliceK (P : Program) (t : TypeId) (v : AV) (lo hi : Option Operand) (f : List AV) (K : AV → Prop) : Prop :=
  match P.underlying t with
  | some (.slice e) => match v with
    | .vec tt l => match szOf P e with
      | some z => match Nat.beq z (csz tt) with
        | true => boundK lo f 0 fun a => boundK hi f l.length fun b => (0 ≤ a ∧ a ≤ b ∧ b ≤ l.length) ∧ K (.vec tt ((l.drop a.toNat).take (b - a).toNat))
        | false => False
      | none => False
    | _ => False
  | _ => False

/-- Nothing is made of what is no nil. -/
def ncK (v : AV) (K : AV → Prop) : Prop :=
  match v with
  | .ptr k off => K (.ptr k off)
  | .rptr t k i off => K (.rptr t k i off)
  | .vptr t l i off => K (.vptr t l i off)
  | _ => False
theorem ncK_ok {P : Program} {o : Oper} {x : Operand} (ho : o.op = .nilCheck x) {a : AV} {K : AV → Prop} (h : ncK a K) :
    K a ∧ ∀ (w : World) (g : G) (lim : Nat) (ρ : Operand → Value), Rep w g lim a (ρ x) → (execOp ρ o).run P w = .ok (.value (ρ x)) w := by
  unfold ncK at h
  cases a <;> simp only at h
  all_goals first
    | exact h.elim
    | (refine ⟨h, fun w g lim ρ ha => ?_⟩
       generalize hE : ρ x = E at ha
       cases ha <;> (unfold execOp; rw [ho]; simp [hE]))

def avalsK (f : List AV) : List Operand → (List AV → Prop) → Prop
  | [], K => K []
  | x :: r, K => avalK f x fun v => avalsK f r fun vs => K (v :: vs)
theorem avalsK_eq (f : List AV) (xs : List Operand) (K : List AV → Prop) : avalsK f xs K = K (xs.map (aval f)) := by
  induction xs generalizing K with
  | nil => rfl
  | cons x r ih => simp only [avalsK, avalK_eq, ih, List.map_cons]

/-- A builtin. -/
def builtinK (P : Program) (b : Builtin) (ats : Array TypeId) (args : List Operand) (f : List AV) (K : Act1 → Prop) : Prop :=
  match b with
  | .len => match args with
    | [x] => match ats[0]? with
      | some t => avalK f x fun v => lenK P t v fun r => K (vA r)
      | none => False
    | _ => False
  | .min => match args with
    | [x, y] => avalK f x fun a => avalK f y fun b => mmK false a b fun r => K (vA r)
    | _ => False
  | .max => match args with
    | [x, y] => avalK f x fun a => avalK f y fun b => mmK true a b fun r => K (vA r)
    | _ => False
  | _ => False

end Eng
