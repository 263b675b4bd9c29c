/- THE OPERATIONS OVER ABSTRACT VALUES, sixth part: comparisons, addresses, parts of values. -/
import Derived.Test.YtdbnihckckekcaaOps5
set_option linter.unusedSimpArgs false
set_option linter.unusedVariables false
namespace Eng
open Go Go.RowKit

theorem rep_lit {w : World} {g : G} {lim : Nat} {v x : Value} (h : Rep w g lim (.lit v) x) : x = v := by cases h; rfl
theorem rep_agg {w : World} {g : G} {lim : Nat} {cs : List AV} {x : Value} (h : Rep w g lim (.agg cs) x) : ∃ xs : Array Value, x = .agg xs ∧ RepL w g lim cs xs := by
  cases h with | agg _ xs hl h => exact ⟨xs, rfl, hl, h⟩

/-- What an operator's run comes to. -/
def BinRun (P : Program) (op : BinOp) (t : TypeId) (a b v : AV) : Prop :=
  ∀ (w : World) (g : G) (lim : Nat) (xa xb : Value) (x y : Operand), Rep w g lim a xa → Rep w g lim b xb →
    ∃ r, (eqGuard op t x y xa xb).run P w = .ok () w ∧ (binOp op t xa xb).run P w = .ok r w ∧ Rep w g lim v r

theorem intOpK_ok {P : Program} {op : BinOp} {t : TypeId} {a b : AV} {K : AV → Prop} (h : intOpK op a b K) : ∃ v, K v ∧ BinRun P op t a b v := by
  unfold intOpK at h
  cases a with
  | lit va =>
    cases va with
    | int k x =>
      simp only at h
      cases b with
      | lit vb =>
        cases vb with
        | int k' y =>
          simp only at h
          have hi : ∀ (hk : k = k' ∨ op = .shl ∨ op = .shr), intK op k x y K → ∃ v, K v ∧ BinRun P op t (.lit (.int k x)) (.lit (.int k' y)) v := by
            intro hk h
            obtain ⟨v, h1, h2⟩ := intK_ok (P := P) (t := t) h hk
            refine ⟨_, h1, fun w g lim xa xb o1 o2 ha hb => ?_⟩
            rw [rep_lit ha, rep_lit hb]
            exact ⟨v, run_eqGuard_int _ _ _ _ _ _ (by simp) (by simp) w, h2 w, .lit _⟩
          cases hkk : kk k k' with
          | true => rw [hkk] at h; exact hi (.inl (kk_ok hkk)) h
          | false =>
            rw [hkk] at h
            simp only at h
            cases op <;> simp only at h
            case shl => exact hi (.inr (.inl rfl)) h
            case shr => exact hi (.inr (.inr rfl)) h
        | _ => exact h.elim
      | _ => exact h.elim
    | _ => exact h.elim
  | _ => exact h.elim

theorem eqSelK_ok {P : Program} {op : BinOp} {t : TypeId} {a b : AV} {p : Bool} {K : AV → Prop} (h : eqSelK op p K)
    (hr : ∀ (w : World) (g : G) (lim : Nat) (xa xb : Value) (x y : Operand), Rep w g lim a xa → Rep w g lim b xb →
      (eqGuard op t x y xa xb).run P w = .ok () w ∧ (op = .eql → (binOp .eql t xa xb).run P w = .ok (.bool p) w) ∧ (op = .neq → (binOp .neq t xa xb).run P w = .ok (.bool (!p)) w)) :
    ∃ v, K v ∧ BinRun P op t a b v := by
  unfold eqSelK at h
  cases op <;> simp only at h
  case eql => exact ⟨_, h, fun w g lim xa xb x y ha hb => ⟨_, (hr w g lim xa xb x y ha hb).1, (hr w g lim xa xb x y ha hb).2.1 rfl, .lit _⟩⟩
  case neq => exact ⟨_, h, fun w g lim xa xb x y ha hb => ⟨_, (hr w g lim xa xb x y ha hb).1, (hr w g lim xa xb x y ha hb).2.2 rfl, .lit _⟩⟩

theorem boolOpK_ok {P : Program} {op : BinOp} {t : TypeId} (hu : P.underlying t = some .bool) {a b : AV} {K : AV → Prop} (h : boolOpK op a b K) : ∃ v, K v ∧ BinRun P op t a b v := by
  unfold boolOpK at h
  cases ha : scal a with
  | none => rw [ha] at h; exact h.elim
  | some va =>
  rw [ha] at h
  cases va with
  | bool x =>
    simp only at h
    cases hb : scal b with
    | none => rw [hb] at h; exact h.elim
    | some vb =>
    rw [hb] at h
    cases vb with
    | bool y =>
      refine eqSelK_ok h fun w g lim xa xb o1 o2 h1 h2 => ?_
      rw [scal_ok h1 ha, scal_ok h2 hb]
      exact ⟨run_eqGuard_int _ _ _ _ _ _ (by simp) (by simp) w, fun _ => by simp [binOp, Op.equal, Op.maxDepth, run_equalIn_bool' w _ t x y hu],
        fun _ => by simp [binOp, Op.equal, Op.maxDepth, run_equalIn_bool' w _ t x y hu]⟩
    | _ => exact h.elim
  | _ => exact h.elim

theorem strOpK_ok {P : Program} {op : BinOp} {t : TypeId} {a b : AV} {K : AV → Prop} (h : strOpK op a b K) : ∃ v, K v ∧ BinRun P op t a b v := by
  unfold strOpK at h
  cases a with
  | lit va =>
    cases va with
    | string s =>
      cases b with
      | lit vb =>
        cases vb with
        | string s' =>
          refine eqSelK_ok h fun w g lim xa xb o1 o2 h1 h2 => ?_
          rw [rep_lit h1, rep_lit h2]
          exact ⟨run_eqGuard_int _ _ _ _ _ _ (by simp) (by simp) w, fun _ => by simp [binOp, Op.stringOp], fun _ => by simp [binOp, Op.stringOp]⟩
        | _ => exact h.elim
      | _ => exact h.elim
    | _ => exact h.elim
  | _ => exact h.elim

theorem aggOpK_ok {P : Program} {C : Cfg} (hC : CfgOk P C) {op : BinOp} {t : TypeId} {a b : AV} {K : AV → Prop} (h : aggOpK P C op t a b K) : ∃ v, K v ∧ BinRun P op t a b v := by
  unfold aggOpK at h
  cases a with
  | agg xs =>
    cases b with
    | agg ys =>
      simp only at h
      cases he : C.eq t with
      | false => rw [he] at h; exact h.elim
      | true =>
      rw [he] at h
      simp only at h
      cases hz : szOf P t with
      | none => rw [hz] at h; exact h.elim
      | some n =>
      rw [hz] at h
      simp only at h
      cases hn : Nat.beq n xs.length with
      | false => rw [hn] at h; exact h.elim
      | true =>
      rw [hn] at h
      have hnl := nbt.1 hn
      obtain ⟨hg, hq⟩ := hC.eq t he
      obtain ⟨p, hK, _, hp⟩ := eqAK_ok h
      refine eqSelK_ok hK fun w g lim xa xb o1 o2 h1 h2 => ?_
      obtain ⟨u, rfl, hu⟩ := rep_agg h1
      obtain ⟨v, rfl, hv⟩ := rep_agg h2
      have hrun : (Op.equal t (.agg u) (.agg v)).run P w = .ok p w := by
        have := hq w u.toList v.toList p (hp w g lim u.toList v.toList (by simpa using hu) (by simpa using hv)) (by rw [hz, hnl]; simpa using hu.1)
        simpa using this
      exact ⟨run_eqGuard_agg _ _ _ _ _ _ hg w, fun _ => by simp [binOp, hrun], fun _ => by simp [binOp, hrun]⟩
    | _ => exact h.elim
  | _ => exact h.elim

theorem run_equalIn_nil {P : Program} {w : World} {t e : TypeId} (d : Nat) (hu : P.underlying t = some (.slice e)) (a : Option Addr) (n c n' c' : Nat) : (Op.equalIn (d + 1) t (.slice a n c) (.slice none n' c')).run P w = .ok a.isNone w := by
  cases a <;> simp [Op.equalIn, run_underlying hu]
theorem run_equal_nil {P : Program} {w : World} {t e : TypeId} (hu : P.underlying t = some (.slice e)) (a : Option Addr) (n c n' c' : Nat) : (Op.equal t (.slice a n c) (.slice none n' c')).run P w = .ok a.isNone w :=
  run_equalIn_nil 9999 hu a n c n' c'

theorem nilOpK_ok {P : Program} {op : BinOp} {t e : TypeId} (hu : P.underlying t = some (.slice e)) {a b : AV} {K : AV → Prop} (h : nilOpK op a b K) : ∃ v, K v ∧ BinRun P op t a b v := by
  have key : ∀ (v v' : AV), (op = .eql → K v) → (op = .neq → K v') → (op = .eql ∨ op = .neq) → (∀ n c, b = .lit (.slice none n c) →
      (∀ (w : World) (g : G) (lim : Nat) (xa : Value), Rep w g lim a xa → ∃ ad n c, xa = .slice ad n c ∧ Rep w g lim v (.bool ad.isNone) ∧ Rep w g lim v' (.bool (!ad.isNone)))) → (∃ n c, b = .lit (.slice none n c)) → ∃ v, K v ∧ BinRun P op t a b v := by
    intro v v' h1 h2 ho hr ⟨n, c, hb⟩
    have hr' := hr n c hb
    clear hr
    subst hb
    rcases ho with rfl | rfl
    · refine ⟨v, h1 rfl, fun w g lim xa xb x y ha hbb => ?_⟩
      obtain ⟨ad, n1, c1, rfl, r1, _⟩ := hr' w g lim xa ha
      rw [rep_lit hbb]
      exact ⟨_, run_eqGuard_int _ _ _ _ _ _ (by simp) (by simp) w, by simp [binOp, run_equal_nil hu], r1⟩
    · refine ⟨v', h2 rfl, fun w g lim xa xb x y ha hbb => ?_⟩
      obtain ⟨ad, n1, c1, rfl, _, r1⟩ := hr' w g lim xa ha
      rw [rep_lit hbb]
      exact ⟨_, run_eqGuard_int _ _ _ _ _ _ (by simp) (by simp) w, by simp [binOp, run_equal_nil hu], r1⟩
  unfold nilOpK at h
  split at h
  case h_2 => exact h.elim
  split at h
  · rename_i l
    have hr : ∀ (w : World) (g : G) (lim : Nat) (xa : Value), Rep w g lim (.vec _ l) xa → ∃ ad n c, xa = .slice ad n c ∧ Rep w g lim (.bl (l = []) True) (.bool ad.isNone) ∧ Rep w g lim (.bl True (l = [])) (.bool (!ad.isNone)) := by
      intro w g lim xa ha
      cases ha with
      | vecE _ ad cap => exact ⟨ad, 0, cap, rfl, .bl _ _ _ (fun _ => rfl) (fun _ => trivial), .bl _ _ _ (fun _ => trivial) (fun _ => rfl)⟩
      | vec _ _ b o cap xs hc hr hw hh => exact ⟨_, _, _, rfl, .bl _ _ _ (fun h => by cases h) (fun _ => trivial), .bl _ _ _ (fun _ => trivial) (fun h => by cases h)⟩
    split at h
    · exact key _ _ (fun _ => h) (fun h => by cases h) (.inl rfl) (fun _ _ _ => hr) ⟨_, _, rfl⟩
    · exact key _ _ (fun h => by cases h) (fun _ => h) (.inr rfl) (fun _ _ _ => hr) ⟨_, _, rfl⟩
    · exact h.elim
  · have hr : ∀ (t : Ty) (w : World) (g : G) (lim : Nat) (xa : Value), Rep w g lim (.emp t) xa → ∃ ad n c, xa = .slice ad n c ∧ Rep w g lim (.bl True True) (.bool ad.isNone) ∧ Rep w g lim (.bl True True) (.bool (!ad.isNone)) := by
      intro t w g lim xa ha
      cases ha with
      | emp _ ad => exact ⟨_, _, _, rfl, .bl _ _ _ (fun _ => trivial) (fun _ => trivial), .bl _ _ _ (fun _ => trivial) (fun _ => trivial)⟩
    split at h
    · exact key _ _ (fun _ => h) (fun h => by cases h) (.inl rfl) (fun _ _ _ => hr _) ⟨_, _, rfl⟩
    · exact key _ _ (fun h => by cases h) (fun _ => h) (.inr rfl) (fun _ _ _ => hr _) ⟨_, _, rfl⟩
    · exact h.elim
  · have hr : ∀ (t : Ty) (k off len : Nat) (c : Option Nat) (w : World) (g : G) (lim : Nat) (xa : Value), Rep w g lim (.own t k off len c) xa → ∃ ad n c, xa = .slice ad n c ∧ Rep w g lim (.bl (len = 0) True) (.bool ad.isNone) ∧ Rep w g lim (.bl True (len = 0)) (.bool (!ad.isNone)) := by
      intro t k off len c w g lim xa ha
      cases ha with
      | own _ _ _ _ b cap _ hk hc _ hh => exact ⟨_, _, _, rfl, .bl _ _ _ (fun h => by cases h) (fun _ => trivial), .bl _ _ _ (fun _ => trivial) (fun h => by cases h)⟩
      | ownE _ _ _ _ ad _ _ => exact ⟨_, _, _, rfl, .bl _ _ _ (fun _ => rfl) (fun _ => trivial), .bl _ _ _ (fun _ => trivial) (fun _ => rfl)⟩
    split at h
    · exact key _ _ (fun _ => h) (fun h => by cases h) (.inl rfl) (fun _ _ _ => hr _ _ _ _ _) ⟨_, _, rfl⟩
    · exact key _ _ (fun h => by cases h) (fun _ => h) (.inr rfl) (fun _ _ _ => hr _ _ _ _ _) ⟨_, _, rfl⟩
    · exact h.elim
  · have hr : ∀ (n c : Nat) (w : World) (g : G) (lim : Nat) (xa : Value), Rep w g lim (.lit (.slice none n c)) xa → ∃ ad n c, xa = .slice ad n c ∧ Rep w g lim .tt (.bool ad.isNone) ∧ Rep w g lim .ff (.bool (!ad.isNone)) := by
      intro n c w g lim xa ha
      rw [rep_lit ha]
      exact ⟨_, _, _, rfl, .tt, .ff⟩
    split at h
    · exact key _ _ (fun _ => h) (fun h => by cases h) (.inl rfl) (fun _ _ _ => hr _ _) ⟨_, _, rfl⟩
    · exact key _ _ (fun h => by cases h) (fun _ => h) (.inr rfl) (fun _ _ _ => hr _ _) ⟨_, _, rfl⟩
    · exact h.elim
  · exact h.elim

theorem binK_ok {P : Program} {C : Cfg} (hC : CfgOk P C) {op : BinOp} {t : TypeId} {a b : AV} {K : AV → Prop} (h : binK P C op t a b K) : ∃ v, K v ∧ BinRun P op t a b v := by
  unfold binK at h
  cases hu : P.underlying t with
  | none => rw [hu] at h; exact h.elim
  | some d =>
    rw [hu] at h
    cases d <;> simp only at h
    case int k => exact intOpK_ok h
    case bool => exact boolOpK_ok hu h
    case string => exact strOpK_ok h
    case struct fs => exact aggOpK_ok hC h
    case slice e => exact nilOpK_ok hu h

theorem unK_ok {P : Program} {op : UnOp} {a : AV} {K : AV → Prop} (h : unK op a K) :
    ∃ v, K v ∧ ∀ (w : World) (g : G) (lim : Nat) (xa : Value), Rep w g lim a xa → ∃ r, (Op.unary op xa).run P w = .ok r w ∧ Rep w g lim v r := by
  unfold unK at h
  split at h
  · unfold notK at h
    split at h
    · exact ⟨_, h, fun w g lim xa ha => by cases ha; exact ⟨.bool false, by simp [Op.unary], .ff⟩⟩
    · exact ⟨_, h, fun w g lim xa ha => by cases ha; exact ⟨.bool true, by simp [Op.unary], .tt⟩⟩
    · exact ⟨_, h, fun w g lim xa ha => by rw [rep_lit ha]; exact ⟨_, by simp [Op.unary], .lit _⟩⟩
    · refine ⟨_, h, fun w g lim xa ha => ?_⟩
      cases ha with
      | bl p q b h1 h2 => exact ⟨.bool (!b), by simp [Op.unary], .bl _ _ _ (fun h => h2 (by simpa using h)) (fun h => h1 (by simpa using h))⟩
    · exact h.elim
  · split at h
    · exact ⟨_, arK_ok h, fun w g lim xa ha => by rw [rep_lit ha]; exact ⟨_, by simp [Op.unary, Op.intArith], .lit _⟩⟩
    · exact h.elim
  · split at h
    · exact ⟨_, h, fun w g lim xa ha => by rw [rep_lit ha]; exact ⟨_, by simp only [Op.unary, Op.intBits, Sem.run_pure, bitR], .lit _⟩⟩
    · exact h.elim
  · exact h.elim

/-- A number turned into another kind's. -/
def convK (P : Program) (src dst : TypeId) (v : AV) (K : AV → Prop) : Prop :=
  match v with
  | .lit (.int _ n) => match P.underlying src with
    | some (.int _) => match P.underlying dst with
      | some (.int k) => arK k n K
      | _ => False
    | _ => False
  | _ => False
theorem convK_ok {P : Program} {src dst : TypeId} {a : AV} {K : AV → Prop} (h : convK P src dst a K) :
    ∃ v, K v ∧ ∀ (w : World) (g : G) (lim : Nat) (xa : Value), Rep w g lim a xa → ∃ r, (convert src dst xa).run P w = .ok r w ∧ Rep w g lim v r := by
  unfold convK at h
  cases a with
  | lit va =>
    cases va with
    | int k' n =>
      simp only at h
      cases hs : P.underlying src with
      | none => rw [hs] at h; exact h.elim
      | some ds =>
      rw [hs] at h
      cases ds <;> simp only at h
      case int ks =>
        cases hd : P.underlying dst with
        | none => rw [hd] at h; exact h.elim
        | some dd =>
        rw [hd] at h
        cases dd <;> simp only at h
        case int k =>
          exact ⟨_, arK_ok h, fun w g lim xa ha => by rw [rep_lit ha]; exact ⟨_, by simp [convert, run_underlying hs, run_underlying hd, Conv.intToInt], .lit _⟩⟩
    | _ => exact h.elim
  | _ => exact h.elim

/-- A field's address. -/
def faK (P : Program) (t : TypeId) (v : AV) (i : Nat) (K : AV → Prop) : Prop :=
  match fieldO P t i with
  | some d => match v with
    | .ptr k off => frcK d fun d => K (.ptr k (off + d))
    | .rptr tt k j off => frcK (off + d) fun d => K (.rptr tt k j d)
    | .vptr tt l j off => frcK (off + d) fun d => K (.vptr tt l j d)
    | _ => False
  | none => False
theorem faK_ok {P : Program} {t : TypeId} {a : AV} {i : Nat} {K : AV → Prop} (h : faK P t a i K) :
    ∃ v, K v ∧ ∀ (w : World) (g : G) (lim : Nat) (xa : Value), Rep w g lim a xa → ∃ r, (Instr.fieldAt t xa i).run P w = .ok r w ∧ Rep w g lim v r := by
  unfold faK at h
  cases hf : fieldO P t i with
  | none => rw [hf] at h; exact h.elim
  | some d =>
    rw [hf] at h
    cases a <;> simp only [frcK_eq] at h
    case ptr k off =>
      refine ⟨_, h, fun w g lim xa ha => ?_⟩
      cases ha with
      | ptr _ _ b hk hh => exact ⟨_, run_fieldAt hf b off, .ptr _ _ b hk hh⟩
    case rptr tt k j off =>
      refine ⟨_, h, fun w g lim xa ha => ?_⟩
      cases ha with
      | rptr _ _ _ _ b hk hh => exact ⟨_, run_fieldAt hf b _, by rw [Nat.add_assoc]; exact .rptr _ _ _ _ b hk hh⟩
    case vptr tt l j off =>
      refine ⟨_, h, fun w g lim xa ha => ?_⟩
      cases ha with
      | vptr _ _ _ _ b o xs hr hw hh => exact ⟨_, run_fieldAt hf b _, by rw [Nat.add_assoc, Nat.add_assoc]; exact .vptr _ _ _ _ b o xs hr hw hh⟩
    all_goals exact h.elim

/-- An element's address. -/
def ixK (P : Program) (t : TypeId) (v i : AV) (K : AV → Prop) : Prop :=
  match i with
  | .lit (.int _ n) => match P.underlying t with
    | some (.slice e) => match v with
      | .vec tt l => match szOf P e with
        | some z => match Nat.beq z (csz tt) with
          | true => (0 ≤ n ∧ n < l.length) ∧ K (.vptr tt l n.toNat 0)
          | false => False
        | none => False
      | .own tt k off len _ => match szOf P e with
        | some z => match Nat.beq z (csz tt) with
          | true => (0 ≤ n ∧ n < len) ∧ K (.rptr tt k (n.toNat + off) 0)
          | false => False
        | none => False
      | _ => False
    | some (.array len e) => match v with
      | .ptr k off => match szOf P e with
        | some z => (0 ≤ n ∧ n < len) ∧ K (.ptr k (n.toNat * z + off))
        | none => False
      | _ => False
    | _ => False
  | _ => False

theorem add_pos (b o n : Nat) : (⟨b, o, none⟩ : Addr).add n = ⟨b, o + n, none⟩ := add_none b o n

theorem ixK_ok {P : Program} {t : TypeId} {a i : AV} {K : AV → Prop} (h : ixK P t a i K) :
    ∃ v, K v ∧ ∀ (w : World) (g : G) (lim : Nat) (xa xi : Value), Rep w g lim a xa → Rep w g lim i xi → ∃ r, (Instr.indexAt t xa xi).run P w = .ok r w ∧ Rep w g lim v r := by
  unfold ixK at h
  split at h
  case h_2 => exact h.elim
  rename_i k n
  split at h
  · rename_i e hu
    cases a <;> simp only at h
    case vec tt l =>
      cases hz : szOf P e with
      | none => rw [hz] at h; exact h.elim
      | some z =>
      rw [hz] at h; simp only at h
      cases hb : Nat.beq z (csz tt) with
      | false => rw [hb] at h; exact h.elim
      | true =>
      rw [hb] at h
      have hzz := nbt.1 hb
      subst hzz
      obtain ⟨⟨h0, h1⟩, h⟩ := h
      refine ⟨_, h, fun w g lim xa xi ha hi => ?_⟩
      rw [rep_lit hi]
      cases ha with
      | vecE _ _ _ => simp at h1; omega
      | vec _ _ b o cap xs hc hr hw hh =>
        refine ⟨.pointer (some ⟨b, o + (n.toNat * csz tt + 0), none⟩), ?_, .vptr _ _ _ _ b o xs hr hw hh⟩
        simp [Instr.indexAt, asIntOf, run_underlying hu, h0, h1, run_sizeOf hz, add_none]
    case own tt kk off len cc =>
      cases hz : szOf P e with
      | none => rw [hz] at h; exact h.elim
      | some z =>
      rw [hz] at h; simp only at h
      cases hb : Nat.beq z (csz tt) with
      | false => rw [hb] at h; exact h.elim
      | true =>
      rw [hb] at h
      have hzz := nbt.1 hb
      subst hzz
      obtain ⟨⟨h0, h1⟩, h⟩ := h
      refine ⟨_, h, fun w g lim xa xi ha hi => ?_⟩
      rw [rep_lit hi]
      cases ha with
      | own _ _ _ _ b cap _ hk hc _ hh =>
        refine ⟨.pointer (some ⟨b, (n.toNat + off) * csz tt + 0, none⟩), ?_, .rptr _ _ _ _ b hk fun ha => (hh ha).1⟩
        simp [Instr.indexAt, asIntOf, run_underlying hu, h0, h1, run_sizeOf hz, add_none, Nat.add_mul, Nat.add_comm]
      | ownE _ _ _ _ _ _ _ => simp at h1; omega
    all_goals exact h.elim
  · rename_i len e hu
    cases a <;> simp only at h
    case ptr kk off =>
      cases hz : szOf P e with
      | none => rw [hz] at h; exact h.elim
      | some z =>
      rw [hz] at h; simp only at h
      obtain ⟨⟨h0, h1⟩, h⟩ := h
      refine ⟨_, h, fun w g lim xa xi ha hi => ?_⟩
      rw [rep_lit hi]
      cases ha with
      | ptr _ _ b hk hh =>
        exact ⟨_, by simp [Instr.indexAt, asIntOf, run_underlying hu, h0, h1, run_sizeOf hz, add_none, Instr.sureAddr, Nat.add_comm], .ptr _ _ b hk hh⟩
    all_goals exact h.elim
  · exact h.elim

/-- len. -/
def lenK (P : Program) (t : TypeId) (v : AV) (K : AV → Prop) : Prop :=
  match P.underlying t with
  | some (.slice _) => match v with
    | .vec _ l => K (.lit (.int .i64 l.length))
    | .emp _ => K (.lit (.int .i64 0))
    | .own _ _ _ n _ => K (.lit (.int .i64 n))
    | .lit (.slice none n _) => K (.lit (.int .i64 n))
    | _ => False
  | some (.array n _) => K (.lit (.int .i64 n))
  | some .string => match v with
    | .lit (.string s) => K (.lit (.int .i64 s.size))
    | _ => False
  | _ => False
theorem lenK_ok {P : Program} {t ty : TypeId} {ats : Array TypeId} (hat : ats[0]? = some t) {a : AV} {K : AV → Prop} (h : lenK P t a K) :
    ∃ v, K v ∧ ∀ (w : World) (g : G) (lim : Nat) (xa : Value) (rest : Array Value), rest[0]? = some xa → Rep w g lim a xa → ∃ r, (Builtin.len_ ats ty rest).run P w = .ok r w ∧ Rep w g lim v r := by
  unfold lenK at h
  split at h
  · rename_i e hu
    split at h
    · refine ⟨_, h, fun w g lim xa rest hx ha => ?_⟩
      cases ha with
      | vecE _ a cap => exact ⟨_, by simp [Builtin.len_, hat, hx, run_underlying hu, goInt], .lit _⟩
      | vec _ _ b o cap xs hc hr hw hh => exact ⟨_, by simp [Builtin.len_, hat, hx, run_underlying hu, goInt], .lit _⟩
    · refine ⟨_, h, fun w g lim xa rest hx ha => ?_⟩
      cases ha with
      | emp _ ad => exact ⟨_, by simp [Builtin.len_, hat, hx, run_underlying hu, goInt], .lit _⟩
    · refine ⟨_, h, fun w g lim xa rest hx ha => ?_⟩
      cases ha with
      | own _ _ _ _ b cap _ hk hc _ hh => exact ⟨_, by simp [Builtin.len_, hat, hx, run_underlying hu, goInt], .lit _⟩
      | ownE _ _ _ _ _ _ _ => exact ⟨_, by simp [Builtin.len_, hat, hx, run_underlying hu, goInt], .lit _⟩
    · refine ⟨_, h, fun w g lim xa rest hx ha => ?_⟩
      rw [rep_lit ha] at hx
      exact ⟨_, by simp [Builtin.len_, hat, hx, run_underlying hu, goInt], .lit _⟩
    · exact h.elim
  · rename_i n e hu
    refine ⟨_, h, fun w g lim xa rest hx ha => ⟨_, by simp [Builtin.len_, hat, hx, run_underlying hu, goInt], .lit _⟩⟩
  · rename_i hu
    split at h
    · refine ⟨_, h, fun w g lim xa rest hx ha => ?_⟩
      rw [rep_lit ha] at hx
      exact ⟨_, by simp [Builtin.len_, hat, hx, run_underlying hu, goInt], .lit _⟩
    · exact h.elim
  · exact h.elim

end Eng
