/- THE OPERATIONS OVER ABSTRACT VALUES, fourth part: new variables and new rows. -/
import Derived.Test.YtdbnihckckekcaaOps3
set_option linter.unusedSimpArgs false
set_option linter.unusedVariables false
namespace Eng
open Go Go.RowKit

theorem Tr.alloc (g : G) (w : World) (o : Obj) (h : ∀ b, g.ro b → b < w.heap.size) (h' : ∀ b, g.no b → b < w.heap.size) : Tr g w (w.alloc o) :=
  ⟨rfl, rfl, rfl, by simp, fun b hb => Below.heap_alloc w o b (h b hb), fun b hb => Below.heap_alloc w o b (h' b hb)⟩

/-- The ghost of a new block says the same of all that does not name it. -/
theorem Rep.bind {w w' : World} {g : G} {lim k b n : Nat} {v : AV} {x : Value} (h : Rep w g lim v x) (hm : men k v = false) (hs : ∀ b, g.ro b → w'.heap[b]? = w.heap[b]?) :
    Rep w' (g.bind k b n) lim v x :=
  Rep.mono' (g := g) (g' := g.bind k b n) ⟨fun b hr => hr, hs⟩ (Nat.le_refl _) h fun j hj _ haj => by
    have hjk : j ≠ k := fun e => by rw [e, hm] at hj; cases hj
    rcases haj with e | haj
    · exact absurd e hjk
    · exact ⟨haj, by simp [G.bind, hjk], by simp [G.bind, hjk]⟩

/-- The state behind a new block of a given content. -/
theorem Sim.push {w : World} {g : G} {lim : Nat} {f : List AV} {m : Nat → Option Blk} {a : Act} (hs : Sim w g lim f m a) {k : Nat} (hk : k < lim ∨ k % 2 = 1)
    (c : Array Value) (ty : TypeId) (bl : Blk) (hbl : BlkRep (w.alloc (.cells c ty)) (g.bind k w.heap.size c.size) lim w.heap.size c.size bl)
    {v : AV} {x : Value} (hv : Rep (w.alloc (.cells c ty)) (g.bind k w.heap.size c.size) lim v x) (d : Option Nat) :
    Sim (w.alloc (.cells c ty)) (g.bind k w.heap.size c.size) lim (fput (fgtL k f) d v) (Eng.put (fgtM k m) k (some bl)) (a.put d x) := by
  have hf := hs.fgt k
  have hro : ∀ b, g.ro b → (w.alloc (.cells c ty)).heap[b]? = w.heap[b]? := (Tr.alloc g w _ hs.me.rolt (fun b hb => (hs.me.nof b hb).1)).same
  refine ⟨(hf.fr.bind (menL_fgtL k f) hro).put hv d, (Act.put_df _ _ _).trans hs.df, ?_⟩
  refine hf.me.push hk (fun j b hb => ?_) c ty bl hbl
  simp only [fgtM, Option.map_eq_some_iff] at hb
  obtain ⟨b', _, rfl⟩ := hb
  exact menB_fgtB k b'

theorem LeG.bind (base : Nat) (g : G) {k : Nat} (hk : base ≤ k) (b n : Nat) : LeG base g (g.bind k b n) :=
  ⟨fun _ h => h, fun _ h => h, fun j hj ha => by
    have hjk : j ≠ k := by omega
    rcases ha with e | ha
    · exact absurd e hjk
    · exact ⟨ha, by simp [G.bind, hjk], by simp [G.bind, hjk]⟩⟩

theorem idlt (base d : Nat) (h : Nat.blt (2 * d + 2) 200000 = true) : base + 2 * d < base + L ∧ base + (2 * d + 1) < base + L := by
  have h1 : 2 * d + 2 + 1 ≤ 200000 := Nat.le_of_ble_eq_true h
  unfold L; omega

/-- A new variable. -/
def boxK (base : Nat) (dst : Option Nat) (cs : List AV) (K : Act1 → Prop) : Prop :=
  match dst with
  | some d => match Nat.blt (2 * d + 2) 200000 with
    | true => match cs with
      | [] => False
      | c :: r => idK base d fun e => match menL e (c :: r) with
        | false => K ⟨.ptr e 0, [], [(e, some (.box (c :: r)))], [e]⟩
        | true => False
    | false => False
  | none => False

theorem boxK_ok {P : Program} {base : Nat} {m : Mem} {f : List AV} {o : Oper} {cs : List AV} {K : Act1 → Prop} (h : boxK base o.dst cs K)
    (hrun : ∀ (f' : List AV) (m' : Nat → Option Blk) (w : World) (g : G) (a : Act), Sim w g (base + L) f' m' a → (∀ x ∈ o.op.operands.toList, Le (aval f' x) (aval f x)) →
      ∃ (xs : Array Value) (ty : TypeId), (execOp a.eval o).run P w = .ok (.value (.pointer (some ⟨w.heap.size, 0, none⟩))) (w.alloc (.cells xs ty)) ∧ RepL w g (base + L) cs xs) :
    ∃ c, K c ∧ (∀ p ∈ c.rd, mget m p.1 = some p.2) ∧ AOk P base o f c := by
  unfold boxK at h
  cases hd : o.dst with
  | none => rw [hd] at h; exact h.elim
  | some d =>
    rw [hd] at h
    simp only at h
    cases hb : Nat.blt (2 * d + 2) 200000 with
    | false => rw [hb] at h; exact h.elim
    | true =>
      rw [hb] at h
      cases cs with
      | nil => exact h.elim
      | cons c0 cr =>
      simp only at h
      rw [idK_eq] at h
      cases hm : menL (base + 2 * d) (c0 :: cr) with
      | true => rw [hm] at h; exact h.elim
      | false =>
        rw [hm] at h
        refine ⟨_, h, by simp, fun f' m' hop _ w g a hs K Q hK => ?_⟩
        obtain ⟨xs, ty, e1, e2⟩ := hrun f' m' w g a hs hop
        have hkl : base + 2 * d < base + L ∨ (base + 2 * d) % 2 = 1 := .inl (idlt base d hb).1
        unfold Oper.wp
        rw [e1, Oper.upon_value]
        have htr := Tr.alloc g w (.cells xs ty) hs.me.rolt (fun b hb => (hs.me.nof b hb).1)
        refine hK _ (g.bind (base + 2 * d) w.heap.size xs.size) _ ?_ htr (LeG.bind base g (Nat.le_add_right _ _) _ _)
        refine hs.push hkl xs ty (.box (c0 :: cr)) ⟨by have := e2.1; simp at this; omega, xs, ty, heap_alloc_new w _, rfl, e2.1, fun i c x hc hx => ?_⟩ ?_ o.dst
        · refine (e2.2 i c x hc hx).bind ?_ htr.same
          cases hmc : men (base + 2 * d) c with
          | false => rfl
          | true => rw [menL_get hc hmc] at hm; cases hm
        · exact .ptr _ _ _ hkl fun _ => by simp [G.bind]

/-- Values of the program's text as abstract ones. -/
def litsK : List Value → (List AV → Prop) → Prop
  | [], K => K []
  | v :: r, K => match v with
    | .bool b => match b with
      | true => litsK r fun l => K (.tt :: l)
      | false => litsK r fun l => K (.ff :: l)
    | v => litsK r fun l => K (.lit v :: l)

theorem litsK_ok {vs : List Value} {K : List AV → Prop} (h : litsK vs K) : ∃ cs, K cs ∧ ∀ (w : World) (g : G) (lim : Nat), RepL w g lim cs vs.toArray := by
  induction vs generalizing K with
  | nil => exact ⟨[], h, fun w g lim => ⟨rfl, fun i c x hc => by simp at hc⟩⟩
  | cons v r ih =>
    have key : ∀ c0 : AV, (∀ (w : World) (g : G) (lim : Nat), Rep w g lim c0 v) → litsK r (fun l => K (c0 :: l)) → ∃ cs, K cs ∧ ∀ (w : World) (g : G) (lim : Nat), RepL w g lim cs (v :: r).toArray := by
      intro c0 h0 hr
      obtain ⟨cs, h1, h2⟩ := ih hr
      refine ⟨c0 :: cs, h1, fun w g lim => ⟨by have := (h2 w g lim).1; simp at this ⊢; exact this, fun i c x hc hx => ?_⟩⟩
      cases i with
      | zero => simp at hc hx; subst hc; subst hx; exact h0 w g lim
      | succ i => exact (h2 w g lim).2 i c x (by simpa using hc) (by simpa using hx)
    cases v with
    | bool b =>
      cases b with
      | true => exact key .tt (fun _ _ _ => .tt) h
      | false => exact key .ff (fun _ _ _ => .ff) h
    | _ => exact key _ (fun _ _ _ => .lit _) h

/-- 'alloc': a variable at its zero value. -/
def allocK (P : Program) (base : Nat) (dst : Option Nat) (t : TypeId) (K : Act1 → Prop) : Prop :=
  match P.info? t with
  | some i => match i.zero with
    | some z => litsK z.cells.toList fun cs => boxK base dst cs K
    | none => False
  | none => False

theorem allocK_ok {P : Program} {base : Nat} {m : Mem} {f : List AV} {o : Oper} {t : TypeId} (ho : o.op = .alloc t) {K : Act1 → Prop} (h : allocK P base o.dst t K) :
    ∃ c, K c ∧ (∀ p ∈ c.rd, mget m p.1 = some p.2) ∧ AOk P base o f c := by
  unfold allocK at h
  cases hi : P.info? t with
  | none => rw [hi] at h; exact h.elim
  | some i =>
    rw [hi] at h
    simp only at h
    cases hz : i.zero with
    | none => rw [hz] at h; exact h.elim
    | some z =>
      rw [hz] at h
      obtain ⟨cs, h, hcs⟩ := litsK_ok h
      refine boxK_ok h fun f' m' w g a hs hop => ⟨z.cells, t, ?_, by simpa using hcs w g (base + L)⟩
      unfold execOp; rw [ho]
      simp [Instr.alloc, zeroValue, run_typeInfo hi, hz, run_newVar]

theorem boxOp_ok {P : Program} {base : Nat} {m : Mem} {f : List AV} {o : Oper} {t : TypeId} {x : Operand} (ho : o.op = .box t x) {K : Act1 → Prop} (h : cellsK (aval f x) fun cs => boxK base o.dst cs K) :
    ∃ c, K c ∧ (∀ p ∈ c.rd, mget m p.1 = some p.2) ∧ AOk P base o f c := by
  obtain ⟨cs, h, hcs⟩ := cellsK_ok h
  refine boxK_ok h fun f' m' w g a hs hop => ?_
  have hr := hop x (by rw [ho]; simp [Op.operands]) _ _ _ _ (rep_aval hs x)
  obtain ⟨h1, h2, h3⟩ := hcs hr
  refine ⟨(a.eval x).cells, t, ?_, h1, h2⟩
  unfold execOp; rw [ho]
  simp [Instr.box, run_newVar]

end Eng
