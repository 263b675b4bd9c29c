
/- WHAT THE ENGINE KNOWS OF THIS PROGRAM's TYPES AND FUNCTIONS. -/
import Derived.Test.YtdbnihckckekcaaEv4
import Derived.Test.YtdbnihckckekcaaRows
set_option linter.unusedSimpArgs false
set_option linter.unusedVariables false
namespace Go.Proofs.Ytdbnihckckekcaa
open Go Go.RowKit Eng

def cfg : Cfg2 where
  ty := fun e => match e with
    | 5 => some .u8
    | 41 => some .u8
    | 3 => some .i64
    | 51 => some .slot
    | 117 => some .heap
    | 114 => some .box
    | 95 => some .chunk
    | 24 => some .player
    | 37 => some .step
    | _ => none
  eq := fun t => match t with
    | 51 => true
    | 117 => true
    | _ => false
  fn := fun f => match f with
    | 0 => false
    | 1 => false
    | 2 => false
    | 82 => false
    | f => Nat.blt f 106
  ov := fun f => match f with
    | 0 => false
    | 82 => true
    | _ => false

theorem over_of {f : FuncId} {fn : Func} {t tR e : TypeId} {z : Nat} (hf : Try.prog.funcs[f]? = some fn) (hname : (fn.name == "runtime.NumGoroutine") = false) (hb : fn.body.isNone = true) (hn : Extern.findNext fn = none)
    (he : Extern.find fn = some (Extern.SlicesOverlaps.overlaps #[t, t] #[tR])) (ht : Try.prog.underlying t = some (.slice e)) (hz : szOf Try.prog e = some z) :
    ∃ (t tR e : TypeId) (z : Nat), Try.prog.underlying t = some (.slice e) ∧ szOf Try.prog e = some z ∧ ∀ (args : Array Value) (w : World),
      (callFunc f args).run Try.prog w = ((Extern.SlicesOverlaps.overlaps #[t, t] #[tR] args).run Try.prog w).andThen fun v w' => .ok (.value v) w' :=
  ⟨t, tR, e, z, ht, hz, fun args w => run_callFunc_extern hf hname hb hn he args w⟩

theorem eqVs_cons {x y : Value} {xs ys : List Value} {b : Bool} (h : eqVs (x :: xs) (y :: ys) = some b) : ∃ p q, eqV x y = some p ∧ eqVs xs ys = some q ∧ b = (p && q) := by
  simp only [eqVs] at h
  cases h1 : eqV x y with
  | none => rw [h1] at h; cases h
  | some p =>
    cases h2 : eqVs xs ys with
    | none => rw [h1, h2] at h; cases h
    | some q => rw [h1, h2] at h; exact ⟨p, q, rfl, rfl, by simpa using h.symm⟩

theorem eqV_int {x y : Value} {p : Bool} (h : eqV x y = some p) {P : Program} (d : Nat) {t : TypeId} {k : IntKind} (ht : P.underlying t = some (.int k)) (w : World) : (Op.equalIn (d + 1) t x y).run P w = .ok p w := by
  unfold eqV at h
  split at h
  · rename_i k1 a k2 b
    cases hk : kk k1 k2 with
    | false => rw [hk] at h; cases h
    | true =>
      rw [hk] at h
      have := kk_ok hk
      subst this
      cases h
      exact run_equalIn_int w d t k1 k a b ht
  · cases h

theorem part_int {P : Program} {t : TypeId} {k : IntKind} (ht : P.underlying t = some (.int k)) (w : World) (xs : Array Value) (i : Nat) (x : Value) (h : xs[i]? = some x) : (part t xs i).run P w = .ok x w := by
  have ha : isAggT P t = some false := by unfold isAggT; rw [ht]
  simp [part, run_isAgg ha, h]

theorem eqStruct {P : Program} {t : TypeId} (hu : P.underlying t = some (.struct (P.fieldsOf t))) (hp : P.stoodInHeld t = false) (w : World) (xs ys : Array Value) {r : Result Bool}
    (h : (Op.eqFields 9999 xs ys (P.fieldsOf t).toList).run P w = r) : (Op.equal t (.agg xs) (.agg ys)).run P w = r := by
  unfold Op.equal Op.maxDepth
  rw [run_equalIn_struct w 9999 t xs ys hu hp]; exact h

/-- One field, an integer. -/
theorem eqField_int {P : Program} {f : Field} {fs : List Field} {k : IntKind} (d : Nat) (hn : f.name ≠ "_") (ht : P.underlying f.type = some (.int k)) {xs ys : Array Value} {x y : Value} (hx : xs[f.offset]? = some x) (hy : ys[f.offset]? = some y)
    {p q : Bool} (hp : eqV x y = some p) {w : World} (hq : (Op.eqFields (d + 1) xs ys fs).run P w = .ok q w) : (Op.eqFields (d + 1) xs ys (f :: fs)).run P w = .ok (p && q) w := by
  simp only [Op.eqFields, ne_eq, hn, not_false_eq_true, if_true, Sem.run_bind, part_int ht w xs _ x hx, part_int ht w ys _ y hy, Result.andThen_ok, eqV_int hp d ht w]
  cases p with
  | true => simpa using hq
  | false => simp

theorem intT : ∀ t, (match t with | 3 => true | 41 => true | 5 => true | _ => false) = true → ∃ k, Try.prog.underlying t = some (.int k) := by
  intro t h
  split at h
  · exact ⟨.i64, by kernel_rfl⟩
  · exact ⟨.u8, by kernel_rfl⟩
  · exact ⟨.u8, by kernel_rfl⟩
  · cases h

theorem len2 {xs : List Value} (h : some 2 = some xs.length) : ∃ x y, xs = [x, y] := by
  match xs, h with
  | [x, y], _ => exact ⟨x, y, rfl⟩
theorem len3 {xs : List Value} (h : some 3 = some xs.length) : ∃ x y z, xs = [x, y, z] := by
  match xs, h with
  | [x, y, z], _ => exact ⟨x, y, z, rfl⟩
theorem eqVs_nil {ys : List Value} {b : Bool} (h : eqVs [] ys = some b) : ys = [] ∧ b = true := by
  cases ys with
  | nil => exact ⟨rfl, by simpa [eqVs] using h.symm⟩
  | cons y ys => simp [eqVs] at h
theorem eqVs_cons' {x : Value} {xs ys : List Value} {b : Bool} (h : eqVs (x :: xs) ys = some b) : ∃ y ys' p q, ys = y :: ys' ∧ eqV x y = some p ∧ eqVs xs ys' = some q ∧ b = (p && q) := by
  cases ys with
  | nil => simp [eqVs] at h
  | cons y ys => obtain ⟨p, q, h1, h2, h3⟩ := eqVs_cons h; exact ⟨y, ys, p, q, rfl, h1, h2, h3⟩

theorem slotFields : ∃ f0 f1 : Field, (Try.prog.fieldsOf 51).toList = [f0, f1] ∧ f0.name = "Item" ∧ f0.type = 41 ∧ f0.offset = 0 ∧ f1.name = "N" ∧ f1.type = 3 ∧ f1.offset = 1 :=
  ⟨⟨"Item", 41, 0, false, "", "", 0⟩, ⟨"N", 3, 1, false, "", "", 8⟩, by kernel_rfl, rfl, rfl, rfl, rfl, rfl, rfl⟩
theorem heapFields : ∃ f0 f1 : Field, (Try.prog.fieldsOf 117).toList = [f0, f1] ∧ f0.name = "Cell" ∧ f0.type = 3 ∧ f0.offset = 0 ∧ f1.name = "Slot" ∧ f1.type = 51 ∧ f1.offset = 1 :=
  ⟨⟨"Cell", 3, 0, false, "", "", 0⟩, ⟨"Slot", 51, 1, false, "", "", 8⟩, by kernel_rfl, rfl, rfl, rfl, rfl, rfl, rfl⟩

theorem slotUn : Try.prog.underlying 51 = some (.struct (Try.prog.fieldsOf 51)) := by kernel_rfl
theorem slotSt : Try.prog.stoodInHeld 51 = false := by kernel_rfl
theorem intUn : Try.prog.underlying 3 = some (.int .i64) := by kernel_rfl
theorem itemUn : Try.prog.underlying 41 = some (.int .u8) := by kernel_rfl

theorem slotEq (d : Nat) (w : World) (x0 x1 y0 y1 : Value) {p q : Bool} (h0 : eqV x0 y0 = some p) (h1 : eqV x1 y1 = some q) :
    (Op.eqFields (d + 1) #[x0, x1] #[y0, y1] (Try.prog.fieldsOf 51).toList).run Try.prog w = .ok (p && (q && true)) w := by
  obtain ⟨f0, f1, hf, n0, t0, o0, n1, t1, o1⟩ := slotFields
  rw [hf]
  refine eqField_int (k := .u8) d (by rw [n0]; decide) (by rw [t0]; exact itemUn) (by rw [o0]; rfl) (by rw [o0]; rfl) h0 ?_
  refine eqField_int (k := .i64) d (by rw [n1]; decide) (by rw [t1]; exact intUn) (by rw [o1]; rfl) (by rw [o1]; rfl) h1 ?_
  rfl

theorem heapEq (w : World) (x0 x1 x2 y0 y1 y2 : Value) {p q r : Bool} (h0 : eqV x0 y0 = some p) (h1 : eqV x1 y1 = some q) (h2 : eqV x2 y2 = some r) :
    (Op.eqFields 9999 #[x0, x1, x2] #[y0, y1, y2] (Try.prog.fieldsOf 117).toList).run Try.prog w = .ok (p && (q && (r && true))) w := by
  obtain ⟨f0, f1, hf, n0, t0, o0, n1, t1, o1⟩ := heapFields
  rw [hf]
  refine eqField_int (k := .i64) 9998 (by rw [n0]; decide) (by rw [t0]; exact intUn) (by rw [o0]; rfl) (by rw [o0]; rfl) h0 ?_
  have hn : f1.name ≠ "_" := by rw [n1]; decide
  have ha : isAggT Try.prog f1.type = some true := by rw [t1]; kernel_rfl
  have hs : szOf Try.prog f1.type = some 2 := by rw [t1]; kernel_rfl
  have px : (part f1.type #[x0, x1, x2] f1.offset).run Try.prog w = .ok (.agg #[x1, x2]) w := by rw [o1]; simp [part, run_isAgg ha, Eng.run_sizeOf hs]
  have py : (part f1.type #[y0, y1, y2] f1.offset).run Try.prog w = .ok (.agg #[y1, y2]) w := by rw [o1]; simp [part, run_isAgg ha, Eng.run_sizeOf hs]
  have e : (Op.equalIn 9999 f1.type (.agg #[x1, x2]) (.agg #[y1, y2])).run Try.prog w = .ok (q && (r && true)) w := by
    rw [t1, run_equalIn_struct w 9998 _ _ _ slotUn slotSt]
    exact slotEq 9997 w x1 x2 y1 y2 h1 h2
  simp only [Op.eqFields, ne_eq, hn, not_false_eq_true, if_true, Sem.run_bind, px, py, Result.andThen_ok, e]
  cases q <;> cases r <;> simp

theorem callsAll : (List.range 106).all (fun f => !(cfg.fn f) || match Try.prog.funcs[f]? with | some fn => !(fn.name == "runtime.NumGoroutine") && fn.body.isSome | none => false) = true := by kernel_rfl

theorem cfg_fn {f : Nat} (h : cfg.fn f = true) : f < 106 := by
  simp only [cfg] at h
  split at h <;> first | (cases h; done) | exact Nat.le_of_ble_eq_true h

theorem cfg_ok : Cfg2Ok Try.prog cfg where
  mixed := by kernel_rfl
  zr := by
    intro e t h
    simp only [cfg] at h
    split at h <;> first | (cases h; kernel_rfl) | (cases h; done)
  sz := by
    intro e t h
    simp only [cfg] at h
    split at h <;> first | (cases h; exact ⟨by kernel_rfl, by kernel_rfl⟩) | (cases h; done)
  eq := by
    intro t h
    simp only [cfg] at h
    split at h
    · refine ⟨by kernel_rfl, fun w xs ys b hb hl => ?_⟩
      have hl' : szOf Try.prog 51 = some 2 := by kernel_rfl
      rw [hl'] at hl
      obtain ⟨x0, x1, rfl⟩ := len2 hl
      obtain ⟨y0, ys0, p, q, rfl, h0, hb0, rfl⟩ := eqVs_cons' hb
      obtain ⟨y1, ys1, p1, q1, rfl, h1, hb1, rfl⟩ := eqVs_cons' hb0
      obtain ⟨rfl, rfl⟩ := eqVs_nil hb1
      exact eqStruct slotUn slotSt w _ _ (slotEq 9998 w x0 x1 y0 y1 h0 h1)
    · refine ⟨by kernel_rfl, fun w xs ys b hb hl => ?_⟩
      have hl' : szOf Try.prog 117 = some 3 := by kernel_rfl
      rw [hl'] at hl
      obtain ⟨x0, x1, x2, rfl⟩ := len3 hl
      obtain ⟨y0, ys0, p, q, rfl, h0, hb0, rfl⟩ := eqVs_cons' hb
      obtain ⟨y1, ys1, p1, q1, rfl, h1, hb1, rfl⟩ := eqVs_cons' hb0
      obtain ⟨y2, ys2, p2, q2, rfl, h2, hb2, rfl⟩ := eqVs_cons' hb1
      obtain ⟨rfl, rfl⟩ := eqVs_nil hb2
      exact eqStruct (by kernel_rfl) (by kernel_rfl) w _ _ (heapEq w x0 x1 x2 y0 y1 y2 h0 h1 h2)
    · cases h
  call := by
    intro f hf args w
    have h := callsAll
    have := List.all_eq_true.1 h f (List.mem_range.2 (cfg_fn hf))
    rw [hf] at this
    simp only [Bool.not_true, Bool.false_or] at this
    cases hfn : Try.prog.funcs[f]? with
    | none => rw [hfn] at this; cases this
    | some fn =>
      rw [hfn] at this
      simp only [Bool.and_eq_true, Bool.not_eq_true'] at this
      have hn : fn.name ≠ "runtime.NumGoroutine" := by have h1 := this.1; simpa using h1
      have hb : fn.body ≠ none := by intro e; have h2 := this.2; rw [e] at h2; cases h2
      simp [callFunc, hfn, hn, hb]
  over := by
    intro f hf
    simp only [cfg] at hf
    split at hf
    · cases hf
    · exact over_of (fn := Try.f82) (t := 63) (tR := 4) (e := 24) (z := 7) Try.func82 (by kernel_rfl) (by kernel_rfl) (by kernel_rfl) (by kernel_rfl) (by kernel_rfl) (by kernel_rfl)
    · cases hf

end Go.Proofs.Ytdbnihckckekcaa
