/- Contracts of items, bags, chunks; how types read. -/
import Derived.Test.YtaecchphjploaaaGreatGc
import Derived.Test.YtaecchphjploaaaGreatGb
import Derived.Test.YtaecchphjploaaaGreatRows
set_option linter.unusedSimpArgs false
set_option linter.unusedVariables false
set_option maxRecDepth 100000
set_option maxHeartbeats 16000000
namespace Go.Proofs.YtaecchphjploaaaGreat
open Go Go.RowKit Eng
def cfg : Cfg2 where
 ty:=fun e=>match e with
  | 5=>some .u8
  | 44=>some .u8
  | 3=>some .i64
  | 95=>some .slot
  | 97=>some .heap
  | 79=>some .box
  | 31=>some .chunk
  | 34=>some .player
  | 134=>some .seen
  | 63=>some .view
  | 105=>some .ints
  | _=>none
 eq:=fun t=>match t with
  | 95=>true
  | 97=>true
  | 134=>true
  | _=>false
 pk:=fun t=>match t with
  | 0=>none
  | _=>none
 fn:=fun f=>match f with
  | 0=>false
  | 1=>false
  | 2=>false
  | 143=>false
  | 147=>false
  | f=>Nat.blt f 195
 ov:=fun f=>match f with
  | 0=>false
  | 143=>true
  | 147=>true
  | _=>false
theorem over_of {f : FuncId} {fn : Func} {t tR e : TypeId} {z : Nat} (hf : Tryz.prog.funcs[f]? = some fn) (hname : (fn.name == "runtime.NumGoroutine") = false) (hb : fn.body.isNone = true) (hn : Extern.findNext fn = none)
  (he : Extern.find fn = some (Extern.SlicesOverlaps.overlaps #[t,t] #[tR])) (ht : Tryz.prog.underlying t = some (.slice e)) (hz : szOf Tryz.prog e = some z) :
  ∃ (t tR e : TypeId) (z : Nat),Tryz.prog.underlying t = some (.slice e) ∧ szOf Tryz.prog e = some z ∧ ∀ (args : Array Value) (w : World),
   (callFunc f args).run Tryz.prog w = ((Extern.SlicesOverlaps.overlaps #[t,t] #[tR] args).run Tryz.prog w).andThen fun v w'=>.ok (.value v) w':=
 ⟨t,tR,e,z,ht,hz,fun args w=>run_callFunc_extern hf hname hb hn he args w⟩
theorem eqVs_cons {x y : Value} {xs ys : List Value} {b : Bool} (h : eqVs (x :: xs) (y :: ys) = some b) : ∃ p q,eqV x y = some p ∧ eqVs xs ys = some q ∧ b = (p && q):=by
 simp only [eqVs] at h
 cases h1 : eqV x y with
 | none=>rw [h1] at h;cases h
 | some p =>
  cases h2 : eqVs xs ys with
  | none=>rw [h1,h2] at h;cases h
  | some q=>rw [h1,h2] at h;exact ⟨p,q,rfl,rfl,by simpa using h.symm⟩
theorem eqV_int {x y : Value} {p : Bool} (h : eqV x y = some p) {P : Program} (d : Nat) {t : TypeId} {k : IntKind} (ht : P.underlying t = some (.int k)) (w : World) : (Op.equalIn (d + 1) t x y).run P w = .ok p w:=by
 unfold eqV at h
 split at h
 ·rename_i k1 a k2 b
  cases hk : kk k1 k2 with
  | false=>rw [hk] at h;cases h
  | true =>
   rw [hk] at h
   have:=kk_ok hk
   subst this
   cases h
   exact run_equalIn_int w d t k1 k a b ht
 ·cases h
theorem part_int {P : Program} {t : TypeId} {k : IntKind} (ht : P.underlying t = some (.int k)) (w : World) (xs : Array Value) (i : Nat) (x : Value) (h : xs[i]? = some x) : (part t xs i).run P w = .ok x w:=by
 have ha : isAggT P t = some false:=by unfold isAggT;rw [ht]
 simp [part,run_isAgg ha,h]
theorem eqStruct {P : Program} {t : TypeId} (hu : P.underlying t = some (.struct (P.fieldsOf t))) (hp : P.stoodInHeld t = false) (w : World) (xs ys : Array Value) {r : Result Bool}
  (h : (Op.eqFields 9999 xs ys (P.fieldsOf t).toList).run P w = r) : (Op.equal t (.agg xs) (.agg ys)).run P w = r:=by
 unfold Op.equal Op.maxDepth
 rw [run_equalIn_struct w 9999 t xs ys hu hp];exact h
theorem eqField_int {P : Program} {f : Field} {fs : List Field} {k : IntKind} (d : Nat) (hn : f.name ≠ "_") (ht : P.underlying f.type = some (.int k)) {xs ys : Array Value} {x y : Value} (hx : xs[f.offset]? = some x) (hy : ys[f.offset]? = some y)
  {p q : Bool} (hp : eqV x y = some p) {w : World} (hq : (Op.eqFields (d + 1) xs ys fs).run P w = .ok q w) : (Op.eqFields (d + 1) xs ys (f :: fs)).run P w = .ok (p && q) w:=by
 simp only [Op.eqFields,ne_eq,hn,not_false_eq_true,if_true,Sem.run_bind,part_int ht w xs _ x hx,part_int ht w ys _ y hy,Result.andThen_ok,eqV_int hp d ht w]
 cases p with
 | true=>simpa using hq
 | false=>simp
theorem len2 {xs : List Value} (h : some 2 = some xs.length) : ∃ x y,xs = [x,y]:=by
 match xs,h with
 | [x,y],_=>exact ⟨x,y,rfl⟩
theorem len3 {xs : List Value} (h : some 3 = some xs.length) : ∃ x y z,xs = [x,y,z]:=by
 match xs,h with
 | [x,y,z],_=>exact ⟨x,y,z,rfl⟩
theorem eqVs_nil {ys : List Value} {b : Bool} (h : eqVs [] ys = some b) : ys = [] ∧ b = true:=by
 cases ys with
 | nil=>exact ⟨rfl,by simpa [eqVs] using h.symm⟩
 | cons y ys=>simp [eqVs] at h
theorem eqVs_cons' {x : Value} {xs ys : List Value} {b : Bool} (h : eqVs (x :: xs) ys = some b) : ∃ y ys' p q,ys = y :: ys' ∧ eqV x y = some p ∧ eqVs xs ys' = some q ∧ b = (p && q):=by
 cases ys with
 | nil=>simp [eqVs] at h
 | cons y ys=>obtain ⟨p,q,h1,h2,h3⟩:=eqVs_cons h;exact ⟨y,ys,p,q,rfl,h1,h2,h3⟩
theorem slotFields : ∃ f0 f1 : Field, (Tryz.prog.fieldsOf 95).toList = [f0, f1] ∧ f0.name = "Item" ∧ f0.type = 44 ∧ f0.offset = 0 ∧ f1.name = "N" ∧ f1.type = 3 ∧ f1.offset = 1 :=
 ⟨⟨"Item", 44, 0, false, "", "", 0⟩, ⟨"N", 3, 1, false, "", "", 8⟩, by kernel_rfl, rfl, rfl, rfl, rfl, rfl, rfl⟩
theorem heapFields : ∃ f0 f1 : Field, (Tryz.prog.fieldsOf 97).toList = [f0, f1] ∧ f0.name = "Cell" ∧ f0.type = 3 ∧ f0.offset = 0 ∧ f1.name = "Slot" ∧ f1.type = 95 ∧ f1.offset = 1 :=
 ⟨⟨"Cell", 3, 0, false, "", "", 0⟩, ⟨"Slot", 95, 1, false, "", "", 8⟩, by kernel_rfl, rfl, rfl, rfl, rfl, rfl, rfl⟩
theorem slotUn : Tryz.prog.underlying 95 = some (.struct (Tryz.prog.fieldsOf 95)):=by kernel_rfl
theorem slotSt : Tryz.prog.stoodInHeld 95 = false:=by kernel_rfl
theorem intUn : Tryz.prog.underlying 3 = some (.int .i64):=by kernel_rfl
theorem itemUn : Tryz.prog.underlying 44 = some (.int .u8):=by kernel_rfl
theorem slotEq (d : Nat) (w : World) (x0 x1 y0 y1 : Value) {p q : Bool} (h0 : eqV x0 y0 = some p) (h1 : eqV x1 y1 = some q) :
  (Op.eqFields (d + 1) #[x0,x1] #[y0,y1] (Tryz.prog.fieldsOf 95).toList).run Tryz.prog w = .ok (p && (q && true)) w:=by
 obtain ⟨f0,f1,hf,n0,t0,o0,n1,t1,o1⟩:=slotFields
 rw [hf]
 refine eqField_int (k:=.u8) d (by rw [n0];decide) (by rw [t0];exact itemUn) (by rw [o0];rfl) (by rw [o0];rfl) h0 ?_
 refine eqField_int (k:=.i64) d (by rw [n1];decide) (by rw [t1];exact intUn) (by rw [o1];rfl) (by rw [o1];rfl) h1 ?_
 rfl
theorem heapEq (w : World) (x0 x1 x2 y0 y1 y2 : Value) {p q r : Bool} (h0 : eqV x0 y0 = some p) (h1 : eqV x1 y1 = some q) (h2 : eqV x2 y2 = some r) :
  (Op.eqFields 9999 #[x0,x1,x2] #[y0,y1,y2] (Tryz.prog.fieldsOf 97).toList).run Tryz.prog w = .ok (p && (q && (r && true))) w:=by
 obtain ⟨f0,f1,hf,n0,t0,o0,n1,t1,o1⟩:=heapFields
 rw [hf]
 refine eqField_int (k:=.i64) 9998 (by rw [n0];decide) (by rw [t0];exact intUn) (by rw [o0];rfl) (by rw [o0];rfl) h0 ?_
 have hn : f1.name ≠ "_" := by rw [n1]; decide
 have ha : isAggT Tryz.prog f1.type = some true:=by rw [t1];kernel_rfl
 have hs : szOf Tryz.prog f1.type = some 2:=by rw [t1];kernel_rfl
 have px : (part f1.type #[x0,x1,x2] f1.offset).run Tryz.prog w = .ok (.agg #[x1,x2]) w:=by rw [o1];simp [part,run_isAgg ha,Eng.run_sizeOf hs]
 have py : (part f1.type #[y0,y1,y2] f1.offset).run Tryz.prog w = .ok (.agg #[y1,y2]) w:=by rw [o1];simp [part,run_isAgg ha,Eng.run_sizeOf hs]
 have e : (Op.equalIn 9999 f1.type (.agg #[x1,x2]) (.agg #[y1,y2])).run Tryz.prog w = .ok (q && (r && true)) w:=by
  rw [t1,run_equalIn_struct w 9998 _ _ _ slotUn slotSt]
  exact slotEq 9997 w x1 x2 y1 y2 h1 h2
 simp only [Op.eqFields,ne_eq,hn,not_false_eq_true,if_true,Sem.run_bind,px,py,Result.andThen_ok,e]
 cases q<;>cases r<;>simp
theorem seenFields : ∃ f0 f1 f2 : Field, (Tryz.prog.fieldsOf 134).toList = [f0, f1, f2] ∧ f0.name = "Id" ∧ f0.type = 3 ∧ f0.offset = 0 ∧ f1.name = "X" ∧ f1.type = 3 ∧ f1.offset = 1 ∧ f2.name = "Y" ∧ f2.type = 3 ∧ f2.offset = 2 :=
 ⟨⟨"Id", 3, 0, false, "", "", 0⟩, ⟨"X", 3, 1, false, "", "", 8⟩, ⟨"Y", 3, 2, false, "", "", 16⟩, by kernel_rfl, rfl, rfl, rfl, rfl, rfl, rfl, rfl, rfl, rfl⟩
theorem seenEq (w : World) (x0 x1 x2 y0 y1 y2 : Value) {p q r : Bool} (h0 : eqV x0 y0 = some p) (h1 : eqV x1 y1 = some q) (h2 : eqV x2 y2 = some r) :
  (Op.eqFields 9999 #[x0,x1,x2] #[y0,y1,y2] (Tryz.prog.fieldsOf 134).toList).run Tryz.prog w = .ok (p && (q && (r && true))) w:=by
 obtain ⟨f0,f1,f2,hf,n0,t0,o0,n1,t1,o1,n2,t2,o2⟩:=seenFields
 rw [hf]
 refine eqField_int (k:=.i64) 9998 (by rw [n0];decide) (by rw [t0];exact intUn) (by rw [o0];rfl) (by rw [o0];rfl) h0 ?_
 refine eqField_int (k:=.i64) 9998 (by rw [n1];decide) (by rw [t1];exact intUn) (by rw [o1];rfl) (by rw [o1];rfl) h1 ?_
 refine eqField_int (k:=.i64) 9998 (by rw [n2];decide) (by rw [t2];exact intUn) (by rw [o2];rfl) (by rw [o2];rfl) h2 ?_
 rfl
theorem seenAll (w : World) (xs ys : List Value) (b : Bool) (hb : eqVs xs ys = some b) (hl : szOf Tryz.prog 134 = some xs.length) : (Op.equal 134 (.agg ⟨xs⟩) (.agg ⟨ys⟩)).run Tryz.prog w = .ok b w:=by
 have hl' : szOf Tryz.prog 134 = some 3:=by kernel_rfl
 rw [hl'] at hl
 obtain ⟨x0,x1,x2,rfl⟩:=len3 hl
 obtain ⟨y0,ys0,p,q,rfl,h0,hb0,rfl⟩:=eqVs_cons' hb
 obtain ⟨y1,ys1,p1,q1,rfl,h1,hb1,rfl⟩:=eqVs_cons' hb0
 obtain ⟨y2,ys2,p2,q2,rfl,h2,hb2,rfl⟩:=eqVs_cons' hb1
 obtain ⟨rfl,rfl⟩:=eqVs_nil hb2
 exact eqStruct (by kernel_rfl) (by kernel_rfl) w _ _ (seenEq w x0 x1 x2 y0 y1 y2 h0 h1 h2)
theorem callsAll : (List.range 195).all (fun f => !(cfg.fn f) || match Tryz.prog.funcs[f]? with | some fn => !(fn.name == "runtime.NumGoroutine") && fn.body.isSome | none => false) = true := by kernel_rfl
theorem cfg_fn {f : Nat} (h : cfg.fn f = true) : f < 195:=by
 simp only [cfg] at h
 split at h<;>first|(cases h;done)|exact Nat.le_of_ble_eq_true h
theorem cfg_ok : Cfg2Ok Tryz.prog cfg where
 mixed:=by kernel_rfl
 zr:=by
  intro e t h
  simp only [cfg] at h
  split at h<;>first|(cases h;kernel_rfl)|(cases h;done)
 sz:=by
  intro e t h
  simp only [cfg] at h
  split at h<;>first|(cases h;exact ⟨by kernel_rfl,by kernel_rfl⟩)|(cases h;done)
 pk:=by
  intro t ik h
  simp only [cfg] at h
  split at h
  ·cases h
  ·cases h
 eq:=by
  intro t h
  simp only [cfg] at h
  split at h
  ·refine ⟨by kernel_rfl,fun w xs ys b hb hl=>?_⟩
   have hl' : szOf Tryz.prog 95 = some 2:=by kernel_rfl
   rw [hl'] at hl
   obtain ⟨x0,x1,rfl⟩:=len2 hl
   obtain ⟨y0,ys0,p,q,rfl,h0,hb0,rfl⟩:=eqVs_cons' hb
   obtain ⟨y1,ys1,p1,q1,rfl,h1,hb1,rfl⟩:=eqVs_cons' hb0
   obtain ⟨rfl,rfl⟩:=eqVs_nil hb1
   exact eqStruct slotUn slotSt w _ _ (slotEq 9998 w x0 x1 y0 y1 h0 h1)
  ·refine ⟨by kernel_rfl,fun w xs ys b hb hl=>?_⟩
   have hl' : szOf Tryz.prog 97 = some 3:=by kernel_rfl
   rw [hl'] at hl
   obtain ⟨x0,x1,x2,rfl⟩:=len3 hl
   obtain ⟨y0,ys0,p,q,rfl,h0,hb0,rfl⟩:=eqVs_cons' hb
   obtain ⟨y1,ys1,p1,q1,rfl,h1,hb1,rfl⟩:=eqVs_cons' hb0
   obtain ⟨y2,ys2,p2,q2,rfl,h2,hb2,rfl⟩:=eqVs_cons' hb1
   obtain ⟨rfl,rfl⟩:=eqVs_nil hb2
   exact eqStruct (by kernel_rfl) (by kernel_rfl) w _ _ (heapEq w x0 x1 x2 y0 y1 y2 h0 h1 h2)
  ·exact ⟨by kernel_rfl,fun w xs ys b hb hl=>seenAll w xs ys b hb hl⟩
  ·cases h
 call:=by
  intro f hf args w
  have h:=callsAll
  have:=List.all_eq_true.1 h f (List.mem_range.2 (cfg_fn hf))
  rw [hf] at this
  simp only [Bool.not_true,Bool.false_or] at this
  cases hfn : Tryz.prog.funcs[f]? with
  | none=>rw [hfn] at this;cases this
  | some fn =>
   rw [hfn] at this
   simp only [Bool.and_eq_true,Bool.not_eq_true'] at this
   have hn : fn.name ≠ "runtime.NumGoroutine" := by have h1 := this.1; simpa using h1
   have hb : fn.body ≠ none:=by intro e;have h2:=this.2;rw [e] at h2;cases h2
   simp [callFunc,hfn,hn,hb]
 over:=by
  intro f hf
  simp only [cfg] at hf
  split at hf
  ·cases hf
  ·exact over_of (fn:=Tryz.f143) (t:=23) (tR:=4) (e:=31) (z:=5) Tryz.func143 (by kernel_rfl) (by kernel_rfl) (by kernel_rfl) (by kernel_rfl) (by kernel_rfl) (by kernel_rfl)
  ·exact over_of (fn:=Tryz.f147) (t:=24) (tR:=4) (e:=34) (z:=7) Tryz.func147 (by kernel_rfl) (by kernel_rfl) (by kernel_rfl) (by kernel_rfl) (by kernel_rfl) (by kernel_rfl)
  ·cases hf
theorem aF {fid : FuncId} {fn : Func} (hf : Tryz.prog.funcs[fid]? = some fn) (nt : Nat) {c : Code} {args : List AV} {v : AV} (h : ev Tryz.prog cfg 0 c (endF Tryz.prog 0 fn.results.toList v []) (args ++ undefs nt) []) (hb : fn.body = some c:=by exact rfl) (hn : fn.ntmps - args.length = nt:=by exact rfl) (hv : scA 0 v = true:=by exact rfl) : Api Tryz.prog fid args v:=Api.of_fin cfg_ok hf hb hn hv h
theorem eF {fid : FuncId} {fn : Func} (hf : Tryz.prog.funcs[fid]? = some fn) (nt : Nat) {c : Code} {args : List AV} {m0 m1 : Mem} {v : AV} (h : ev Tryz.prog cfg L c (endF Tryz.prog L fn.results.toList v m1) (args ++ undefs nt) m0) (hb : fn.body = some c:=by exact rfl) (hn : fn.ntmps - args.length = nt:=by exact rfl) (hv : scA L v = true:=by exact rfl) (hm : scM L m1 = true:=by exact rfl) : Ev1 Tryz.prog fid args m0 v m1:=Ev1.of_fin cfg_ok hf hb hn hv hm h
open Go Go.RowKit Eng
def stackN (i : Int) : Int:=if i < 1 then 0 else if i = 9 then 4 else if i = 12 then 1 else if i ≤ 12 then 16 else 0
def blockB (i : Int) : Bool:=decide (1 ≤ i) && decide (i ≤ 10) && !(decide (i = 6)) && !(decide (i = 8))
theorem u8_13 {i : Int} (h0 : 0 ≤ i) (h : i < 13) : i = 0 ∨ i = 1 ∨ i = 2 ∨ i = 3 ∨ i = 4 ∨ i = 5 ∨ i = 6 ∨ i = 7 ∨ i = 8 ∨ i = 9 ∨ i = 10 ∨ i = 11 ∨ i = 12:=by omega
theorem stack1_api (s : ByteArray) (n : Int) (b : AV) (hb : b = .tt ∨ b = .ff) (g : Int) : Api Tryz.prog 191 [.agg [.lit (.string s),.lit (.int .i64 n),b,.lit (.int .u8 g)]] (.lit (.int .i64 n)):=by
 rcases hb with rfl|rfl
 all_goals
  refine Api.of_ev cfg_ok Tryz.func191 rfl (nt:=4) rfl ?_
  conv=>whnf
  exact ⟨Le.refl _,rfl⟩
theorem ofI_hi (i : Int) (h : 13 ≤ i) (h2 : i ≤ 255) : Api Tryz.prog 190 [.lit (.int .u8 i),.lit (.func (.func 191) #[] #[])] (.lit (.int .i64 0)):=by
 refine Api.of_ev cfg_ok Tryz.func190 rfl (nt:=29) rfl ?_
 conv=>whnf
 refine .inl ⟨in64 (by omega) (by omega),?_⟩
 conv=>whnf
 refine ⟨fun h=>?_,fun h=>absurd h (by simp;omega)⟩
 conv=>whnf
 refine callApi (stack1_api _ _ _ (.inr rfl) _) rfl rfl ?_
 conv=>whnf
 exact ⟨Le.refl _,rfl⟩
theorem ofI_lo (i : Int) (h : 0 ≤ i) (h2 : i < 13) : Api Tryz.prog 190 [.lit (.int .u8 i),.lit (.func (.func 191) #[] #[])] (.lit (.int .i64 (stackN i))):=by
 rcases u8_13 h h2 with rfl|rfl|rfl|rfl|rfl|rfl|rfl|rfl|rfl|rfl|rfl|rfl|rfl
 all_goals
  refine Api.of_ev cfg_ok Tryz.func190 rfl (nt:=29) rfl ?_
  conv=>whnf
  refine .inl ⟨in64 (by omega) (by omega),?_⟩
  conv=>whnf
  refine ⟨fun h=>absurd h (by decide),fun h=>?_⟩
  conv=>whnf
  refine ⟨⟨by decide,by decide⟩,?_⟩
  conv=>whnf
  refine callApi (stack1_api _ _ _ (by first|exact .inl rfl|exact .inr rfl) _) rfl rfl ?_
  conv=>whnf
  exact ⟨Le.refl _,rfl⟩
theorem stack_api (i : Int) (h : 0 ≤ i) (h2 : i ≤ 255) : Api Tryz.prog 174 [.lit (.int .u8 i)] (.lit (.int .i64 (stackN i))):=by
 refine Api.of_ev cfg_ok Tryz.func174 rfl (nt:=4) rfl ?_
 conv=>whnf
 by_cases h3 : i < 13
 ·refine callApi (ofI_lo i h h3) rfl rfl ?_
  conv=>whnf
  exact ⟨Le.refl _,rfl⟩
 ·refine callApi (ofI_hi i (by omega) h2) rfl rfl ?_
  conv=>whnf
  refine ⟨Le.int ?_,rfl⟩
  unfold stackN
  rw [if_neg (by omega),if_neg (by omega),if_neg (by omega),if_neg (by omega)]
open Go Go.RowKit Eng
theorem block1_tt (s : ByteArray) (n : Int) (g : Int) : Api Tryz.prog 171 [.agg [.lit (.string s),.lit (.int .i64 n),.tt,.lit (.int .u8 g)]] (bol true):=by
 refine aF Tryz.func171 4 ?_
 exact fD0
theorem block1_ff (s : ByteArray) (n : Int) (g : Int) : Api Tryz.prog 171 [.agg [.lit (.string s),.lit (.int .i64 n),.ff,.lit (.int .u8 g)]] (bol false):=by
 refine aF Tryz.func171 4 ?_
 exact fD0
theorem ofB_hi (i : Int) (h : 13 ≤ i) (h2 : i ≤ 255) : Api Tryz.prog 170 [.lit (.int .u8 i),.lit (.func (.func 171) #[] #[])] (bol false):=by
 refine aF Tryz.func170 29 ?_
 conv=>whnf
 repeat' (first|exact trivial|((first|refine kL ?_|(refine ⟨fun hb=>?_,fun hb=>?_⟩<;>(try simp only [nrm] at hb)<;>try exact kZ hb)|(refine isE 171 ?_;refine kA (block1_ff _ _ _) ?_)|(refine isD 171 ?_;refine kD (block1_ff _ _ _) ?_)|refine kV ?_)<;>(conv=>whnf))|refine kY ?_ ?_)
theorem ofB_lo (i : Int) (h : 0 ≤ i) (h2 : i < 13) : Api Tryz.prog 170 [.lit (.int .u8 i),.lit (.func (.func 171) #[] #[])] (bol (blockB i)):=by
 rcases u8_13 h h2 with rfl|rfl|rfl|rfl|rfl|rfl|rfl|rfl|rfl|rfl|rfl|rfl|rfl
 all_goals
  refine aF Tryz.func170 29 ?_
  conv=>whnf
  repeat' (first|exact trivial|((first|refine kL ?_|(refine ⟨fun hb=>?_,fun hb=>?_⟩<;>(try simp only [nrm] at hb)<;>try exact kZ hb)|(refine ⟨⟨by decide,by decide⟩,?_⟩)|(refine isE 171 ?_;refine kA (block1_ff _ _ _) ?_)|(refine isD 171 ?_;refine kD (block1_ff _ _ _) ?_)|(refine isE 171 ?_;refine kA (block1_tt _ _ _) ?_)|(refine isD 171 ?_;refine kD (block1_tt _ _ _) ?_)|refine kV ?_)<;>(conv=>whnf))|refine kY ?_ ?_)
theorem blockB_hi {i : Int} (h : 13 ≤ i) : blockB i = false:=by
 unfold blockB
 rw [decide_eq_false (by omega : ¬ i ≤ 10)]
 simp
theorem block_api (i : Int) (h : 0 ≤ i) (h2 : i ≤ 255) : Api Tryz.prog 127 [.lit (.int .u8 i)] (bol (blockB i)):=by
 by_cases h3 : i < 13
 ·refine aF Tryz.func127 4 ?_
  conv=>whnf
  repeat' (first|exact trivial|((first|refine kL ?_|(refine ⟨fun hb=>?_,fun hb=>?_⟩<;>(try simp only [nrm] at hb)<;>try exact kZ hb)|(refine isE 170 ?_;refine kA (ofB_lo i h h3) ?_)|(refine isD 170 ?_;refine kD (ofB_lo i h h3) ?_)|refine kV ?_)<;>(conv=>whnf))|refine kY ?_ ?_)
 ·refine aF Tryz.func127 4 ?_
  rw [blockB_hi (by omega)]
  conv=>whnf
  repeat' (first|exact trivial|((first|refine kL ?_|(refine ⟨fun hb=>?_,fun hb=>?_⟩<;>(try simp only [nrm] at hb)<;>try exact kZ hb)|(refine isE 170 ?_;refine kA (ofB_hi i (by omega) h2) ?_)|(refine isD 170 ?_;refine kD (ofB_hi i (by omega) h2) ?_)|refine kV ?_)<;>(conv=>whnf))|refine kY ?_ ?_)
open Go Go.RowKit Eng
def big : Nat:=9000000000000000000
theorem elt_mem {t : Ty} {l : List (El t)} {i : Nat} (h : i < l.length) : elt t l i ∈ l:=List.mem_of_getElem? (elt_get t l i h)
theorem elt_mem' {t : Ty} {l : List (El t)} {i : Int} (h0 : 0 ≤ i) (h : i < l.length) : elt t l i.toNat ∈ l:=elt_mem (by omega)
theorem drop_elt {t : Ty} {l : List (El t)} {i : Nat} (h : i < l.length) : l.drop i = elt t l i :: l.drop (i + 1):=by
 rw [List.drop_eq_getElem_cons h]
 have e:=elt_get t l i h
 rw [List.getElem?_eq_getElem h] at e
 rw [Option.some.inj e]
def idxGo {α : Type} (p : α → Bool) : List α → Nat → Int
 | [],_=>-1
 | a :: r,i=>if p a then (i : Int) else idxGo p r (i + 1)
theorem idxGo_any {α : Type} (p : α → Bool) (l : List α) (i : Nat) : decide (0 ≤ idxGo p l i) = l.any p:=by
 induction l generalizing i with
 | nil=>simp [idxGo]
 | cons a r ih =>
  simp only [idxGo,List.any_cons]
  by_cases h : p a = true
  ·simp [h]
  ·simp [h,ih]
def okSlot (s : Slot) : Prop:=0 ≤ s.item ∧ s.item ≤ 255
def badSlot (s : Slot) : Bool:=!(s.item == 0 && s.n == 0) && (decide (s.n < 1) || decide (stackN s.item < s.n))
def bagOk (l : List Slot) : Bool:=!l.any badSlot
def eqSlot (a b : Slot) : Bool:=(a.item == b.item) && (a.n == b.n)
def sameSlots (a b : List Slot) : Bool:=a.length == b.length && (List.range a.length).all fun i=>eqSlot (elt .slot a i) (elt .slot b i)
theorem right1_api (s : Slot) (h : okSlot s) : Api Tryz.prog 189 [.agg [.lit (.int .u8 s.item),.lit (.int .i64 s.n)]] (bol (badSlot s)):=by
 refine aF Tryz.func189 18 ?_
 conv=>whnf
 repeat' (first|exact trivial|((first|refine kL ?_|(refine ⟨fun hb=>?_,fun hb=>?_⟩<;>(try simp only [nrm] at hb)<;>try exact kZ hb)|(refine isE 174 ?_;refine kA (stack_api _ h.1 h.2) ?_)|(refine isD 174 ?_;refine kD (stack_api _ h.1 h.2) ?_)|refine kV ?_)<;>(conv=>whnf))|refine kY ?_ ?_)
 all_goals (refine congrArg Value.bool ?_;rw [Bool.eq_iff_iff];simp only [badSlot,Bool.and_eq_true,Bool.or_eq_true,Bool.not_eq_true',Bool.and_eq_false_iff,Bool.or_eq_false_iff,decide_eq_true_eq,decide_eq_false_iff_not,beq_iff_eq,beq_eq_false_iff_ne,bne_iff_ne,ne_eq,Bool.false_eq_true,Int.toNat_natCast,eq_self,iff_true,true_iff,iff_false,false_iff,Bool.true_eq_false,not_and,Decidable.not_not,not_true_eq_false,not_false_eq_true];(first|done|omega|(simp_all;done)|(simp_all;omega)))
theorem idx_right (l : List (El .slot)) (hl : l.length ≤ big) (hw : ∀ s ∈ l,okSlot s) : Api Tryz.prog 194 [.vec .slot l,.lit (.func (.func 189) #[] #[])] (i64 (idxGo badSlot l 0)):=by
 unfold big at hl
 refine aF Tryz.func194 17 ?_
 conv=>whnf
 refine Runs.loopS cfg_ok (σ:=Nat) [0,1,7,8] (fun k=>[.vec .slot l,.lit (.func (.func 189) #[] #[]),i64 l.length,i64 k]) (fun _=>[]) (fun k=>k ≤ l.length ∧ idxGo badSlot (l.drop k) k = idxGo badSlot l 0) (fun k=>l.length - k) 0 ⟨by omega,rfl⟩ ?_ ?_
 ·exact fD0
 ·intro k ⟨hk,he⟩
  by_cases hlt : k < l.length
  ·rw [drop_elt hlt] at he
   simp only [idxGo] at he
   conv=>whnf
   repeat' (first|exact trivial|((first|refine kL ?_|(refine ⟨fun hb=>?_,fun hb=>?_⟩<;>(try simp only [nrm] at hb)<;>try exact kZ hb)|(refine isE 189 ?_;refine kA (right1_api _ (hw _ (elt_mem' (by omega) (by omega)))) ?_)|(refine isD 189 ?_;refine kD (right1_api _ (hw _ (elt_mem' (by omega) (by omega)))) ?_)|refine kV ?_)<;>(conv=>whnf))|refine kY ?_ ?_)
   ·rw [← he,if_pos hb]
   ·refine .to (k + 1) ⟨hlt,?_⟩ (by omega) ?_
    ·rw [← he,if_neg (by simp [hb])]
    ·exact fD0
  ·conv=>whnf
   repeat' (first|exact trivial|((first|(refine ⟨fun hb=>?_,fun hb=>?_⟩<;>(try simp only [nrm] at hb)<;>try exact kZ hb)|refine kV ?_)<;>(conv=>whnf))|refine kY ?_ ?_)
   have : k = l.length:=by omega
   subst this
   simp only [List.drop_length,idxGo] at he
   rw [← he]
theorem has_right (l : List (El .slot)) (hl : l.length ≤ big) (hw : ∀ s ∈ l,okSlot s) : Api Tryz.prog 188 [.vec .slot l,.lit (.func (.func 189) #[] #[])] (bol (l.any badSlot)):=by
 refine aF Tryz.func188 7 ?_
 conv=>whnf
 repeat' (first|exact trivial|((first|refine kL ?_|(refine ⟨fun hb=>?_,fun hb=>?_⟩<;>(try simp only [nrm] at hb)<;>try exact kZ hb)|(refine isE 194 ?_;refine kA (idx_right l hl hw) ?_)|(refine isD 194 ?_;refine kD (idx_right l hl hw) ?_)|refine kV ?_)<;>(conv=>whnf))|refine kY ?_ ?_)
 rw [idxGo_any]
theorem right_api (l : List (El .slot)) (hl : l.length ≤ big) (hw : ∀ s ∈ l,okSlot s) : Api Tryz.prog 172 [.vec .slot l] (bol (bagOk l)):=by
 refine aF Tryz.func172 5 ?_
 conv=>whnf
 repeat' (first|exact trivial|((first|refine kL ?_|(refine ⟨fun hb=>?_,fun hb=>?_⟩<;>(try simp only [nrm] at hb)<;>try exact kZ hb)|(refine isE 188 ?_;refine kA (has_right l hl hw) ?_)|(refine isD 188 ?_;refine kD (has_right l hl hw) ?_)|refine kV ?_)<;>(conv=>whnf))|refine kY ?_ ?_)
 all_goals trace_state
theorem bagRight_api (l : List (El .slot)) (n : Int) (hl : l.length ≤ big) (hw : ∀ s ∈ l,okSlot s) : Api Tryz.prog 128 [.vec .slot l,i64 n] (bol (decide ((l.length : Int) = n) && bagOk l)):=by
 refine aF Tryz.func128 11 ?_
 conv=>whnf
 repeat' (first|exact trivial|((first|refine kL ?_|(refine ⟨fun hb=>?_,fun hb=>?_⟩<;>(try simp only [nrm] at hb)<;>try exact kZ hb)|(refine isE 172 ?_;refine kA (right_api l hl hw) ?_)|(refine isD 172 ?_;refine kD (right_api l hl hw) ?_)|refine kV ?_)<;>(conv=>whnf))|refine kY ?_ ?_)
 ·rw [decide_eq_true hb];rfl
 ·rw [decide_eq_false hb];rfl
theorem sameSlots_false {a b : List Slot} {k : Nat} (hk : k < a.length) (h : eqSlot (elt .slot a k) (elt .slot b k) = false) : sameSlots a b = false:=by
 unfold sameSlots
 have : ((List.range a.length).all fun i=>eqSlot (elt .slot a i) (elt .slot b i)) = false:=by
  rw [List.all_eq_false]
  exact ⟨k,List.mem_range.2 hk,by rw [h];simp⟩
 rw [this,Bool.and_false]
theorem sameSlots_true {a b : List Slot} (hl : a.length = b.length) (h : ∀ i < a.length,eqSlot (elt .slot a i) (elt .slot b i) = true) : sameSlots a b = true:=by
 unfold sameSlots
 have : ((List.range a.length).all fun i=>eqSlot (elt .slot a i) (elt .slot b i)) = true:=by
  rw [List.all_eq_true]
  exact fun k hk=>h k (List.mem_range.1 hk)
 rw [this,hl];simp
theorem sameSlots_api (a b : List (El .slot)) (ha : a.length ≤ big) : Api Tryz.prog 67 [.vec .slot a,.vec .slot b] (bol (sameSlots a b)):=by
 unfold big at ha
 refine aF Tryz.func67 24 ?_
 conv=>whnf
 repeat' (first|exact trivial|((first|(refine ⟨fun hb=>?_,fun hb=>?_⟩<;>(try simp only [nrm] at hb)<;>try exact kZ hb)|refine kV ?_)<;>(conv=>whnf))|refine kY ?_ ?_)
 ·rw [show sameSlots a b = false by unfold sameSlots;rw [show (a.length == b.length) = false by simp;omega];rfl]
 ·refine Runs.loopS cfg_ok (σ:=Nat) [0,1,12,13] (fun k=>[.vec .slot a,.vec .slot b,i64 a.length,i64 k]) (fun _=>[]) (fun k=>k ≤ a.length ∧ ∀ i < k,eqSlot (elt .slot a i) (elt .slot b i) = true) (fun k=>a.length - k) 0 ⟨by omega,by omega⟩ ?_ ?_
  ·exact fD0
  ·intro k ⟨hk,he⟩
   conv=>whnf
   repeat' (first|exact trivial|((first|(refine ⟨fun hb=>?_,fun hb=>?_⟩<;>(try simp only [nrm] at hb)<;>try exact kZ hb)|refine kV ?_)<;>(conv=>whnf))|refine kY ?_ ?_)
   ·rw [sameSlots_false (by omega : k < a.length) (by simp only [eqSlot,Bool.and_eq_false_iff,beq_eq_false_iff_ne];exact hb)]
   ·refine .to (k + 1) ⟨by omega,fun i hi=>?_⟩ (by omega) ?_
    ·by_cases hik : i = k
     ·subst hik;simpa [eqSlot] using hb
     ·exact he i (by omega)
    ·exact fD0
   ·rw [sameSlots_true (by omega) (fun i hi=>he i (by omega))]
theorem new_api (n : Int) (h : 0 ≤ n) (h2 : n ≤ 64) : Api Tryz.prog 93 [i64 n] (.vec .slot (List.replicate n.toNat ⟨0,0⟩)):=by
 refine aF Tryz.func93 6 ?_
 conv=>whnf
 repeat' (first|exact trivial|((first|(refine ⟨fun hb=>?_,fun hb=>?_⟩<;>(try simp only [nrm] at hb)<;>try exact kZ hb)|refine kV ?_)<;>(conv=>whnf))|refine kY ?_ ?_)
 have e : min (max n 0) 64 = n:=by omega
 rw [e]
 simp [dflt]
open Go Go.RowKit Eng
theorem inside_api (n : Int) : Api Tryz.prog 131 [i64 n] (bol (decide (0 ≤ n) && decide (n < 64))):=by
 refine aF Tryz.func131 8 ?_
 conv=>whnf
 repeat' (first|exact trivial|((first|(refine ⟨fun hb=>?_,fun hb=>?_⟩<;>(try simp only [nrm] at hb)<;>try exact kZ hb)|refine kV ?_)<;>(conv=>whnf))|refine kY ?_ ?_)
 all_goals (refine congrArg Value.bool ?_;rw [Bool.eq_iff_iff];simp only [badSlot,Bool.and_eq_true,Bool.or_eq_true,Bool.not_eq_true',Bool.and_eq_false_iff,Bool.or_eq_false_iff,decide_eq_true_eq,decide_eq_false_iff_not,beq_iff_eq,beq_eq_false_iff_ne,bne_iff_ne,ne_eq,Bool.false_eq_true,Int.toNat_natCast,eq_self,iff_true,true_iff,iff_false,false_iff,Bool.true_eq_false,not_and,Decidable.not_not,not_true_eq_false,not_false_eq_true];(first|done|omega|(simp_all;done)|(simp_all;omega)))
def someB (s : Slot) : Bool:=decide (1 ≤ s.n) && decide (s.n ≤ stackN s.item)
theorem some_api (s : Slot) (h : okSlot s) : Api Tryz.prog 132 [.agg [.lit (.int .u8 s.item),.lit (.int .i64 s.n)]] (bol (someB s)):=by
 refine aF Tryz.func132 13 ?_
 conv=>whnf
 repeat' (first|exact trivial|((first|refine kL ?_|(refine ⟨fun hb=>?_,fun hb=>?_⟩<;>(try simp only [nrm] at hb)<;>try exact kZ hb)|(refine isE 174 ?_;refine kA (stack_api _ h.1 h.2) ?_)|(refine isD 174 ?_;refine kD (stack_api _ h.1 h.2) ?_)|refine kV ?_)<;>(conv=>whnf))|refine kY ?_ ?_)
 all_goals (refine congrArg Value.bool ?_;rw [Bool.eq_iff_iff];simp only [someB,Bool.and_eq_true,Bool.or_eq_true,Bool.not_eq_true',Bool.and_eq_false_iff,Bool.or_eq_false_iff,decide_eq_true_eq,decide_eq_false_iff_not,beq_iff_eq,beq_eq_false_iff_ne,bne_iff_ne,ne_eq,Bool.false_eq_true,Int.toNat_natCast,eq_self,iff_true,true_iff,iff_false,false_iff,Bool.true_eq_false,not_and,Decidable.not_not,not_true_eq_false,not_false_eq_true];(first|done|omega|(simp_all;done)|(simp_all;omega)))
def okHeap (h : Heap) : Prop:=okSlot h.slot
def badHeap (h : Heap) : Bool:=!(decide (0 ≤ h.cell) && decide (h.cell < 64)) || !someB h.slot
theorem cright1_api (h : Heap) (hk : okHeap h) : Api Tryz.prog 130 [.agg [.lit (.int .i64 h.cell),.lit (.int .u8 h.slot.item),.lit (.int .i64 h.slot.n)]] (bol (badHeap h)):=by
 refine aF Tryz.func130 12 ?_
 conv=>whnf
 repeat' (first|exact trivial|((first|refine kL ?_|(refine ⟨fun hb=>?_,fun hb=>?_⟩<;>(try simp only [nrm] at hb)<;>try exact kZ hb)|(refine isE 131 ?_;refine kA (inside_api _) ?_)|(refine isD 131 ?_;refine kD (inside_api _) ?_)|(refine isE 132 ?_;refine kA (some_api _ hk) ?_)|(refine isD 132 ?_;refine kD (some_api _ hk) ?_)|refine kV ?_)<;>(conv=>whnf))|refine kY ?_ ?_)
 all_goals (refine congrArg Value.bool ?_;rw [Bool.eq_iff_iff];simp only [badHeap,Bool.and_eq_true,Bool.or_eq_true,Bool.not_eq_true',Bool.and_eq_false_iff,Bool.or_eq_false_iff,decide_eq_true_eq,decide_eq_false_iff_not,beq_iff_eq,beq_eq_false_iff_ne,bne_iff_ne,ne_eq,Bool.false_eq_true,Int.toNat_natCast,eq_self,iff_true,true_iff,iff_false,false_iff,Bool.true_eq_false,not_and,Decidable.not_not,not_true_eq_false,not_false_eq_true];(first|done|omega|(simp_all;done)|(simp_all;omega)))
theorem idx_heap (l : List (El .heap)) (hl : l.length ≤ big) (hw : ∀ s ∈ l,okHeap s) : Api Tryz.prog 173 [.vec .heap l,.lit (.func (.func 130) #[] #[])] (i64 (idxGo badHeap l 0)):=by
 unfold big at hl
 refine aF Tryz.func173 17 ?_
 conv=>whnf
 refine Runs.loopS cfg_ok (σ:=Nat) [0,1,7,8] (fun k=>[.vec .heap l,.lit (.func (.func 130) #[] #[]),i64 l.length,i64 k]) (fun _=>[]) (fun k=>k ≤ l.length ∧ idxGo badHeap (l.drop k) k = idxGo badHeap l 0) (fun k=>l.length - k) 0 ⟨by omega,rfl⟩ ?_ ?_
 ·exact fD0
 ·intro k ⟨hk,he⟩
  by_cases hlt : k < l.length
  ·rw [drop_elt hlt] at he
   simp only [idxGo] at he
   conv=>whnf
   repeat' (first|exact trivial|((first|refine kL ?_|(refine ⟨fun hb=>?_,fun hb=>?_⟩<;>(try simp only [nrm] at hb)<;>try exact kZ hb)|(refine isE 130 ?_;refine kA (cright1_api _ (hw _ (elt_mem' (by omega) (by omega)))) ?_)|(refine isD 130 ?_;refine kD (cright1_api _ (hw _ (elt_mem' (by omega) (by omega)))) ?_)|refine kV ?_)<;>(conv=>whnf))|refine kY ?_ ?_)
   ·simp only [badHeap,Bool.and_eq_true,Bool.or_eq_true,Bool.not_eq_true',Bool.and_eq_false_iff,Bool.or_eq_false_iff,decide_eq_true_eq,decide_eq_false_iff_not] at hb he
    rw [← he,if_pos hb]
   ·simp only [badHeap,Bool.and_eq_true,Bool.or_eq_true,Bool.not_eq_true',Bool.and_eq_false_iff,Bool.or_eq_false_iff,decide_eq_true_eq,decide_eq_false_iff_not] at hb
    refine .to (k + 1) ⟨hlt,?_⟩ (by omega) ?_
    ·rw [← he,if_neg (by simp only [badHeap,Bool.and_eq_true,Bool.or_eq_true,Bool.not_eq_true',Bool.and_eq_false_iff,Bool.or_eq_false_iff,decide_eq_true_eq,decide_eq_false_iff_not];first|omega|(simp [hb];done)|(simp_all;done))]
    ·exact fD0
  ·conv=>whnf
   repeat' (first|exact trivial|((first|(refine ⟨fun hb=>?_,fun hb=>?_⟩<;>(try simp only [nrm] at hb)<;>try exact kZ hb)|refine kV ?_)<;>(conv=>whnf))|refine kY ?_ ?_)
   have : k = l.length:=by omega
   subst this
   simp only [List.drop_length,idxGo] at he
   rw [← he]
theorem has_heap (l : List (El .heap)) (hl : l.length ≤ big) (hw : ∀ s ∈ l,okHeap s) : Api Tryz.prog 129 [.vec .heap l,.lit (.func (.func 130) #[] #[])] (bol (l.any badHeap)):=by
 refine aF Tryz.func129 7 ?_
 conv=>whnf
 repeat' (first|exact trivial|((first|refine kL ?_|(refine ⟨fun hb=>?_,fun hb=>?_⟩<;>(try simp only [nrm] at hb)<;>try exact kZ hb)|(refine isE 173 ?_;refine kA (idx_heap l hl hw) ?_)|(refine isD 173 ?_;refine kD (idx_heap l hl hw) ?_)|refine kV ?_)<;>(conv=>whnf))|refine kY ?_ ?_)
 rw [idxGo_any]
open Go Go.RowKit Eng
def okBox (b : Box) : Prop:=(∀ s ∈ b.bag,okSlot s) ∧ b.bag.length ≤ big
structure OkC (c : Chunk) : Prop where
 cells : ∀ i ∈ c.cells,0 ≤ i ∧ i ≤ 255
 heaps : ∀ h ∈ c.heaps,okHeap h
 boxes : ∀ b ∈ c.boxes,okBox b
 nc : c.cells.length ≤ big
 nh : c.heaps.length ≤ big
 nb : c.boxes.length ≤ big
def itemOk (i : Int) : Bool:=(i == 0) || blockB i
def boxAt (b : Box) (k : Int) : Bool:=(b.cell == k) && (decide ((b.bag.length : Int) = 6) && bagOk b.bag)
def rightGo : List Int → Nat → List Box → Option (List Box)
 | [],_,bs=>some bs
 | i :: r,k,bs=>if itemOk i then (if i = 9 then (match bs with
  | []=>none
  | b :: bs=>if boxAt b k then rightGo r (k + 1) bs else none) else rightGo r (k + 1) bs) else none
def headB (c : Chunk) : Bool:=decide (0 ≤ c.x) && (decide (0 ≤ c.y) && (decide (c.x < 16) && (decide (c.y < 16) && (decide ((c.cells.length : Int) = 64) && decide ((c.heaps.length : Int) ≤ 32)))))
def rightB (c : Chunk) : Bool:=headB c && (match rightGo c.cells 0 c.boxes with
 | some []=>!(c.heaps.any badHeap)
 | _=>false)
theorem rightB_none {c : Chunk} (h : rightGo c.cells 0 c.boxes = none) : rightB c = false:=by unfold rightB;rw [h,Bool.and_false]
theorem rightB_head {c : Chunk} (h : headB c = false) : rightB c = false:=by unfold rightB;rw [h,Bool.false_and]
abbrev chunkC (c : Chunk) : List AV:=[i64 c.x,i64 c.y,.vec .u8 c.cells,.vec .heap c.heaps,.vec .box c.boxes]
abbrev chunkV (c : Chunk) : AV:=.agg [i64 c.x,i64 c.y,.vec .u8 c.cells,.vec .heap c.heaps,.vec .box c.boxes]
theorem elt_zero (a : Box) (l : List Box) : elt .box (List.cons (α:=Box) a l) 0 = a:=rfl
theorem cright_api (c : Chunk) (hc : OkC c) : Api Tryz.prog 55 [chunkV c] (bol (rightB c)):=by
 have nc:=hc.nc
 have nb:=hc.nb
 unfold big at nc nb
 refine aF Tryz.func55 81 ?_
 conv=>whnf
 repeat' (first|exact trivial|((first|(refine ⟨fun hb=>?_,fun hb=>?_⟩<;>(try simp only [nrm] at hb)<;>try exact kZ hb)|refine kV ?_)<;>(conv=>whnf))|refine kY ?_ ?_)
 all_goals (try (rw [rightB_head (by simp only [headB,Bool.and_eq_false_iff,decide_eq_false_iff_not];omega)];done))
 have hH : headB c = true:=by simp only [headB,Bool.and_eq_true,decide_eq_true_eq];omega
 refine Runs.loopS cfg_ok (σ:=Nat × List Box) [1,3,35,36,37] (fun (k,bs)=>[.ptr 2 0,.vec .box bs,.vec .u8 c.cells,i64 c.cells.length,i64 k]) (fun _=>[(2,.box (chunkC c))]) (fun (k,bs)=>k ≤ c.cells.length ∧ rightGo (c.cells.drop k) k bs = rightGo c.cells 0 c.boxes ∧ (∀ b ∈ bs,okBox b) ∧ bs.length ≤ 9000000000000000000) (fun (k,_)=>c.cells.length - k) (0,c.boxes) ⟨by omega,rfl,hc.boxes,nb⟩ ?_ ?_
 ·exact fD0
 ·rintro ⟨k,bs⟩ ⟨hk,he,hB,hn⟩
  by_cases hlt : k < c.cells.length
  ·rw [drop_elt (t:=.u8) hlt] at he
   simp only [rightGo] at he
   have hcell:=hc.cells _ (elt_mem (t:=.u8) hlt)
   cases bs with
   | nil =>
    simp only [List.length_nil] at hn
    conv=>whnf
    repeat' (first|exact trivial|((first|refine kL ?_|(refine ⟨fun hb=>?_,fun hb=>?_⟩<;>(try simp only [nrm] at hb)<;>try exact kZ hb)|(refine isE 127 ?_;refine kA (block_api _ hcell.1 hcell.2) ?_)|(refine isD 127 ?_;refine kD (block_api _ hcell.1 hcell.2) ?_)|refine kV ?_)<;>(conv=>whnf))|refine kY ?_ ?_)
    all_goals first
     | (rw [rightB_none (by rw [← he];simp_all [itemOk])];done)
     | (refine .to (k + 1,[]) ⟨hlt,by rw [← he];simp_all [itemOk],hB,hn⟩ (by dsimp only;omega) ?_;(conv=>whnf))
     | skip
    repeat' (first|exact trivial|((first|(refine ⟨fun hb=>?_,fun hb=>?_⟩<;>(try simp only [nrm] at hb)<;>try exact kZ hb)|refine kV ?_)<;>(conv=>whnf))|refine kY ?_ ?_)
   | cons b bs =>
    have hbx:=hB b (by simp)
    simp only [List.length_cons] at hn
    conv=>whnf
    repeat' (first|exact trivial|((first|refine kL ?_|(refine ⟨fun hb=>?_,fun hb=>?_⟩<;>(try simp only [nrm] at hb)<;>try exact kZ hb)|(refine isE 127 ?_;refine kA (block_api _ hcell.1 hcell.2) ?_)|(refine isD 127 ?_;refine kD (block_api _ hcell.1 hcell.2) ?_)|(refine isE 128 ?_;refine kA (bagRight_api _ _ hbx.2 hbx.1) ?_)|(refine isD 128 ?_;refine kD (bagRight_api _ _ hbx.2 hbx.1) ?_)|refine kV ?_)<;>(conv=>whnf))|refine kY ?_ ?_)
    all_goals (try simp only [elt_zero,Int.toNat_zero] at *)
    all_goals first
     | (rw [rightB_none (by rw [← he];simp only [itemOk,boxAt];grind)];done)
     | (refine .to (k + 1,b :: bs) ⟨hlt,by rw [← he];simp only [itemOk,boxAt];grind,hB,by simp only [List.length_cons];omega⟩ (by dsimp only;omega) ?_;(conv=>whnf))
     | (refine .to (k + 1,bs) ⟨hlt,by rw [← he];simp only [itemOk,boxAt];grind,fun x hx=>hB x (by simp [hx]),by dsimp only;omega⟩ (by dsimp only;omega) ?_;(conv=>whnf);refine ⟨by simp,?_⟩;(conv=>whnf))
    repeat' (first|exact trivial|((first|(refine ⟨fun hb=>?_,fun hb=>?_⟩<;>(try simp only [nrm] at hb)<;>try exact kZ hb)|refine kV ?_)<;>(conv=>whnf))|refine kY ?_ ?_)
  ·have hkl : k = c.cells.length:=by omega
   rw [List.drop_of_length_le (by omega)] at he
   simp only [rightGo] at he
   conv=>whnf
   repeat' (first|exact trivial|((first|refine kL ?_|(refine ⟨fun hb=>?_,fun hb=>?_⟩<;>(try simp only [nrm] at hb)<;>try exact kZ hb)|(refine isE 129 ?_;refine kA (has_heap _ hc.nh hc.heaps) ?_)|(refine isD 129 ?_;refine kD (has_heap _ hc.nh hc.heaps) ?_)|refine kV ?_)<;>(conv=>whnf))|refine kY ?_ ?_)
   ·obtain rfl : bs = []:=List.eq_nil_of_length_eq_zero (by omega)
    unfold rightB
    rw [hH,← he]
    rfl
   ·unfold rightB
    rw [hH,← he]
    cases bs with
    | nil=>simp at hb
    | cons b bs=>rfl
open Go Go.RowKit Eng
theorem cloneV_slots (l : List (El .slot)) (hl : l.length * 16 ≤ 140737488355328) : Api Tryz.prog 125 [.vec .slot l] (.vec .slot l):=by
 refine aF Tryz.func125 7 ?_
 conv=>whnf
 repeat' (first|exact trivial|((first|(refine ⟨fun hb=>?_,fun hb=>?_⟩<;>(try simp only [nrm] at hb)<;>try exact kZ hb)|refine kV ?_)<;>(conv=>whnf))|refine kY ?_ ?_)
 all_goals simp_all
theorem clone_items (l : List (El .u8)) (hl : l.length * 1 ≤ 140737488355328) : Ev1 Tryz.prog 122 [.vec .u8 l] [] (.own .u8 390001 0 l.length none) [(390001,.row .u8 l)]:=by
 refine eF Tryz.func122 7 ?_
 conv=>whnf
 repeat' (first|exact trivial|((first|(refine ⟨fun hb=>?_,fun hb=>?_⟩<;>(try simp only [nrm] at hb)<;>try exact kZ hb)|refine kV ?_)<;>(conv=>whnf))|refine kY ?_ ?_)
 all_goals simp_all
theorem clone_heaps (l : List (El .heap)) (hl : l.length * 24 ≤ 140737488355328) : Ev1 Tryz.prog 123 [.vec .heap l] [] (.own .heap 390001 0 l.length none) [(390001,.row .heap l)]:=by
 refine eF Tryz.func123 7 ?_
 conv=>whnf
 repeat' (first|exact trivial|((first|(refine ⟨fun hb=>?_,fun hb=>?_⟩<;>(try simp only [nrm] at hb)<;>try exact kZ hb)|refine kV ?_)<;>(conv=>whnf))|refine kY ?_ ?_)
 all_goals simp_all
theorem clone_boxes (l : List (El .box)) (hl : l.length * 32 ≤ 140737488355328) : Ev1 Tryz.prog 124 [.vec .box l] [] (.own .box 390001 0 l.length none) [(390001,.row .box l)]:=by
 refine eF Tryz.func124 7 ?_
 conv=>whnf
 repeat' (first|exact trivial|((first|(refine ⟨fun hb=>?_,fun hb=>?_⟩<;>(try simp only [nrm] at hb)<;>try exact kZ hb)|refine kV ?_)<;>(conv=>whnf))|refine kY ?_ ?_)
 all_goals simp_all
theorem clone_chunks (l : List (El .chunk)) (hl : l.length * 88 ≤ 140737488355328) : Ev1 Tryz.prog 140 [.vec .chunk l] [] (.own .chunk 390001 0 l.length none) [(390001,.row .chunk l)]:=by
 refine eF Tryz.func140 7 ?_
 conv=>whnf
 repeat' (first|exact trivial|((first|(refine ⟨fun hb=>?_,fun hb=>?_⟩<;>(try simp only [nrm] at hb)<;>try exact kZ hb)|refine kV ?_)<;>(conv=>whnf))|refine kY ?_ ?_)
 all_goals simp_all
theorem clone_players (l : List (El .player)) (hl : l.length * 88 ≤ 140737488355328) : Ev1 Tryz.prog 141 [.vec .player l] [] (.own .player 390001 0 l.length none) [(390001,.row .player l)]:=by
 refine eF Tryz.func141 7 ?_
 conv=>whnf
 repeat' (first|exact trivial|((first|(refine ⟨fun hb=>?_,fun hb=>?_⟩<;>(try simp only [nrm] at hb)<;>try exact kZ hb)|refine kV ?_)<;>(conv=>whnf))|refine kY ?_ ?_)
 all_goals simp_all
open Go Go.RowKit Eng
theorem upon_part {tt : Ty} (A R : List (El tt)) (p : Nat) (hp : p ≤ A.length) : (upon A p R).take (p + R.length) = A.take p ++ R:=by
 unfold upon
 rw [← List.append_assoc]
 exact List.take_left' (by rw [List.length_append,List.length_take];omega)
open Go Go.RowKit Eng
structure FitC (c : Chunk) : Prop where
 cells : c.cells.length * 1 ≤ 140737488351232
 heaps : c.heaps.length * 24 ≤ 140737488351232
 boxes : c.boxes.length * 32 ≤ 140737488351232
 bags : ∀ b ∈ c.boxes,b.bag.length * 16 ≤ 140737488351232
theorem set_elt_box (l : List Box) (k : Nat) : l.set k ⟨(elt .box l k).cell,(elt .box l k).bag⟩ = l:=by
 by_cases h : k < l.length
 ·have:=elt_get .box l k h
  apply List.ext_getElem? 
  intro i
  rw [List.getElem?_set]
  by_cases hik : k = i
  ·subst hik;rw [if_pos rfl,if_pos h,this]
  ·simp [hik]
 ·rw [List.set_eq_of_length_le (by omega)]
abbrev chunkO (c : Chunk) (a b d : Nat) : List AV:=[i64 c.x,i64 c.y,.own .u8 a 0 c.cells.length none,.own .heap b 0 c.heaps.length none,.own .box d 0 c.boxes.length none]
abbrev chunkR (c : Chunk) (a b d : Nat) : Mem:=[(a,.row .u8 c.cells),(b,.row .heap c.heaps),(d,.row .box c.boxes)]
open Go Go.RowKit Eng
theorem nan_api (n : Int) : Api Tryz.prog 175 [i64 n] .ff:=by
 refine aF Tryz.func175 5 ?_
 exact fD0
def cmpI (a b : Int) : Int:=if a < b then -1 else if b < a then 1 else 0
theorem cmpI_lt {a b : Int} : cmpI a b < 0 ↔ a < b:=by unfold cmpI;(repeat' split)<;>omega
theorem cmpI_ge {a b : Int} : 0 ≤ cmpI a b ↔ b ≤ a:=by unfold cmpI;(repeat' split)<;>omega
theorem cmpI_eq {a b : Int} : cmpI a b = 0 ↔ a = b:=by unfold cmpI;(repeat' split)<;>omega
theorem cmp_api (a b : Int) : Api Tryz.prog 135 [i64 a,i64 b] (i64 (cmpI a b)):=by
 refine aF Tryz.func135 18 ?_
 conv=>whnf
 repeat' (first|exact trivial|((first|refine kL ?_|(refine ⟨fun hb=>?_,fun hb=>?_⟩<;>(try simp only [nrm] at hb)<;>try exact kZ hb)|(refine isE 175 ?_;refine kA (nan_api _) ?_)|(refine isD 175 ?_;refine kD (nan_api _) ?_)|refine kV ?_)<;>(conv=>whnf))|refine kY ?_ ?_)
 all_goals (refine congrArg (Value.int _) ?_;unfold cmpI;(repeat' split)<;>omega)
def rises : List Box → Prop
 | []=>True
 | b :: r=>(∀ x ∈ r,b.cell < x.cell) ∧ rises r
def lb (t : Int) : List Box → Nat
 | []=>0
 | b :: r=>if b.cell < t then lb t r + 1 else 0
theorem shr1 (i j : Nat) : ((i : Int) + (j : Int)).fdiv (2 ^ min (Int.toNat 1) IntKind.u64.bits) = (((i + j) / 2 : Nat) : Int):=by
 have : (2 : Int) ^ min (Int.toNat 1) IntKind.u64.bits = 2:=rfl
 rw [this,Int.fdiv_eq_ediv_of_nonneg _ (by omega)]
 omega
open Go Go.RowKit Eng
theorem take_all {α : Type} {n : Nat} {l : List α} (h : l.length = n) : l.take n = l:=by rw [← h,List.take_length]
theorem stackN_bd (i : Int) : 0 ≤ stackN i ∧ stackN i ≤ 16:=by unfold stackN;(repeat' split)<;>omega
open Go Go.RowKit Eng
def risesK {α : Type} (key : α → Int) : List α → Prop
 | []=>True
 | b :: r=>(∀ x ∈ r,key b < key x) ∧ risesK key r
def lbK {α : Type} (key : α → Int) (t : Int) : List α → Nat
 | []=>0
 | b :: r=>if key b < t then lbK key t r + 1 else 0
def getK {α : Type} (key : α → Int) : List α → Int → Option α
 | [],_=>none
 | b :: r,t=>if key b = t then some b else getK key r t
def delK {α : Type} (key : α → Int) (t : Int) : List α → List α
 | []=>[]
 | b :: r=>if key b < t then b :: delK key t r else if key b = t then r else b :: r
def insK {α : Type} (key : α → Int) (x : α) : List α → List α
 | []=>[x]
 | b :: r=>if key b < key x then b :: insK key x r else x :: b :: r
theorem lbK_le {α : Type} (key : α → Int) (t : Int) (l : List α) : lbK key t l ≤ l.length:=by
 induction l with
 | nil=>simp [lbK]
 | cons b r ih=>simp only [lbK,List.length_cons];split<;>omega
theorem getK_none {α : Type} {key : α → Int} {l : List α} {t : Int} : getK key l t = none ↔ ∀ b ∈ l,key b ≠ t:=by
 induction l with
 | nil=>simp [getK]
 | cons b r ih =>
  simp only [getK,List.mem_cons,forall_eq_or_imp]
  split
  ·rename_i h;simp [h]
  ·rename_i h;rw [ih];exact ⟨fun h2=>⟨h,h2⟩,fun h2=>h2.2⟩
theorem getK_mem {α : Type} {key : α → Int} {l : List α} {t : Int} {s : α} (h : getK key l t = some s) : s ∈ l ∧ key s = t:=by
 induction l with
 | nil=>simp [getK] at h
 | cons b r ih =>
  simp only [getK] at h
  split at h
  ·rename_i hb;cases h;exact ⟨by simp,hb⟩
  ·obtain ⟨h1,h2⟩:=ih h;exact ⟨by simp [h1],h2⟩
theorem risesK_ext {α : Type} {key : α → Int} : ∀ {l l' : List α},risesK key l → risesK key l' → (∀ t,getK key l t = getK key l' t) → l = l'
 | [],[],_,_,_=>rfl
 | [],b :: r,_,_,h=>by have:=h (key b);simp [getK] at this
 | b :: r,[],_,_,h=>by have:=h (key b);simp [getK] at this
 | b :: r,b' :: r',h1,h2,h=>by
  have hb:=h (key b)
  simp only [getK,if_true] at hb
  have hb':=h (key b')
  simp only [getK,if_true] at hb'
  have e : key b = key b':=by
   by_cases he : key b' = key b
   ·exact he.symm
   ·rw [if_neg he] at hb
    rw [if_neg (fun e=>he e.symm)] at hb'
    obtain ⟨hx,hxe⟩:=getK_mem hb.symm
    obtain ⟨hy,hye⟩:=getK_mem hb'
    have:=h2.1 b hx
    have:=h1.1 b' hy
    omega
  rw [if_pos e.symm] at hb
  have eb : b = b':=Option.some.inj hb
  subst eb
  rw [risesK_ext (l:=r) (l':=r') h1.2 h2.2 fun t=>?_]
  have ht:=h t
  simp only [getK] at ht
  split at ht
  ·rename_i hbt
   have n1 : getK key r t = none:=getK_none.2 fun x hx=>by have:=h1.1 x hx;omega
   have n2 : getK key r' t = none:=getK_none.2 fun x hx=>by have:=h2.1 x hx;omega
   rw [n1,n2]
  ·exact ht
theorem lbK_at {α : Type} {key : α → Int} : ∀ {l : List α} (t : Int),risesK key l → (match l[lbK key t l]? with|some b=>if key b = t then some b else none|none=>none) = getK key l t
 | [],t,_=>rfl
 | b :: r,t,h=>by
  by_cases hb : key b < t
  ·have ih:=lbK_at (l:=r) t h.2
   simp only [lbK,getK,if_pos hb,List.getElem?_cons_succ,if_neg (show ¬ key b = t by omega)]
   exact ih
  ·simp only [lbK,getK,if_neg hb,List.getElem?_cons_zero]
   split
   ·rfl
   ·rename_i he
    exact (getK_none.2 fun x hx=>by have:=h.1 x hx;omega).symm
theorem risesK_lt {α : Type} {key : α → Int} : ∀ {l : List α},risesK key l → ∀ {i j : Nat} {a b : α},i < j → l[i]? = some a → l[j]? = some b → key a < key b
 | [],_,i,j,a,b,_,ha,_=>by simp at ha
 | c :: r,h,i,j,a,b,hij,ha,hb=>by
  cases j with
  | zero=>omega
  | succ j =>
   simp at hb
   cases i with
   | zero=>simp at ha;subst ha;exact h.1 b (List.mem_of_getElem? hb)
   | succ i=>simp at ha;exact risesK_lt (l:=r) h.2 (by omega) ha hb
theorem delK_mem {α : Type} {key : α → Int} {t : Int} : ∀ {l : List α} {x : α},x ∈ delK key t l → x ∈ l
 | [],x,h=>by simp [delK] at h
 | b :: r,x,h=>by
  simp only [delK] at h
  split at h
  ·rcases List.mem_cons.1 h with rfl|h
   ·simp
   ·simp [delK_mem h]
  ·split at h
   ·simp [h]
   ·exact h
theorem risesK_del {α : Type} {key : α → Int} {t : Int} : ∀ {l : List α},risesK key l → risesK key (delK key t l)
 | [],_=>trivial
 | b :: r,h=>by
  simp only [delK]
  split
  ·exact ⟨fun x hx=>h.1 x (delK_mem hx),risesK_del h.2⟩
  ·split
   ·exact h.2
   ·exact h
theorem getK_del {α : Type} {key : α → Int} {t u : Int} : ∀ {l : List α},risesK key l → getK key (delK key t l) u = if u = t then none else getK key l u
 | [],_=>by simp [delK,getK]
 | b :: r,h=>by
  have ih:=getK_del (t:=t) (u:=u) h.2
  simp only [delK]
  split
  ·rename_i hb
   simp only [getK,ih]
   split
   ·rename_i hbu;rw [if_neg (by omega)]
   ·rfl
  ·split
   ·rename_i hbe
    by_cases hu : u = t
    ·rw [if_pos hu,getK_none];intro x hx;have:=h.1 x hx;omega
    ·rw [if_neg hu];simp only [getK];rw [if_neg (by omega)]
   ·rename_i hbt hbe
    by_cases hu : u = t
    ·rw [if_pos hu,getK_none]
     intro x hx
     rcases List.mem_cons.1 hx with rfl|hx
     ·omega
     ·have:=h.1 x hx;omega
    ·rw [if_neg hu]
theorem ins_eqK {α : Type} (key : α → Int) (x : α) : ∀ l : List α,l.take (lbK key (key x) l) ++ x :: l.drop (lbK key (key x) l) = insK key x l
 | []=>rfl
 | b :: r=>by
  simp only [lbK,insK]
  split
  ·rw [← ins_eqK key x r];rfl
  ·rfl
theorem del_eqK {α : Type} {key : α → Int} {t : Int} : ∀ {l : List α},risesK key l → delK key t l = if (getK key l t).isSome then l.take (lbK key t l) ++ l.drop (lbK key t l + 1) else l
 | [],_=>rfl
 | b :: r,h=>by
  have ih:=del_eqK (t:=t) h.2
  by_cases hb : key b < t
  ·have e1 : getK key (b :: r) t = getK key r t:=by simp only [getK,if_neg (show ¬ key b = t by omega)]
   have e2 : lbK key t (b :: r) = lbK key t r + 1:=by simp only [lbK,if_pos hb]
   rw [e1,e2]
   simp only [delK,if_pos hb,ih]
   split<;>simp
  ·have e2 : lbK key t (b :: r) = 0:=by simp only [lbK,if_neg hb]
   rw [e2]
   by_cases he : key b = t
   ·simp [he,delK,getK]
   ·have hn : getK key r t = none:=getK_none.2 fun x hx=>by have:=h.1 x hx;omega
    simp [he,hn,delK,getK,hb]
theorem insK_mem {α : Type} {key : α → Int} {x : α} : ∀ {l : List α} {y : α},y ∈ insK key x l → y = x ∨ y ∈ l
 | [],y,h=>by simp [insK] at h;exact .inl h
 | b :: r,y,h=>by
  simp only [insK] at h
  split at h
  ·rcases List.mem_cons.1 h with rfl|h
   ·simp
   ·rcases insK_mem h with h|h
    ·exact .inl h
    ·simp [h]
  ·rcases List.mem_cons.1 h with rfl|h
   ·exact .inl rfl
   ·exact .inr h
theorem risesK_ins {α : Type} {key : α → Int} {x : α} : ∀ {l : List α},risesK key l → getK key l (key x) = none → risesK key (insK key x l)
 | [],_,_=>⟨by simp,trivial⟩
 | b :: r,h,hn=>by
  have hn':=getK_none.1 hn
  simp only [insK]
  split
  ·rename_i hb
   refine ⟨fun y hy=>?_,risesK_ins h.2 (getK_none.2 fun y hy=>hn' y (by simp [hy]))⟩
   rcases insK_mem hy with rfl|hy
   ·exact hb
   ·exact h.1 y hy
  ·rename_i hb
   have h0:=hn' b (by simp)
   refine ⟨fun y hy=>?_,h⟩
   rcases List.mem_cons.1 hy with rfl|hy
   ·omega
   ·have:=h.1 y hy;omega
theorem getK_ins {α : Type} {key : α → Int} {x : α} {u : Int} : ∀ {l : List α},getK key l (key x) = none → getK key (insK key x l) u = if u = key x then some x else getK key l u
 | [],_=>by simp only [insK,getK];by_cases h : u = key x<;>simp [h];exact fun e=>absurd e.symm h
 | b :: r,hn=>by
  have hn':=getK_none.1 hn
  have h0:=hn' b (by simp)
  have ih:=getK_ins (x:=x) (u:=u) (l:=r) (getK_none.2 fun y hy=>hn' y (by simp [hy]))
  simp only [insK]
  split
  ·simp only [getK,ih]
   by_cases hbu : key b = u
   ·rw [if_pos hbu,if_pos hbu,if_neg (by omega)]
   ·rw [if_neg hbu,if_neg hbu]
  ·simp only [getK]
   by_cases hu : u = key x
   ·rw [if_pos hu.symm,if_pos hu]
   ·rw [if_neg (fun e=>hu e.symm),if_neg hu]
theorem upd_eqK {α : Type} {key : α → Int} (x : α) : ∀ (l : List α),risesK key l → (getK key l (key x)).isSome = true → l.set (lbK key (key x) l) x = insK key x (delK key (key x) l)
 | [],_,h=>by simp [getK] at h
 | b :: r,hr,h=>by
  simp only [getK] at h
  simp only [lbK,delK]
  split
  ·rename_i hb
   rw [if_neg (by omega)] at h
   simp only [List.set_cons_succ,insK,if_pos hb]
   rw [upd_eqK x r hr.2 h]
  ·rename_i hb
   by_cases he : key b = key x
   ·rw [if_pos he,List.set_cons_zero]
    cases r with
    | nil=>rfl
    | cons a r=>have:=hr.1 a (by simp);simp only [insK];rw [if_neg (by omega)]
   ·rw [if_neg he] at h
    have hn : getK key r (key x) = none:=getK_none.2 fun y hy=>by have:=hr.1 y hy;omega
    rw [hn] at h;cases h
theorem lbK_lt {α : Type} {key : α → Int} {l : List α} {t : Int} {b : α} (h : risesK key l) (hg : getK key l t = some b) : lbK key t l < l.length ∧ l[lbK key t l]? = some b:=by
 have h1:=lbK_at t h
 rw [hg] at h1
 split at h1
 ·rename_i b' hb'
  split at h1
  ·cases h1;exact ⟨(List.getElem?_eq_some_iff.1 hb').1,hb'⟩
  ·cases h1
 ·cases h1
open Go Go.RowKit Eng
theorem P_own : ownKnob Tryz.prog.godebug = none:=by kernel_rfl
theorem P_laid : laidOutB Tryz.prog = true:=by kernel_rfl
theorem boolUn : Tryz.prog.underlying 4 = some .bool:=by kernel_rfl
theorem u8Un : Tryz.prog.underlying 5 = some (.int .u8):=by kernel_rfl
def fitI (n : Int) : Prop:=-9223372036854775808 ≤ n ∧ n ≤ 9223372036854775807
def fitB (n : Int) : Prop:=0 ≤ n ∧ n ≤ 255
theorem rd_int : Reads Tryz.prog 3 1 (fun n : Int=>[.lit (.int .i64 n)]) fitI:=reads_int intUn (by kernel_rfl)
theorem rd_item : Reads Tryz.prog 44 1 (fun n : Int=>[.lit (.int .u8 n)]) fitB:=reads_int itemUn (by kernel_rfl)
theorem rd_u8 : Reads Tryz.prog 5 1 (fun n : Int=>[.lit (.int .u8 n)]) fitB:=reads_int u8Un (by kernel_rfl)
def fitSlot (s : Slot) : Prop:=fitB s.item ∧ fitI s.n
theorem rd_slot : Reads Tryz.prog 95 2 (cells .slot) fitSlot:=
 reads_map (reads_structL slotUn (by kernel_rfl) (by kernel_rfl) (readsL_cons rd_item (readsL_cons rd_int (readsL_nil _ _)))) (fun p=>(⟨p.1,p.2.1⟩ : Slot)) (fun _=>rfl) (fun _=>rfl) fun a h=>⟨h.1,h.2.1⟩
theorem rd_slots : Reads Tryz.prog 32 1 (fun l : List (El .slot)=>[.vec .slot l]) (fun l=>(∀ s ∈ l,fitSlot s) ∧ l.length * 16 ≤ 140737488351232):=
 reads_slice .slot (by kernel_rfl) (by kernel_rfl) (by kernel_rfl) rd_slot
def fitHeap (h : Heap) : Prop:=fitI h.cell ∧ fitSlot h.slot
theorem rd_heap : Reads Tryz.prog 97 3 (cells .heap) fitHeap:=
 reads_map (reads_structL (fs:=Tryz.prog.fieldsOf 97) (by kernel_rfl) (by kernel_rfl) (by kernel_rfl) (readsL_cons rd_int (readsL_cons rd_slot (readsL_nil _ _)))) (fun p=>(⟨p.1,p.2.1⟩ : Heap)) (fun _=>rfl) (fun _=>rfl) fun a h=>⟨h.1,h.2.1⟩
def fitBox (b : Box) : Prop:=fitI b.cell ∧ (∀ s ∈ b.bag,fitSlot s) ∧ b.bag.length * 16 ≤ 140737488351232
theorem rd_box : Reads Tryz.prog 79 2 (cells .box) fitBox:=
 reads_map (reads_structL (fs:=Tryz.prog.fieldsOf 79) (by kernel_rfl) (by kernel_rfl) (by kernel_rfl) (readsL_cons rd_int (readsL_cons rd_slots (readsL_nil _ _)))) (fun p=>(⟨p.1,p.2.1⟩ : Box)) (fun _=>rfl) (fun _=>rfl) fun a h=>⟨h.1,h.2.1.1,h.2.1.2⟩
theorem rd_items : Reads Tryz.prog 27 1 (fun l : List (El .u8)=>[.vec .u8 l]) (fun l=>(∀ i ∈ l,fitB i) ∧ l.length * 1 ≤ 140737488351232):=reads_slice .u8 (by kernel_rfl) (by kernel_rfl) (by kernel_rfl) rd_item
theorem rd_heaps : Reads Tryz.prog 28 1 (fun l : List (El .heap)=>[.vec .heap l]) (fun l=>(∀ h ∈ l,fitHeap h) ∧ l.length * 24 ≤ 140737488351232):=reads_slice .heap (by kernel_rfl) (by kernel_rfl) (by kernel_rfl) rd_heap
theorem rd_boxes : Reads Tryz.prog 29 1 (fun l : List (El .box)=>[.vec .box l]) (fun l=>(∀ b ∈ l,fitBox b) ∧ l.length * 32 ≤ 140737488351232):=reads_slice .box (by kernel_rfl) (by kernel_rfl) (by kernel_rfl) rd_box
structure FitChunk (c : Chunk) : Prop where
 x : fitI c.x
 y : fitI c.y
 cells : ∀ i ∈ c.cells,fitB i
 nc : c.cells.length * 1 ≤ 140737488351232
 heaps : ∀ h ∈ c.heaps,fitHeap h
 nh : c.heaps.length * 24 ≤ 140737488351232
 boxes : ∀ b ∈ c.boxes,fitBox b
 nb : c.boxes.length * 32 ≤ 140737488351232
theorem chunkUn : Tryz.prog.underlying 31 = some (.struct (Tryz.prog.fieldsOf 31)):=by kernel_rfl
theorem rd_chunk : Reads Tryz.prog 31 5 (cells .chunk) FitChunk:=
 reads_map (reads_structL chunkUn (by kernel_rfl) (by kernel_rfl) (readsL_cons rd_int (readsL_cons rd_int (readsL_cons rd_items (readsL_cons rd_heaps (readsL_cons rd_boxes (readsL_nil _ _)))))))
  (fun p=>(⟨p.1,p.2.1,p.2.2.1,p.2.2.2.1,p.2.2.2.2.1⟩ : Chunk)) (fun _=>rfl) (fun _=>rfl) fun a h=>⟨h.1,h.2.1,h.2.2.1.1,h.2.2.1.2,h.2.2.2.1.1,h.2.2.2.1.2,h.2.2.2.2.1.1,h.2.2.2.2.1.2⟩
structure FitPlayer (p : Player) : Prop where
 id : fitI p.id
 x : fitI p.x
 y : fitI p.y
 bag : ∀ s ∈ p.bag,fitSlot s
 nb : p.bag.length * 16 ≤ 140737488351232
 wth : fitI p.wth
 offer : ∀ s ∈ p.offer,fitSlot s
 no : p.offer.length * 16 ≤ 140737488351232
theorem rd_bool : Reads Tryz.prog 4 1 (fun b : Bool=>[.lit (.bool b)]) (fun _=>True):=reads_bool boolUn (by kernel_rfl)
theorem playerUn : Tryz.prog.underlying 34 = some (.struct (Tryz.prog.fieldsOf 34)):=by kernel_rfl
theorem rd_player : Reads Tryz.prog 34 7 (cells .player) FitPlayer:=
 reads_map (reads_structL playerUn (by kernel_rfl) (by kernel_rfl) (readsL_cons rd_int (readsL_cons rd_int (readsL_cons rd_int (readsL_cons rd_slots (readsL_cons rd_int (readsL_cons rd_slots (readsL_cons rd_bool (readsL_nil _ _)))))))))
  (fun p=>(⟨p.1,p.2.1,p.2.2.1,p.2.2.2.1,p.2.2.2.2.1,p.2.2.2.2.2.1,p.2.2.2.2.2.2.1⟩ : Player)) (fun _=>rfl) (fun _=>rfl) fun a h=>⟨h.1,h.2.1,h.2.2.1,h.2.2.2.1.1,h.2.2.2.1.2,h.2.2.2.2.1,h.2.2.2.2.2.1.1,h.2.2.2.2.2.1.2⟩
end Go.Proofs.YtaecchphjploaaaGreat
