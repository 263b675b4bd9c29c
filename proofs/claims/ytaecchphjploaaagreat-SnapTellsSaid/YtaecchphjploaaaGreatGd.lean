/- Contracts of items, bags, chunks; how types read. -/
import Derived.Test.YtaecchphjploaaaGreatGc
import Derived.Test.YtaecchphjploaaaGreatGb
import Derived.Test.YtaecchphjploaaaGreatRows
set_option linter.unusedSimpArgs false
set_option linter.unusedVariables false
set_option maxRecDepth 100000
set_option maxHeartbeats 16000000
namespace Go.Proofs.YtaecchphjploaaaGreat
open Go Go.RowKit Eng
def cfg : cG where
 ty:=fun e=>match e with
  | 5=>some .u8
  | 44=>some .u8
  | 3=>some .i64
  | 95=>some .slot
  | 97=>some .heap
  | 79=>some .box
  | 31=>some .chunk
  | 34=>some .player
  | 134=>some .seen
  | 63=>some .view
  | 105=>some .ints
  | _=>none
 eq:=fun t=>match t with
  | 95=>true
  | 97=>true
  | 134=>true
  | _=>false
 pk:=fun t=>match t with
  | 0=>none
  | _=>none
 fn:=fun f=>match f with
  | 0=>false
  | 1=>false
  | 2=>false
  | 143=>false
  | 147=>false
  | f=>Nat.blt f 195
 ov:=fun f=>match f with
  | 0=>false
  | 143=>true
  | 147=>true
  | _=>false
theorem yc {f : FuncId} {fn : Func} {t tR e : TypeId} {z : Nat} (hf : Tryz.prog.funcs[f]? = some fn) (hname : (fn.name == "runtime.NumGoroutine") = false) (hb : fn.body.isNone = true) (hn : Extern.findNext fn = none)
  (he : Extern.find fn = some (Extern.SlicesOverlaps.overlaps #[t,t] #[tR])) (ht : Tryz.prog.underlying t = some (.slice e)) (hz : bE Tryz.prog e = some z) :
  ∃ (t tR e : TypeId) (z : Nat),Tryz.prog.underlying t = some (.slice e) ∧ bE Tryz.prog e = some z ∧ ∀ (args : Array Value) (w : World),
   (callFunc f args).run Tryz.prog w = ((Extern.SlicesOverlaps.overlaps #[t,t] #[tR] args).run Tryz.prog w).andThen fun v w'=>.ok (.value v) w':=
 ⟨t,tR,e,z,ht,hz,fun args w=>run_callFunc_extern hf hname hb hn he args w⟩
theorem Bx {x y : Value} {xs ys : List Value} {b : Bool} (h : fL (x :: xs) (y :: ys) = some b) : ∃ p q,eqV x y = some p ∧ fL xs ys = some q ∧ b = (p && q):=by
 simp only [fL] at h
 cases h1 : eqV x y with
 | none=>rw [h1] at h;cases h
 | some p =>
  cases h2 : fL xs ys with
  | none=>rw [h1,h2] at h;cases h
  | some q=>rw [h1,h2] at h;exact ⟨p,q,rfl,rfl,by simpa using h.symm⟩
theorem E1 {x y : Value} {p : Bool} (h : eqV x y = some p) {P : Program} (d : Nat) {t : TypeId} {k : IntKind} (ht : P.underlying t = some (.int k)) (w : World) : (Op.equalIn (d + 1) t x y).run P w = .ok p w:=by
 unfold eqV at h
 split at h
 ·rename_i k1 a k2 b
  cases hk : kk k1 k2 with
  | false=>rw [hk] at h;cases h
  | true =>
   rw [hk] at h
   have:=Ef hk
   subst this
   cases h
   exact run_equalIn_int w d t k1 k a b ht
 ·cases h
theorem vF {P : Program} {t : TypeId} {k : IntKind} (ht : P.underlying t = some (.int k)) (w : World) (xs : Array Value) (i : Nat) (x : Value) (h : xs[i]? = some x) : (part t xs i).run P w = .ok x w:=by
 have ha : jk P t = some false:=by unfold jk;rw [ht]
 simp [part,fJ ha,h]
theorem qd {P : Program} {t : TypeId} (hu : P.underlying t = some (.struct (P.fieldsOf t))) (hp : P.stoodInHeld t = false) (w : World) (xs ys : Array Value) {r : Result Bool}
  (h : (Op.eqFields 9999 xs ys (P.fieldsOf t).toList).run P w = r) : (Op.equal t (.agg xs) (.agg ys)).run P w = r:=by
 unfold Op.equal Op.maxDepth
 rw [run_equalIn_struct w 9999 t xs ys hu hp];exact h
theorem fl {P : Program} {f : Field} {fs : List Field} {k : IntKind} (d : Nat) (hn : f.name ≠ "_") (ht : P.underlying f.type = some (.int k)) {xs ys : Array Value} {x y : Value} (hx : xs[f.offset]? = some x) (hy : ys[f.offset]? = some y)
  {p q : Bool} (hp : eqV x y = some p) {w : World} (hq : (Op.eqFields (d + 1) xs ys fs).run P w = .ok q w) : (Op.eqFields (d + 1) xs ys (f :: fs)).run P w = .ok (p && q) w:=by
 simp only [Op.eqFields,ne_eq,hn,not_false_eq_true,if_true,Sem.run_bind,vF ht w xs _ x hx,vF ht w ys _ y hy,Result.andThen_ok,E1 hp d ht w]
 cases p with
 | true=>simpa using hq
 | false=>simp
theorem Gx {xs : List Value} (h : some 2 = some xs.length) : ∃ x y,xs = [x,y]:=by
 match xs,h with
 | [x,y],_=>exact ⟨x,y,rfl⟩
theorem FJ {xs : List Value} (h : some 3 = some xs.length) : ∃ x y z,xs = [x,y,z]:=by
 match xs,h with
 | [x,y,z],_=>exact ⟨x,y,z,rfl⟩
theorem qe {ys : List Value} {b : Bool} (h : fL [] ys = some b) : ys = [] ∧ b = true:=by
 cases ys with
 | nil=>exact ⟨rfl,by simpa [fL] using h.symm⟩
 | cons y ys=>simp [fL] at h
theorem dW {x : Value} {xs ys : List Value} {b : Bool} (h : fL (x :: xs) ys = some b) : ∃ y ys' p q,ys = y :: ys' ∧ eqV x y = some p ∧ fL xs ys' = some q ∧ b = (p && q):=by
 cases ys with
 | nil=>simp [fL] at h
 | cons y ys=>obtain ⟨p,q,h1,h2,h3⟩:=Bx h;exact ⟨y,ys,p,q,rfl,h1,h2,h3⟩
theorem zI : ∃ f0 f1 : Field, (Tryz.prog.fieldsOf 95).toList = [f0, f1] ∧ f0.name = "Item" ∧ f0.type = 44 ∧ f0.offset = 0 ∧ f1.name = "N" ∧ f1.type = 3 ∧ f1.offset = 1 :=
 ⟨⟨"Item", 44, 0, false, "", "", 0⟩, ⟨"N", 3, 1, false, "", "", 8⟩, by kernel_rfl, rfl, rfl, rfl, rfl, rfl, rfl⟩
theorem zJ : ∃ f0 f1 : Field, (Tryz.prog.fieldsOf 97).toList = [f0, f1] ∧ f0.name = "Cell" ∧ f0.type = 3 ∧ f0.offset = 0 ∧ f1.name = "Slot" ∧ f1.type = 95 ∧ f1.offset = 1 :=
 ⟨⟨"Cell", 3, 0, false, "", "", 0⟩, ⟨"Slot", 95, 1, false, "", "", 8⟩, by kernel_rfl, rfl, rfl, rfl, rfl, rfl, rfl⟩
theorem vG : Tryz.prog.underlying 95 = some (.struct (Tryz.prog.fieldsOf 95)):=by kernel_rfl
theorem Bz : Tryz.prog.stoodInHeld 95 = false:=by kernel_rfl
theorem o_ : Tryz.prog.underlying 3 = some (.int .i64):=by kernel_rfl
theorem BA : Tryz.prog.underlying 44 = some (.int .u8):=by kernel_rfl
theorem BC (d : Nat) (w : World) (x0 x1 y0 y1 : Value) {p q : Bool} (h0 : eqV x0 y0 = some p) (h1 : eqV x1 y1 = some q) :
  (Op.eqFields (d + 1) #[x0,x1] #[y0,y1] (Tryz.prog.fieldsOf 95).toList).run Tryz.prog w = .ok (p && (q && true)) w:=by
 obtain ⟨f0,f1,hf,n0,t0,o0,n1,t1,o1⟩:=zI
 rw [hf]
 refine fl (k:=.u8) d (by rw [n0];decide) (by rw [t0];exact BA) (by rw [o0];rfl) (by rw [o0];rfl) h0 ?_
 refine fl (k:=.i64) d (by rw [n1];decide) (by rw [t1];exact o_) (by rw [o1];rfl) (by rw [o1];rfl) h1 ?_
 rfl
theorem FK (w : World) (x0 x1 x2 y0 y1 y2 : Value) {p q r : Bool} (h0 : eqV x0 y0 = some p) (h1 : eqV x1 y1 = some q) (h2 : eqV x2 y2 = some r) :
  (Op.eqFields 9999 #[x0,x1,x2] #[y0,y1,y2] (Tryz.prog.fieldsOf 97).toList).run Tryz.prog w = .ok (p && (q && (r && true))) w:=by
 obtain ⟨f0,f1,hf,n0,t0,o0,n1,t1,o1⟩:=zJ
 rw [hf]
 refine fl (k:=.i64) 9998 (by rw [n0];decide) (by rw [t0];exact o_) (by rw [o0];rfl) (by rw [o0];rfl) h0 ?_
 have hn : f1.name ≠ "_" := by rw [n1]; decide
 have ha : jk Tryz.prog f1.type = some true:=by rw [t1];kernel_rfl
 have hs : bE Tryz.prog f1.type = some 2:=by rw [t1];kernel_rfl
 have px : (part f1.type #[x0,x1,x2] f1.offset).run Tryz.prog w = .ok (.agg #[x1,x2]) w:=by rw [o1];simp [part,fJ ha,Eng.run_sizeOf hs]
 have py : (part f1.type #[y0,y1,y2] f1.offset).run Tryz.prog w = .ok (.agg #[y1,y2]) w:=by rw [o1];simp [part,fJ ha,Eng.run_sizeOf hs]
 have e : (Op.equalIn 9999 f1.type (.agg #[x1,x2]) (.agg #[y1,y2])).run Tryz.prog w = .ok (q && (r && true)) w:=by
  rw [t1,run_equalIn_struct w 9998 _ _ _ vG Bz]
  exact BC 9997 w x1 x2 y1 y2 h1 h2
 simp only [Op.eqFields,ne_eq,hn,not_false_eq_true,if_true,Sem.run_bind,px,py,Result.andThen_ok,e]
 cases q<;>cases r<;>simp
theorem zK : ∃ f0 f1 f2 : Field, (Tryz.prog.fieldsOf 134).toList = [f0, f1, f2] ∧ f0.name = "Id" ∧ f0.type = 3 ∧ f0.offset = 0 ∧ f1.name = "X" ∧ f1.type = 3 ∧ f1.offset = 1 ∧ f2.name = "Y" ∧ f2.type = 3 ∧ f2.offset = 2 :=
 ⟨⟨"Id", 3, 0, false, "", "", 0⟩, ⟨"X", 3, 1, false, "", "", 8⟩, ⟨"Y", 3, 2, false, "", "", 16⟩, by kernel_rfl, rfl, rfl, rfl, rfl, rfl, rfl, rfl, rfl, rfl⟩
theorem FL (w : World) (x0 x1 x2 y0 y1 y2 : Value) {p q r : Bool} (h0 : eqV x0 y0 = some p) (h1 : eqV x1 y1 = some q) (h2 : eqV x2 y2 = some r) :
  (Op.eqFields 9999 #[x0,x1,x2] #[y0,y1,y2] (Tryz.prog.fieldsOf 134).toList).run Tryz.prog w = .ok (p && (q && (r && true))) w:=by
 obtain ⟨f0,f1,f2,hf,n0,t0,o0,n1,t1,o1,n2,t2,o2⟩:=zK
 rw [hf]
 refine fl (k:=.i64) 9998 (by rw [n0];decide) (by rw [t0];exact o_) (by rw [o0];rfl) (by rw [o0];rfl) h0 ?_
 refine fl (k:=.i64) 9998 (by rw [n1];decide) (by rw [t1];exact o_) (by rw [o1];rfl) (by rw [o1];rfl) h1 ?_
 refine fl (k:=.i64) 9998 (by rw [n2];decide) (by rw [t2];exact o_) (by rw [o2];rfl) (by rw [o2];rfl) h2 ?_
 rfl
theorem E2 (w : World) (xs ys : List Value) (b : Bool) (hb : fL xs ys = some b) (hl : bE Tryz.prog 134 = some xs.length) : (Op.equal 134 (.agg ⟨xs⟩) (.agg ⟨ys⟩)).run Tryz.prog w = .ok b w:=by
 have hl' : bE Tryz.prog 134 = some 3:=by kernel_rfl
 rw [hl'] at hl
 obtain ⟨x0,x1,x2,rfl⟩:=FJ hl
 obtain ⟨y0,ys0,p,q,rfl,h0,hb0,rfl⟩:=dW hb
 obtain ⟨y1,ys1,p1,q1,rfl,h1,hb1,rfl⟩:=dW hb0
 obtain ⟨y2,ys2,p2,q2,rfl,h2,hb2,rfl⟩:=dW hb1
 obtain ⟨rfl,rfl⟩:=qe hb2
 exact qd (by kernel_rfl) (by kernel_rfl) w _ _ (FL w x0 x1 x2 y0 y1 y2 h0 h1 h2)
theorem Du : (List.range 195).all (fun f => !(cfg.fn f) || match Tryz.prog.funcs[f]? with | some fn => !(fn.name == "runtime.NumGoroutine") && fn.body.isSome | none => false) = true := by kernel_rfl
theorem FM {f : Nat} (h : cfg.fn f = true) : f < 195:=by
 simp only [cfg] at h
 split at h<;>first|(cases h;done)|exact Nat.le_of_ble_eq_true h
theorem aa : cD Tryz.prog cfg where
 mixed:=by kernel_rfl
 zr:=by
  intro e t h
  simp only [cfg] at h
  split at h<;>first|(cases h;kernel_rfl)|(cases h;done)
 sz:=by
  intro e t h
  simp only [cfg] at h
  split at h<;>first|(cases h;exact ⟨by kernel_rfl,by kernel_rfl⟩)|(cases h;done)
 pk:=by
  intro t ik h
  simp only [cfg] at h
  split at h
  ·cases h
  ·cases h
 eq:=by
  intro t h
  simp only [cfg] at h
  split at h
  ·refine ⟨by kernel_rfl,fun w xs ys b hb hl=>?_⟩
   have hl' : bE Tryz.prog 95 = some 2:=by kernel_rfl
   rw [hl'] at hl
   obtain ⟨x0,x1,rfl⟩:=Gx hl
   obtain ⟨y0,ys0,p,q,rfl,h0,hb0,rfl⟩:=dW hb
   obtain ⟨y1,ys1,p1,q1,rfl,h1,hb1,rfl⟩:=dW hb0
   obtain ⟨rfl,rfl⟩:=qe hb1
   exact qd vG Bz w _ _ (BC 9998 w x0 x1 y0 y1 h0 h1)
  ·refine ⟨by kernel_rfl,fun w xs ys b hb hl=>?_⟩
   have hl' : bE Tryz.prog 97 = some 3:=by kernel_rfl
   rw [hl'] at hl
   obtain ⟨x0,x1,x2,rfl⟩:=FJ hl
   obtain ⟨y0,ys0,p,q,rfl,h0,hb0,rfl⟩:=dW hb
   obtain ⟨y1,ys1,p1,q1,rfl,h1,hb1,rfl⟩:=dW hb0
   obtain ⟨y2,ys2,p2,q2,rfl,h2,hb2,rfl⟩:=dW hb1
   obtain ⟨rfl,rfl⟩:=qe hb2
   exact qd (by kernel_rfl) (by kernel_rfl) w _ _ (FK w x0 x1 x2 y0 y1 y2 h0 h1 h2)
  ·exact ⟨by kernel_rfl,fun w xs ys b hb hl=>E2 w xs ys b hb hl⟩
  ·cases h
 call:=by
  intro f hf args w
  have h:=Du
  have:=List.all_eq_true.1 h f (List.mem_range.2 (FM hf))
  rw [hf] at this
  simp only [Bool.not_true,Bool.false_or] at this
  cases hfn : Tryz.prog.funcs[f]? with
  | none=>rw [hfn] at this;cases this
  | some fn =>
   rw [hfn] at this
   simp only [Bool.and_eq_true,Bool.not_eq_true'] at this
   have hn : fn.name ≠ "runtime.NumGoroutine" := by have h1 := this.1; simpa using h1
   have hb : fn.body ≠ none:=by intro e;have h2:=this.2;rw [e] at h2;cases h2
   simp [callFunc,hfn,hn,hb]
 over:=by
  intro f hf
  simp only [cfg] at hf
  split at hf
  ·cases hf
  ·exact yc (fn:=Tryz.f143) (t:=23) (tR:=4) (e:=31) (z:=5) Tryz.func143 (by kernel_rfl) (by kernel_rfl) (by kernel_rfl) (by kernel_rfl) (by kernel_rfl) (by kernel_rfl)
  ·exact yc (fn:=Tryz.f147) (t:=24) (tR:=4) (e:=34) (z:=7) Tryz.func147 (by kernel_rfl) (by kernel_rfl) (by kernel_rfl) (by kernel_rfl) (by kernel_rfl) (by kernel_rfl)
  ·cases hf
theorem aF {fid : FuncId} {fn : Func} (hf : Tryz.prog.funcs[fid]? = some fn) (nt : Nat) {c : Code} {args : List AV} {v : AV} (h : ev Tryz.prog cfg 0 c (uC Tryz.prog 0 fn.results.toList v []) (args ++ dj nt) []) (hb : fn.body = some c:=by exact rfl) (hn : fn.ntmps - args.length = nt:=by exact rfl) (hv : scA 0 v = true:=by exact rfl) : Api Tryz.prog fid args v:=Api.of_fin aa hf hb hn hv h
theorem eF {fid : FuncId} {fn : Func} (hf : Tryz.prog.funcs[fid]? = some fn) (nt : Nat) {c : Code} {args : List AV} {m0 m1 : Mem} {v : AV} (h : ev Tryz.prog cfg L c (uC Tryz.prog L fn.results.toList v m1) (args ++ dj nt) m0) (hb : fn.body = some c:=by exact rfl) (hn : fn.ntmps - args.length = nt:=by exact rfl) (hv : scA L v = true:=by exact rfl) (hm : scM L m1 = true:=by exact rfl) : Ev1 Tryz.prog fid args m0 v m1:=Ev1.of_fin aa hf hb hn hv hm h
open Go Go.RowKit Eng
def cO (i : Int) : Int:=if i < 1 then 0 else if i = 9 then 4 else if i = 12 then 1 else if i ≤ 12 then 16 else 0
def eY (i : Int) : Bool:=decide (1 ≤ i) && decide (i ≤ 10) && !(decide (i = 6)) && !(decide (i = 8))
theorem Eh {i : Int} (h0 : 0 ≤ i) (h : i < 13) : i = 0 ∨ i = 1 ∨ i = 2 ∨ i = 3 ∨ i = 4 ∨ i = 5 ∨ i = 6 ∨ i = 7 ∨ i = 8 ∨ i = 9 ∨ i = 10 ∨ i = 11 ∨ i = 12:=by omega
theorem qS (s : ByteArray) (n : Int) (b : AV) (hb : b = .tt ∨ b = .ff) (g : Int) : Api Tryz.prog 191 [.agg [.lit (.string s),.lit (.int .i64 n),b,.lit (.int .u8 g)]] (.lit (.int .i64 n)):=by
 rcases hb with rfl|rfl
 all_goals
  refine Api.of_ev aa Tryz.func191 rfl (nt:=4) rfl ?_
  conv=>whnf
  exact ⟨Le.refl _,rfl⟩
theorem FN (i : Int) (h : 13 ≤ i) (h2 : i ≤ 255) : Api Tryz.prog 190 [.lit (.int .u8 i),.lit (.func (.func 191) #[] #[])] (.lit (.int .i64 0)):=by
 refine Api.of_ev aa Tryz.func190 rfl (nt:=29) rfl ?_
 conv=>whnf
 refine .inl ⟨pV (by omega) (by omega),?_⟩
 conv=>whnf
 refine ⟨fun h=>?_,fun h=>absurd h (by simp;omega)⟩
 conv=>whnf
 refine mi (qS _ _ _ (.inr rfl) _) rfl rfl ?_
 conv=>whnf
 exact ⟨Le.refl _,rfl⟩
theorem FO (i : Int) (h : 0 ≤ i) (h2 : i < 13) : Api Tryz.prog 190 [.lit (.int .u8 i),.lit (.func (.func 191) #[] #[])] (.lit (.int .i64 (cO i))):=by
 rcases Eh h h2 with rfl|rfl|rfl|rfl|rfl|rfl|rfl|rfl|rfl|rfl|rfl|rfl|rfl
 all_goals
  refine Api.of_ev aa Tryz.func190 rfl (nt:=29) rfl ?_
  conv=>whnf
  refine .inl ⟨pV (by omega) (by omega),?_⟩
  conv=>whnf
  refine ⟨fun h=>absurd h (by decide),fun h=>?_⟩
  conv=>whnf
  refine ⟨⟨by decide,by decide⟩,?_⟩
  conv=>whnf
  refine mi (qS _ _ _ (by first|exact .inl rfl|exact .inr rfl) _) rfl rfl ?_
  conv=>whnf
  exact ⟨Le.refl _,rfl⟩
theorem ln (i : Int) (h : 0 ≤ i) (h2 : i ≤ 255) : Api Tryz.prog 174 [.lit (.int .u8 i)] (.lit (.int .i64 (cO i))):=by
 refine Api.of_ev aa Tryz.func174 rfl (nt:=4) rfl ?_
 conv=>whnf
 by_cases h3 : i < 13
 ·refine mi (FO i h h3) rfl rfl ?_
  conv=>whnf
  exact ⟨Le.refl _,rfl⟩
 ·refine mi (FN i (by omega) h2) rfl rfl ?_
  conv=>whnf
  refine ⟨Le.int ?_,rfl⟩
  unfold cO
  rw [if_neg (by omega),if_neg (by omega),if_neg (by omega),if_neg (by omega)]
open Go Go.RowKit Eng
theorem s7 (s : ByteArray) (n : Int) (g : Int) : Api Tryz.prog 171 [.agg [.lit (.string s),.lit (.int .i64 n),.tt,.lit (.int .u8 g)]] (bol true):=by
 refine aF Tryz.func171 4 ?_
 exact fD0
theorem lp (s : ByteArray) (n : Int) (g : Int) : Api Tryz.prog 171 [.agg [.lit (.string s),.lit (.int .i64 n),.ff,.lit (.int .u8 g)]] (bol false):=by
 refine aF Tryz.func171 4 ?_
 exact fD0
theorem BD (i : Int) (h : 13 ≤ i) (h2 : i ≤ 255) : Api Tryz.prog 170 [.lit (.int .u8 i),.lit (.func (.func 171) #[] #[])] (bol false):=by
 refine aF Tryz.func170 29 ?_
 conv=>whnf
 repeat' (first|exact trivial|((first|refine kL ?_|(refine ⟨fun hb=>?_,fun hb=>?_⟩<;>(try simp only [nrm] at hb)<;>try exact kZ hb)|(refine isE 171 ?_;refine kA (lp _ _ _) ?_)|(refine isD 171 ?_;refine kD (lp _ _ _) ?_)|refine kV ?_)<;>(conv=>whnf))|refine kY ?_ ?_)
theorem BE (i : Int) (h : 0 ≤ i) (h2 : i < 13) : Api Tryz.prog 170 [.lit (.int .u8 i),.lit (.func (.func 171) #[] #[])] (bol (eY i)):=by
 rcases Eh h h2 with rfl|rfl|rfl|rfl|rfl|rfl|rfl|rfl|rfl|rfl|rfl|rfl|rfl
 all_goals
  refine aF Tryz.func170 29 ?_
  conv=>whnf
  repeat' (first|exact trivial|((first|refine kL ?_|(refine ⟨fun hb=>?_,fun hb=>?_⟩<;>(try simp only [nrm] at hb)<;>try exact kZ hb)|(refine ⟨⟨by decide,by decide⟩,?_⟩)|(refine isE 171 ?_;refine kA (lp _ _ _) ?_)|(refine isD 171 ?_;refine kD (lp _ _ _) ?_)|(refine isE 171 ?_;refine kA (s7 _ _ _) ?_)|(refine isD 171 ?_;refine kD (s7 _ _ _) ?_)|refine kV ?_)<;>(conv=>whnf))|refine kY ?_ ?_)
theorem BF {i : Int} (h : 13 ≤ i) : eY i = false:=by
 unfold eY
 rw [decide_eq_false (by omega : ¬ i ≤ 10)]
 simp
theorem lq (i : Int) (h : 0 ≤ i) (h2 : i ≤ 255) : Api Tryz.prog 127 [.lit (.int .u8 i)] (bol (eY i)):=by
 by_cases h3 : i < 13
 ·refine aF Tryz.func127 4 ?_
  conv=>whnf
  repeat' (first|exact trivial|((first|refine kL ?_|(refine ⟨fun hb=>?_,fun hb=>?_⟩<;>(try simp only [nrm] at hb)<;>try exact kZ hb)|(refine isE 170 ?_;refine kA (BE i h h3) ?_)|(refine isD 170 ?_;refine kD (BE i h h3) ?_)|refine kV ?_)<;>(conv=>whnf))|refine kY ?_ ?_)
 ·refine aF Tryz.func127 4 ?_
  rw [BF (by omega)]
  conv=>whnf
  repeat' (first|exact trivial|((first|refine kL ?_|(refine ⟨fun hb=>?_,fun hb=>?_⟩<;>(try simp only [nrm] at hb)<;>try exact kZ hb)|(refine isE 170 ?_;refine kA (BD i (by omega) h2) ?_)|(refine isD 170 ?_;refine kD (BD i (by omega) h2) ?_)|refine kV ?_)<;>(conv=>whnf))|refine kY ?_ ?_)
open Go Go.RowKit Eng
def big : Nat:=9000000000000000000
theorem ay {t : Ty} {l : List (El t)} {i : Nat} (h : i < l.length) : elt t l i ∈ l:=List.mem_of_getElem? (aL t l i h)
theorem fQ {t : Ty} {l : List (El t)} {i : Int} (h0 : 0 ≤ i) (h : i < l.length) : elt t l i.toNat ∈ l:=ay (by omega)
theorem bJ {t : Ty} {l : List (El t)} {i : Nat} (h : i < l.length) : l.drop i = elt t l i :: l.drop (i + 1):=by
 rw [List.drop_eq_getElem_cons h]
 have e:=aL t l i h
 rw [List.getElem?_eq_getElem h] at e
 rw [Option.some.inj e]
def am {α : Type} (p : α → Bool) : List α → Nat → Int
 | [],_=>-1
 | a :: r,i=>if p a then (i : Int) else am p r (i + 1)
theorem jn {α : Type} (p : α → Bool) (l : List α) (i : Nat) : decide (0 ≤ am p l i) = l.any p:=by
 induction l generalizing i with
 | nil=>simp [am]
 | cons a r ih =>
  simp only [am,List.any_cons]
  by_cases h : p a = true
  ·simp [h]
  ·simp [h,ih]
def bP (s : aG) : Prop:=0 ≤ s.item ∧ s.item ≤ 255
def cZ (s : aG) : Bool:=!(s.item == 0 && s.n == 0) && (decide (s.n < 1) || decide (cO s.item < s.n))
def cn (l : List aG) : Bool:=!l.any cZ
def fR (a b : aG) : Bool:=(a.item == b.item) && (a.n == b.n)
def dG (a b : List aG) : Bool:=a.length == b.length && (List.range a.length).all fun i=>fR (elt .slot a i) (elt .slot b i)
theorem qT (s : aG) (h : bP s) : Api Tryz.prog 189 [.agg [.lit (.int .u8 s.item),.lit (.int .i64 s.n)]] (bol (cZ s)):=by
 refine aF Tryz.func189 18 ?_
 conv=>whnf
 repeat' (first|exact trivial|((first|refine kL ?_|(refine ⟨fun hb=>?_,fun hb=>?_⟩<;>(try simp only [nrm] at hb)<;>try exact kZ hb)|(refine isE 174 ?_;refine kA (ln _ h.1 h.2) ?_)|(refine isD 174 ?_;refine kD (ln _ h.1 h.2) ?_)|refine kV ?_)<;>(conv=>whnf))|refine kY ?_ ?_)
 all_goals (refine congrArg Value.bool ?_;rw [Bool.eq_iff_iff];simp only [cZ,Bool.and_eq_true,Bool.or_eq_true,Bool.not_eq_true',Bool.and_eq_false_iff,Bool.or_eq_false_iff,decide_eq_true_eq,decide_eq_false_iff_not,beq_iff_eq,beq_eq_false_iff_ne,bne_iff_ne,ne_eq,Bool.false_eq_true,Int.toNat_natCast,eq_self,iff_true,true_iff,iff_false,false_iff,Bool.true_eq_false,not_and,Decidable.not_not,not_true_eq_false,not_false_eq_true];(first|done|omega|(simp_all;done)|(simp_all;omega)))
theorem s8 (l : List (El .slot)) (hl : l.length ≤ big) (hw : ∀ s ∈ l,bP s) : Api Tryz.prog 194 [.vec .slot l,.lit (.func (.func 189) #[] #[])] (i64 (am cZ l 0)):=by
 unfold big at hl
 refine aF Tryz.func194 17 ?_
 conv=>whnf
 refine aw.loopS aa (σ:=Nat) [0,1,7,8] (fun k=>[.vec .slot l,.lit (.func (.func 189) #[] #[]),i64 l.length,i64 k]) (fun _=>[]) (fun k=>k ≤ l.length ∧ am cZ (l.drop k) k = am cZ l 0) (fun k=>l.length - k) 0 ⟨by omega,rfl⟩ ?_ ?_
 ·exact fD0
 ·intro k ⟨hk,he⟩
  by_cases hlt : k < l.length
  ·rw [bJ hlt] at he
   simp only [am] at he
   conv=>whnf
   repeat' (first|exact trivial|((first|refine kL ?_|(refine ⟨fun hb=>?_,fun hb=>?_⟩<;>(try simp only [nrm] at hb)<;>try exact kZ hb)|(refine isE 189 ?_;refine kA (qT _ (hw _ (fQ (by omega) (by omega)))) ?_)|(refine isD 189 ?_;refine kD (qT _ (hw _ (fQ (by omega) (by omega)))) ?_)|refine kV ?_)<;>(conv=>whnf))|refine kY ?_ ?_)
   ·rw [← he,if_pos hb]
   ·refine .to (k + 1) ⟨hlt,?_⟩ (by omega) ?_
    ·rw [← he,if_neg (by simp [hb])]
    ·exact fD0
  ·conv=>whnf
   repeat' (first|exact trivial|((first|(refine ⟨fun hb=>?_,fun hb=>?_⟩<;>(try simp only [nrm] at hb)<;>try exact kZ hb)|refine kV ?_)<;>(conv=>whnf))|refine kY ?_ ?_)
   have : k = l.length:=by omega
   subst this
   simp only [List.drop_length,am] at he
   rw [← he]
theorem s9 (l : List (El .slot)) (hl : l.length ≤ big) (hw : ∀ s ∈ l,bP s) : Api Tryz.prog 188 [.vec .slot l,.lit (.func (.func 189) #[] #[])] (bol (l.any cZ)):=by
 refine aF Tryz.func188 7 ?_
 conv=>whnf
 repeat' (first|exact trivial|((first|refine kL ?_|(refine ⟨fun hb=>?_,fun hb=>?_⟩<;>(try simp only [nrm] at hb)<;>try exact kZ hb)|(refine isE 194 ?_;refine kA (s8 l hl hw) ?_)|(refine isD 194 ?_;refine kD (s8 l hl hw) ?_)|refine kV ?_)<;>(conv=>whnf))|refine kY ?_ ?_)
 rw [jn]
theorem s_ (l : List (El .slot)) (hl : l.length ≤ big) (hw : ∀ s ∈ l,bP s) : Api Tryz.prog 172 [.vec .slot l] (bol (cn l)):=by
 refine aF Tryz.func172 5 ?_
 conv=>whnf
 repeat' (first|exact trivial|((first|refine kL ?_|(refine ⟨fun hb=>?_,fun hb=>?_⟩<;>(try simp only [nrm] at hb)<;>try exact kZ hb)|(refine isE 188 ?_;refine kA (s9 l hl hw) ?_)|(refine isD 188 ?_;refine kD (s9 l hl hw) ?_)|refine kV ?_)<;>(conv=>whnf))|refine kY ?_ ?_)
 all_goals trace_state
theorem iz (l : List (El .slot)) (n : Int) (hl : l.length ≤ big) (hw : ∀ s ∈ l,bP s) : Api Tryz.prog 128 [.vec .slot l,i64 n] (bol (decide ((l.length : Int) = n) && cn l)):=by
 refine aF Tryz.func128 11 ?_
 conv=>whnf
 repeat' (first|exact trivial|((first|refine kL ?_|(refine ⟨fun hb=>?_,fun hb=>?_⟩<;>(try simp only [nrm] at hb)<;>try exact kZ hb)|(refine isE 172 ?_;refine kA (s_ l hl hw) ?_)|(refine isD 172 ?_;refine kD (s_ l hl hw) ?_)|refine kV ?_)<;>(conv=>whnf))|refine kY ?_ ?_)
 ·rw [decide_eq_true hb];rfl
 ·rw [decide_eq_false hb];rfl
theorem qU {a b : List aG} {k : Nat} (hk : k < a.length) (h : fR (elt .slot a k) (elt .slot b k) = false) : dG a b = false:=by
 unfold dG
 have : ((List.range a.length).all fun i=>fR (elt .slot a i) (elt .slot b i)) = false:=by
  rw [List.all_eq_false]
  exact ⟨k,List.mem_range.2 hk,by rw [h];simp⟩
 rw [this,Bool.and_false]
theorem iR {a b : List aG} (hl : a.length = b.length) (h : ∀ i < a.length,fR (elt .slot a i) (elt .slot b i) = true) : dG a b = true:=by
 unfold dG
 have : ((List.range a.length).all fun i=>fR (elt .slot a i) (elt .slot b i)) = true:=by
  rw [List.all_eq_true]
  exact fun k hk=>h k (List.mem_range.1 hk)
 rw [this,hl];simp
theorem dU (a b : List (El .slot)) (ha : a.length ≤ big) : Api Tryz.prog 67 [.vec .slot a,.vec .slot b] (bol (dG a b)):=by
 unfold big at ha
 refine aF Tryz.func67 24 ?_
 conv=>whnf
 repeat' (first|exact trivial|((first|(refine ⟨fun hb=>?_,fun hb=>?_⟩<;>(try simp only [nrm] at hb)<;>try exact kZ hb)|refine kV ?_)<;>(conv=>whnf))|refine kY ?_ ?_)
 ·rw [show dG a b = false by unfold dG;rw [show (a.length == b.length) = false by simp;omega];rfl]
 ·refine aw.loopS aa (σ:=Nat) [0,1,12,13] (fun k=>[.vec .slot a,.vec .slot b,i64 a.length,i64 k]) (fun _=>[]) (fun k=>k ≤ a.length ∧ ∀ i < k,fR (elt .slot a i) (elt .slot b i) = true) (fun k=>a.length - k) 0 ⟨by omega,by omega⟩ ?_ ?_
  ·exact fD0
  ·intro k ⟨hk,he⟩
   conv=>whnf
   repeat' (first|exact trivial|((first|(refine ⟨fun hb=>?_,fun hb=>?_⟩<;>(try simp only [nrm] at hb)<;>try exact kZ hb)|refine kV ?_)<;>(conv=>whnf))|refine kY ?_ ?_)
   ·rw [qU (by omega : k < a.length) (by simp only [fR,Bool.and_eq_false_iff,beq_eq_false_iff_ne];exact hb)]
   ·refine .to (k + 1) ⟨by omega,fun i hi=>?_⟩ (by omega) ?_
    ·by_cases hik : i = k
     ·subst hik;simpa [fR] using hb
     ·exact he i (by omega)
    ·exact fD0
   ·rw [iR (by omega) (fun i hi=>he i (by omega))]
theorem E3 (n : Int) (h : 0 ≤ n) (h2 : n ≤ 64) : Api Tryz.prog 93 [i64 n] (.vec .slot (List.replicate n.toNat ⟨0,0⟩)):=by
 refine aF Tryz.func93 6 ?_
 conv=>whnf
 repeat' (first|exact trivial|((first|(refine ⟨fun hb=>?_,fun hb=>?_⟩<;>(try simp only [nrm] at hb)<;>try exact kZ hb)|refine kV ?_)<;>(conv=>whnf))|refine kY ?_ ?_)
 have e : min (max n 0) 64 = n:=by omega
 rw [e]
 simp [fz]
open Go Go.RowKit Eng
theorem qV (n : Int) : Api Tryz.prog 131 [i64 n] (bol (decide (0 ≤ n) && decide (n < 64))):=by
 refine aF Tryz.func131 8 ?_
 conv=>whnf
 repeat' (first|exact trivial|((first|(refine ⟨fun hb=>?_,fun hb=>?_⟩<;>(try simp only [nrm] at hb)<;>try exact kZ hb)|refine kV ?_)<;>(conv=>whnf))|refine kY ?_ ?_)
 all_goals (refine congrArg Value.bool ?_;rw [Bool.eq_iff_iff];simp only [cZ,Bool.and_eq_true,Bool.or_eq_true,Bool.not_eq_true',Bool.and_eq_false_iff,Bool.or_eq_false_iff,decide_eq_true_eq,decide_eq_false_iff_not,beq_iff_eq,beq_eq_false_iff_ne,bne_iff_ne,ne_eq,Bool.false_eq_true,Int.toNat_natCast,eq_self,iff_true,true_iff,iff_false,false_iff,Bool.true_eq_false,not_and,Decidable.not_not,not_true_eq_false,not_false_eq_true];(first|done|omega|(simp_all;done)|(simp_all;omega)))
def iA (s : aG) : Bool:=decide (1 ≤ s.n) && decide (s.n ≤ cO s.item)
theorem vH (s : aG) (h : bP s) : Api Tryz.prog 132 [.agg [.lit (.int .u8 s.item),.lit (.int .i64 s.n)]] (bol (iA s)):=by
 refine aF Tryz.func132 13 ?_
 conv=>whnf
 repeat' (first|exact trivial|((first|refine kL ?_|(refine ⟨fun hb=>?_,fun hb=>?_⟩<;>(try simp only [nrm] at hb)<;>try exact kZ hb)|(refine isE 174 ?_;refine kA (ln _ h.1 h.2) ?_)|(refine isD 174 ?_;refine kD (ln _ h.1 h.2) ?_)|refine kV ?_)<;>(conv=>whnf))|refine kY ?_ ?_)
 all_goals (refine congrArg Value.bool ?_;rw [Bool.eq_iff_iff];simp only [iA,Bool.and_eq_true,Bool.or_eq_true,Bool.not_eq_true',Bool.and_eq_false_iff,Bool.or_eq_false_iff,decide_eq_true_eq,decide_eq_false_iff_not,beq_iff_eq,beq_eq_false_iff_ne,bne_iff_ne,ne_eq,Bool.false_eq_true,Int.toNat_natCast,eq_self,iff_true,true_iff,iff_false,false_iff,Bool.true_eq_false,not_and,Decidable.not_not,not_true_eq_false,not_false_eq_true];(first|done|omega|(simp_all;done)|(simp_all;omega)))
def mq (h : c_) : Prop:=bP h.slot
def cm (h : c_) : Bool:=!(decide (0 ≤ h.cell) && decide (h.cell < 64)) || !iA h.slot
theorem pr (h : c_) (hk : mq h) : Api Tryz.prog 130 [.agg [.lit (.int .i64 h.cell),.lit (.int .u8 h.slot.item),.lit (.int .i64 h.slot.n)]] (bol (cm h)):=by
 refine aF Tryz.func130 12 ?_
 conv=>whnf
 repeat' (first|exact trivial|((first|refine kL ?_|(refine ⟨fun hb=>?_,fun hb=>?_⟩<;>(try simp only [nrm] at hb)<;>try exact kZ hb)|(refine isE 131 ?_;refine kA (qV _) ?_)|(refine isD 131 ?_;refine kD (qV _) ?_)|(refine isE 132 ?_;refine kA (vH _ hk) ?_)|(refine isD 132 ?_;refine kD (vH _ hk) ?_)|refine kV ?_)<;>(conv=>whnf))|refine kY ?_ ?_)
 all_goals (refine congrArg Value.bool ?_;rw [Bool.eq_iff_iff];simp only [cm,Bool.and_eq_true,Bool.or_eq_true,Bool.not_eq_true',Bool.and_eq_false_iff,Bool.or_eq_false_iff,decide_eq_true_eq,decide_eq_false_iff_not,beq_iff_eq,beq_eq_false_iff_ne,bne_iff_ne,ne_eq,Bool.false_eq_true,Int.toNat_natCast,eq_self,iff_true,true_iff,iff_false,false_iff,Bool.true_eq_false,not_and,Decidable.not_not,not_true_eq_false,not_false_eq_true];(first|done|omega|(simp_all;done)|(simp_all;omega)))
theorem vI (l : List (El .heap)) (hl : l.length ≤ big) (hw : ∀ s ∈ l,mq s) : Api Tryz.prog 173 [.vec .heap l,.lit (.func (.func 130) #[] #[])] (i64 (am cm l 0)):=by
 unfold big at hl
 refine aF Tryz.func173 17 ?_
 conv=>whnf
 refine aw.loopS aa (σ:=Nat) [0,1,7,8] (fun k=>[.vec .heap l,.lit (.func (.func 130) #[] #[]),i64 l.length,i64 k]) (fun _=>[]) (fun k=>k ≤ l.length ∧ am cm (l.drop k) k = am cm l 0) (fun k=>l.length - k) 0 ⟨by omega,rfl⟩ ?_ ?_
 ·exact fD0
 ·intro k ⟨hk,he⟩
  by_cases hlt : k < l.length
  ·rw [bJ hlt] at he
   simp only [am] at he
   conv=>whnf
   repeat' (first|exact trivial|((first|refine kL ?_|(refine ⟨fun hb=>?_,fun hb=>?_⟩<;>(try simp only [nrm] at hb)<;>try exact kZ hb)|(refine isE 130 ?_;refine kA (pr _ (hw _ (fQ (by omega) (by omega)))) ?_)|(refine isD 130 ?_;refine kD (pr _ (hw _ (fQ (by omega) (by omega)))) ?_)|refine kV ?_)<;>(conv=>whnf))|refine kY ?_ ?_)
   ·simp only [cm,Bool.and_eq_true,Bool.or_eq_true,Bool.not_eq_true',Bool.and_eq_false_iff,Bool.or_eq_false_iff,decide_eq_true_eq,decide_eq_false_iff_not] at hb he
    rw [← he,if_pos hb]
   ·simp only [cm,Bool.and_eq_true,Bool.or_eq_true,Bool.not_eq_true',Bool.and_eq_false_iff,Bool.or_eq_false_iff,decide_eq_true_eq,decide_eq_false_iff_not] at hb
    refine .to (k + 1) ⟨hlt,?_⟩ (by omega) ?_
    ·rw [← he,if_neg (by simp only [cm,Bool.and_eq_true,Bool.or_eq_true,Bool.not_eq_true',Bool.and_eq_false_iff,Bool.or_eq_false_iff,decide_eq_true_eq,decide_eq_false_iff_not];first|omega|(simp [hb];done)|(simp_all;done))]
    ·exact fD0
  ·conv=>whnf
   repeat' (first|exact trivial|((first|(refine ⟨fun hb=>?_,fun hb=>?_⟩<;>(try simp only [nrm] at hb)<;>try exact kZ hb)|refine kV ?_)<;>(conv=>whnf))|refine kY ?_ ?_)
   have : k = l.length:=by omega
   subst this
   simp only [List.drop_length,am] at he
   rw [← he]
theorem vJ (l : List (El .heap)) (hl : l.length ≤ big) (hw : ∀ s ∈ l,mq s) : Api Tryz.prog 129 [.vec .heap l,.lit (.func (.func 130) #[] #[])] (bol (l.any cm)):=by
 refine aF Tryz.func129 7 ?_
 conv=>whnf
 repeat' (first|exact trivial|((first|refine kL ?_|(refine ⟨fun hb=>?_,fun hb=>?_⟩<;>(try simp only [nrm] at hb)<;>try exact kZ hb)|(refine isE 173 ?_;refine kA (vI l hl hw) ?_)|(refine isD 173 ?_;refine kD (vI l hl hw) ?_)|refine kV ?_)<;>(conv=>whnf))|refine kY ?_ ?_)
 rw [jn]
open Go Go.RowKit Eng
def uc (b : Box) : Prop:=(∀ s ∈ b.bag,bP s) ∧ b.bag.length ≤ big
structure OkC (c : Chunk) : Prop where
 cells : ∀ i ∈ c.cells,0 ≤ i ∧ i ≤ 255
 heaps : ∀ h ∈ c.heaps,mq h
 boxes : ∀ b ∈ c.boxes,uc b
 nc : c.cells.length ≤ big
 nh : c.heaps.length ≤ big
 nb : c.boxes.length ≤ big
def dz (i : Int) : Bool:=(i == 0) || eY i
def d9 (b : Box) (k : Int) : Bool:=(b.cell == k) && (decide ((b.bag.length : Int) = 6) && cn b.bag)
def bC : List Int → Nat → List Box → Option (List Box)
 | [],_,bs=>some bs
 | i :: r,k,bs=>if dz i then (if i = 9 then (match bs with
  | []=>none
  | b :: bs=>if d9 b k then bC r (k + 1) bs else none) else bC r (k + 1) bs) else none
def da (c : Chunk) : Bool:=decide (0 ≤ c.x) && (decide (0 ≤ c.y) && (decide (c.x < 16) && (decide (c.y < 16) && (decide ((c.cells.length : Int) = 64) && decide ((c.heaps.length : Int) ≤ 32)))))
def ar (c : Chunk) : Bool:=da c && (match bC c.cells 0 c.boxes with
 | some []=>!(c.heaps.any cm)
 | _=>false)
theorem fp {c : Chunk} (h : bC c.cells 0 c.boxes = none) : ar c = false:=by unfold ar;rw [h,Bool.and_false]
theorem pt {c : Chunk} (h : da c = false) : ar c = false:=by unfold ar;rw [h,Bool.false_and]
abbrev bj (c : Chunk) : List AV:=[i64 c.x,i64 c.y,.vec .u8 c.cells,.vec .heap c.heaps,.vec .box c.boxes]
abbrev bz (c : Chunk) : AV:=.agg [i64 c.x,i64 c.y,.vec .u8 c.cells,.vec .heap c.heaps,.vec .box c.boxes]
theorem Dv (a : Box) (l : List Box) : elt .box (List.cons (α:=Box) a l) 0 = a:=rfl
theorem jG (c : Chunk) (hc : OkC c) : Api Tryz.prog 55 [bz c] (bol (ar c)):=by
 have nc:=hc.nc
 have nb:=hc.nb
 unfold big at nc nb
 refine aF Tryz.func55 81 ?_
 conv=>whnf
 repeat' (first|exact trivial|((first|(refine ⟨fun hb=>?_,fun hb=>?_⟩<;>(try simp only [nrm] at hb)<;>try exact kZ hb)|refine kV ?_)<;>(conv=>whnf))|refine kY ?_ ?_)
 all_goals (try (rw [pt (by simp only [da,Bool.and_eq_false_iff,decide_eq_false_iff_not];omega)];done))
 have hH : da c = true:=by simp only [da,Bool.and_eq_true,decide_eq_true_eq];omega
 refine aw.loopS aa (σ:=Nat × List Box) [1,3,35,36,37] (fun (k,bs)=>[.ptr 2 0,.vec .box bs,.vec .u8 c.cells,i64 c.cells.length,i64 k]) (fun _=>[(2,.box (bj c))]) (fun (k,bs)=>k ≤ c.cells.length ∧ bC (c.cells.drop k) k bs = bC c.cells 0 c.boxes ∧ (∀ b ∈ bs,uc b) ∧ bs.length ≤ 9000000000000000000) (fun (k,_)=>c.cells.length - k) (0,c.boxes) ⟨by omega,rfl,hc.boxes,nb⟩ ?_ ?_
 ·exact fD0
 ·rintro ⟨k,bs⟩ ⟨hk,he,hB,hn⟩
  by_cases hlt : k < c.cells.length
  ·rw [bJ (t:=.u8) hlt] at he
   simp only [bC] at he
   have hcell:=hc.cells _ (ay (t:=.u8) hlt)
   cases bs with
   | nil =>
    simp only [List.length_nil] at hn
    conv=>whnf
    repeat' (first|exact trivial|((first|refine kL ?_|(refine ⟨fun hb=>?_,fun hb=>?_⟩<;>(try simp only [nrm] at hb)<;>try exact kZ hb)|(refine isE 127 ?_;refine kA (lq _ hcell.1 hcell.2) ?_)|(refine isD 127 ?_;refine kD (lq _ hcell.1 hcell.2) ?_)|refine kV ?_)<;>(conv=>whnf))|refine kY ?_ ?_)
    all_goals first
     | (rw [fp (by rw [← he];simp_all [dz])];done)
     | (refine .to (k + 1,[]) ⟨hlt,by rw [← he];simp_all [dz],hB,hn⟩ (by dsimp only;omega) ?_;(conv=>whnf))
     | skip
    repeat' (first|exact trivial|((first|(refine ⟨fun hb=>?_,fun hb=>?_⟩<;>(try simp only [nrm] at hb)<;>try exact kZ hb)|refine kV ?_)<;>(conv=>whnf))|refine kY ?_ ?_)
   | cons b bs =>
    have hbx:=hB b (by simp)
    simp only [List.length_cons] at hn
    conv=>whnf
    repeat' (first|exact trivial|((first|refine kL ?_|(refine ⟨fun hb=>?_,fun hb=>?_⟩<;>(try simp only [nrm] at hb)<;>try exact kZ hb)|(refine isE 127 ?_;refine kA (lq _ hcell.1 hcell.2) ?_)|(refine isD 127 ?_;refine kD (lq _ hcell.1 hcell.2) ?_)|(refine isE 128 ?_;refine kA (iz _ _ hbx.2 hbx.1) ?_)|(refine isD 128 ?_;refine kD (iz _ _ hbx.2 hbx.1) ?_)|refine kV ?_)<;>(conv=>whnf))|refine kY ?_ ?_)
    all_goals (try simp only [Dv,Int.toNat_zero] at *)
    all_goals first
     | (rw [fp (by rw [← he];simp only [dz,d9];grind)];done)
     | (refine .to (k + 1,b :: bs) ⟨hlt,by rw [← he];simp only [dz,d9];grind,hB,by simp only [List.length_cons];omega⟩ (by dsimp only;omega) ?_;(conv=>whnf))
     | (refine .to (k + 1,bs) ⟨hlt,by rw [← he];simp only [dz,d9];grind,fun x hx=>hB x (by simp [hx]),by dsimp only;omega⟩ (by dsimp only;omega) ?_;(conv=>whnf);refine ⟨by simp,?_⟩;(conv=>whnf))
    repeat' (first|exact trivial|((first|(refine ⟨fun hb=>?_,fun hb=>?_⟩<;>(try simp only [nrm] at hb)<;>try exact kZ hb)|refine kV ?_)<;>(conv=>whnf))|refine kY ?_ ?_)
  ·have hkl : k = c.cells.length:=by omega
   rw [List.drop_of_length_le (by omega)] at he
   simp only [bC] at he
   conv=>whnf
   repeat' (first|exact trivial|((first|refine kL ?_|(refine ⟨fun hb=>?_,fun hb=>?_⟩<;>(try simp only [nrm] at hb)<;>try exact kZ hb)|(refine isE 129 ?_;refine kA (vJ _ hc.nh hc.heaps) ?_)|(refine isD 129 ?_;refine kD (vJ _ hc.nh hc.heaps) ?_)|refine kV ?_)<;>(conv=>whnf))|refine kY ?_ ?_)
   ·obtain rfl : bs = []:=List.eq_nil_of_length_eq_zero (by omega)
    unfold ar
    rw [hH,← he]
    rfl
   ·unfold ar
    rw [hH,← he]
    cases bs with
    | nil=>simp at hb
    | cons b bs=>rfl
open Go Go.RowKit Eng
theorem dl (l : List (El .slot)) (hl : l.length * 16 ≤ 140737488355328) : Api Tryz.prog 125 [.vec .slot l] (.vec .slot l):=by
 refine aF Tryz.func125 7 ?_
 conv=>whnf
 repeat' (first|exact trivial|((first|(refine ⟨fun hb=>?_,fun hb=>?_⟩<;>(try simp only [nrm] at hb)<;>try exact kZ hb)|refine kV ?_)<;>(conv=>whnf))|refine kY ?_ ?_)
 all_goals simp_all
theorem jd (l : List (El .u8)) (hl : l.length * 1 ≤ 140737488355328) : Ev1 Tryz.prog 122 [.vec .u8 l] [] (.own .u8 390001 0 l.length none) [(390001,.row .u8 l)]:=by
 refine eF Tryz.func122 7 ?_
 conv=>whnf
 repeat' (first|exact trivial|((first|(refine ⟨fun hb=>?_,fun hb=>?_⟩<;>(try simp only [nrm] at hb)<;>try exact kZ hb)|refine kV ?_)<;>(conv=>whnf))|refine kY ?_ ?_)
 all_goals simp_all
theorem je (l : List (El .heap)) (hl : l.length * 24 ≤ 140737488355328) : Ev1 Tryz.prog 123 [.vec .heap l] [] (.own .heap 390001 0 l.length none) [(390001,.row .heap l)]:=by
 refine eF Tryz.func123 7 ?_
 conv=>whnf
 repeat' (first|exact trivial|((first|(refine ⟨fun hb=>?_,fun hb=>?_⟩<;>(try simp only [nrm] at hb)<;>try exact kZ hb)|refine kV ?_)<;>(conv=>whnf))|refine kY ?_ ?_)
 all_goals simp_all
theorem jf (l : List (El .box)) (hl : l.length * 32 ≤ 140737488355328) : Ev1 Tryz.prog 124 [.vec .box l] [] (.own .box 390001 0 l.length none) [(390001,.row .box l)]:=by
 refine eF Tryz.func124 7 ?_
 conv=>whnf
 repeat' (first|exact trivial|((first|(refine ⟨fun hb=>?_,fun hb=>?_⟩<;>(try simp only [nrm] at hb)<;>try exact kZ hb)|refine kV ?_)<;>(conv=>whnf))|refine kY ?_ ?_)
 all_goals simp_all
theorem nX (l : List (El .chunk)) (hl : l.length * 88 ≤ 140737488355328) : Ev1 Tryz.prog 140 [.vec .chunk l] [] (.own .chunk 390001 0 l.length none) [(390001,.row .chunk l)]:=by
 refine eF Tryz.func140 7 ?_
 conv=>whnf
 repeat' (first|exact trivial|((first|(refine ⟨fun hb=>?_,fun hb=>?_⟩<;>(try simp only [nrm] at hb)<;>try exact kZ hb)|refine kV ?_)<;>(conv=>whnf))|refine kY ?_ ?_)
 all_goals simp_all
theorem nw (l : List (El .player)) (hl : l.length * 88 ≤ 140737488355328) : Ev1 Tryz.prog 141 [.vec .player l] [] (.own .player 390001 0 l.length none) [(390001,.row .player l)]:=by
 refine eF Tryz.func141 7 ?_
 conv=>whnf
 repeat' (first|exact trivial|((first|(refine ⟨fun hb=>?_,fun hb=>?_⟩<;>(try simp only [nrm] at hb)<;>try exact kZ hb)|refine kV ?_)<;>(conv=>whnf))|refine kY ?_ ?_)
 all_goals simp_all
open Go Go.RowKit Eng
theorem ta {tt : Ty} (A R : List (El tt)) (p : Nat) (hp : p ≤ A.length) : (fx A p R).take (p + R.length) = A.take p ++ R:=by
 unfold fx
 rw [← List.append_assoc]
 exact List.take_left' (by rw [List.length_append,List.length_take];omega)
open Go Go.RowKit Eng
structure mS (c : Chunk) : Prop where
 cells : c.cells.length * 1 ≤ 140737488351232
 heaps : c.heaps.length * 24 ≤ 140737488351232
 boxes : c.boxes.length * 32 ≤ 140737488351232
 bags : ∀ b ∈ c.boxes,b.bag.length * 16 ≤ 140737488351232
theorem pu (l : List Box) (k : Nat) : l.set k ⟨(elt .box l k).cell,(elt .box l k).bag⟩ = l:=by
 by_cases h : k < l.length
 ·have:=aL .box l k h
  apply List.ext_getElem? 
  intro i
  rw [List.getElem?_set]
  by_cases hik : k = i
  ·subst hik;rw [if_pos rfl,if_pos h,this]
  ·simp [hik]
 ·rw [List.set_eq_of_length_le (by omega)]
abbrev qW (c : Chunk) (a b d : Nat) : List AV:=[i64 c.x,i64 c.y,.own .u8 a 0 c.cells.length none,.own .heap b 0 c.heaps.length none,.own .box d 0 c.boxes.length none]
abbrev qX (c : Chunk) (a b d : Nat) : Mem:=[(a,.row .u8 c.cells),(b,.row .heap c.heaps),(d,.row .box c.boxes)]
open Go Go.RowKit Eng
theorem yd (n : Int) : Api Tryz.prog 175 [i64 n] .ff:=by
 refine aF Tryz.func175 5 ?_
 exact fD0
def cW (a b : Int) : Int:=if a < b then -1 else if b < a then 1 else 0
theorem ye {a b : Int} : cW a b < 0 ↔ a < b:=by unfold cW;(repeat' split)<;>omega
theorem E4 {a b : Int} : 0 ≤ cW a b ↔ b ≤ a:=by unfold cW;(repeat' split)<;>omega
theorem E5 {a b : Int} : cW a b = 0 ↔ a = b:=by unfold cW;(repeat' split)<;>omega
theorem fq (a b : Int) : Api Tryz.prog 135 [i64 a,i64 b] (i64 (cW a b)):=by
 refine aF Tryz.func135 18 ?_
 conv=>whnf
 repeat' (first|exact trivial|((first|refine kL ?_|(refine ⟨fun hb=>?_,fun hb=>?_⟩<;>(try simp only [nrm] at hb)<;>try exact kZ hb)|(refine isE 175 ?_;refine kA (yd _) ?_)|(refine isD 175 ?_;refine kD (yd _) ?_)|refine kV ?_)<;>(conv=>whnf))|refine kY ?_ ?_)
 all_goals (refine congrArg (Value.int _) ?_;unfold cW;(repeat' split)<;>omega)
def rises : List Box → Prop
 | []=>True
 | b :: r=>(∀ x ∈ r,b.cell < x.cell) ∧ rises r
def lb (t : Int) : List Box → Nat
 | []=>0
 | b :: r=>if b.cell < t then lb t r + 1 else 0
theorem FP (i j : Nat) : ((i : Int) + (j : Int)).fdiv (2 ^ min (Int.toNat 1) IntKind.u64.bits) = (((i + j) / 2 : Nat) : Int):=by
 have : (2 : Int) ^ min (Int.toNat 1) IntKind.u64.bits = 2:=rfl
 rw [this,Int.fdiv_eq_ediv_of_nonneg _ (by omega)]
 omega
open Go Go.RowKit Eng
def FQ (i : Int) (s : aG) : Bool:=s.item == i
def Gy (s : aG) : Bool:=s.n == 0
theorem dx {α : Type} {n : Nat} {l : List α} (h : l.length = n) : l.take n = l:=by rw [← h,List.take_length]
theorem td (i : Int) : 0 ≤ cO i ∧ cO i ≤ 16:=by unfold cO;(repeat' split)<;>omega
def Ei (s : aG) (n : Int) : aG:=if s.n - n = 0 then ⟨0,0⟩ else ⟨s.item,s.n - n⟩
open Go Go.RowKit Eng
def ba {α : Type} (key : α → Int) : List α → Prop
 | []=>True
 | b :: r=>(∀ x ∈ r,key b < key x) ∧ ba key r
def lbK {α : Type} (key : α → Int) (t : Int) : List α → Nat
 | []=>0
 | b :: r=>if key b < t then lbK key t r + 1 else 0
def aY {α : Type} (key : α → Int) : List α → Int → Option α
 | [],_=>none
 | b :: r,t=>if key b = t then some b else aY key r t
def fA {α : Type} (key : α → Int) (t : Int) : List α → List α
 | []=>[]
 | b :: r=>if key b < t then b :: fA key t r else if key b = t then r else b :: r
def eL {α : Type} (key : α → Int) (x : α) : List α → List α
 | []=>[x]
 | b :: r=>if key b < key x then b :: eL key x r else x :: b :: r
theorem vK {α : Type} (key : α → Int) (t : Int) (l : List α) : lbK key t l ≤ l.length:=by
 induction l with
 | nil=>simp [lbK]
 | cons b r ih=>simp only [lbK,List.length_cons];split<;>omega
theorem c8 {α : Type} {key : α → Int} {l : List α} {t : Int} : aY key l t = none ↔ ∀ b ∈ l,key b ≠ t:=by
 induction l with
 | nil=>simp [aY]
 | cons b r ih =>
  simp only [aY,List.mem_cons,forall_eq_or_imp]
  split
  ·rename_i h;simp [h]
  ·rename_i h;rw [ih];exact ⟨fun h2=>⟨h,h2⟩,fun h2=>h2.2⟩
theorem gR {α : Type} {key : α → Int} {l : List α} {t : Int} {s : α} (h : aY key l t = some s) : s ∈ l ∧ key s = t:=by
 induction l with
 | nil=>simp [aY] at h
 | cons b r ih =>
  simp only [aY] at h
  split at h
  ·rename_i hb;cases h;exact ⟨by simp,hb⟩
  ·obtain ⟨h1,h2⟩:=ih h;exact ⟨by simp [h1],h2⟩
theorem wY {α : Type} {key : α → Int} {l : List α} (h : ba key l) {b : α} (hb : b ∈ l) : aY key l (key b) = some b:=by
 induction l with
 | nil=>simp at hb
 | cons a r ih =>
  simp only [aY]
  rcases List.mem_cons.1 hb with rfl|hb
  ·simp
  ·have:=h.1 b hb
   rw [if_neg (by omega)];exact ih h.2 hb
theorem qY {α : Type} {key : α → Int} : ∀ {l l' : List α},ba key l → ba key l' → (∀ t,aY key l t = aY key l' t) → l = l'
 | [],[],_,_,_=>rfl
 | [],b :: r,_,_,h=>by have:=h (key b);simp [aY] at this
 | b :: r,[],_,_,h=>by have:=h (key b);simp [aY] at this
 | b :: r,b' :: r',h1,h2,h=>by
  have hb:=h (key b)
  simp only [aY,if_true] at hb
  have hb':=h (key b')
  simp only [aY,if_true] at hb'
  have e : key b = key b':=by
   by_cases he : key b' = key b
   ·exact he.symm
   ·rw [if_neg he] at hb
    rw [if_neg (fun e=>he e.symm)] at hb'
    obtain ⟨hx,hxe⟩:=gR hb.symm
    obtain ⟨hy,hye⟩:=gR hb'
    have:=h2.1 b hx
    have:=h1.1 b' hy
    omega
  rw [if_pos e.symm] at hb
  have eb : b = b':=Option.some.inj hb
  subst eb
  rw [qY (l:=r) (l':=r') h1.2 h2.2 fun t=>?_]
  have ht:=h t
  simp only [aY] at ht
  split at ht
  ·rename_i hbt
   have n1 : aY key r t = none:=c8.2 fun x hx=>by have:=h1.1 x hx;omega
   have n2 : aY key r' t = none:=c8.2 fun x hx=>by have:=h2.1 x hx;omega
   rw [n1,n2]
  ·exact ht
theorem qZ {α : Type} {key : α → Int} : ∀ {l : List α} (t : Int),ba key l → (match l[lbK key t l]? with|some b=>if key b = t then some b else none|none=>none) = aY key l t
 | [],t,_=>rfl
 | b :: r,t,h=>by
  by_cases hb : key b < t
  ·have ih:=qZ (l:=r) t h.2
   simp only [lbK,aY,if_pos hb,List.getElem?_cons_succ,if_neg (show ¬ key b = t by omega)]
   exact ih
  ·simp only [lbK,aY,if_neg hb,List.getElem?_cons_zero]
   split
   ·rfl
   ·rename_i he
    exact (c8.2 fun x hx=>by have:=h.1 x hx;omega).symm
theorem fS {α : Type} {key : α → Int} : ∀ {l : List α},ba key l → ∀ {i j : Nat} {a b : α},i < j → l[i]? = some a → l[j]? = some b → key a < key b
 | [],_,i,j,a,b,_,ha,_=>by simp at ha
 | c :: r,h,i,j,a,b,hij,ha,hb=>by
  cases j with
  | zero=>omega
  | succ j =>
   simp at hb
   cases i with
   | zero=>simp at ha;subst ha;exact h.1 b (List.mem_of_getElem? hb)
   | succ i=>simp at ha;exact fS (l:=r) h.2 (by omega) ha hb
theorem vL {α : Type} {key : α → Int} {t : Int} : ∀ {l : List α} {x : α},x ∈ fA key t l → x ∈ l
 | [],x,h=>by simp [fA] at h
 | b :: r,x,h=>by
  simp only [fA] at h
  split at h
  ·rcases List.mem_cons.1 h with rfl|h
   ·simp
   ·simp [vL h]
  ·split at h
   ·simp [h]
   ·exact h
theorem q_ {α : Type} {key : α → Int} {t : Int} : ∀ {l : List α},ba key l → ba key (fA key t l)
 | [],_=>trivial
 | b :: r,h=>by
  simp only [fA]
  split
  ·exact ⟨fun x hx=>h.1 x (vL hx),q_ h.2⟩
  ·split
   ·exact h.2
   ·exact h
theorem qf {α : Type} {key : α → Int} {t u : Int} : ∀ {l : List α},ba key l → aY key (fA key t l) u = if u = t then none else aY key l u
 | [],_=>by simp [fA,aY]
 | b :: r,h=>by
  have ih:=qf (t:=t) (u:=u) h.2
  simp only [fA]
  split
  ·rename_i hb
   simp only [aY,ih]
   split
   ·rename_i hbu;rw [if_neg (by omega)]
   ·rfl
  ·split
   ·rename_i hbe
    by_cases hu : u = t
    ·rw [if_pos hu,c8];intro x hx;have:=h.1 x hx;omega
    ·rw [if_neg hu];simp only [aY];rw [if_neg (by omega)]
   ·rename_i hbt hbe
    by_cases hu : u = t
    ·rw [if_pos hu,c8]
     intro x hx
     rcases List.mem_cons.1 hx with rfl|hx
     ·omega
     ·have:=h.1 x hx;omega
    ·rw [if_neg hu]
theorem yf {α : Type} (key : α → Int) (x : α) : ∀ l : List α,l.take (lbK key (key x) l) ++ x :: l.drop (lbK key (key x) l) = eL key x l
 | []=>rfl
 | b :: r=>by
  simp only [lbK,eL]
  split
  ·rw [← yf key x r];rfl
  ·rfl
theorem yg {α : Type} {key : α → Int} {t : Int} : ∀ {l : List α},ba key l → fA key t l = if (aY key l t).isSome then l.take (lbK key t l) ++ l.drop (lbK key t l + 1) else l
 | [],_=>rfl
 | b :: r,h=>by
  have ih:=yg (t:=t) h.2
  by_cases hb : key b < t
  ·have e1 : aY key (b :: r) t = aY key r t:=by simp only [aY,if_neg (show ¬ key b = t by omega)]
   have e2 : lbK key t (b :: r) = lbK key t r + 1:=by simp only [lbK,if_pos hb]
   rw [e1,e2]
   simp only [fA,if_pos hb,ih]
   split<;>simp
  ·have e2 : lbK key t (b :: r) = 0:=by simp only [lbK,if_neg hb]
   rw [e2]
   by_cases he : key b = t
   ·simp [he,fA,aY]
   ·have hn : aY key r t = none:=c8.2 fun x hx=>by have:=h.1 x hx;omega
    simp [he,hn,fA,aY,hb]
theorem vM {α : Type} {key : α → Int} {x : α} : ∀ {l : List α} {y : α},y ∈ eL key x l → y = x ∨ y ∈ l
 | [],y,h=>by simp [eL] at h;exact .inl h
 | b :: r,y,h=>by
  simp only [eL] at h
  split at h
  ·rcases List.mem_cons.1 h with rfl|h
   ·simp
   ·rcases vM h with h|h
    ·exact .inl h
    ·simp [h]
  ·rcases List.mem_cons.1 h with rfl|h
   ·exact .inl rfl
   ·exact .inr h
theorem re {α : Type} {key : α → Int} {x : α} : ∀ {l : List α},ba key l → aY key l (key x) = none → ba key (eL key x l)
 | [],_,_=>⟨by simp,trivial⟩
 | b :: r,h,hn=>by
  have hn':=c8.1 hn
  simp only [eL]
  split
  ·rename_i hb
   refine ⟨fun y hy=>?_,re h.2 (c8.2 fun y hy=>hn' y (by simp [hy]))⟩
   rcases vM hy with rfl|hy
   ·exact hb
   ·exact h.1 y hy
  ·rename_i hb
   have h0:=hn' b (by simp)
   refine ⟨fun y hy=>?_,h⟩
   rcases List.mem_cons.1 hy with rfl|hy
   ·omega
   ·have:=h.1 y hy;omega
theorem vN {α : Type} {key : α → Int} {x : α} {u : Int} : ∀ {l : List α},aY key l (key x) = none → aY key (eL key x l) u = if u = key x then some x else aY key l u
 | [],_=>by simp only [eL,aY];by_cases h : u = key x<;>simp [h];exact fun e=>absurd e.symm h
 | b :: r,hn=>by
  have hn':=c8.1 hn
  have h0:=hn' b (by simp)
  have ih:=vN (x:=x) (u:=u) (l:=r) (c8.2 fun y hy=>hn' y (by simp [hy]))
  simp only [eL]
  split
  ·simp only [aY,ih]
   by_cases hbu : key b = u
   ·rw [if_pos hbu,if_pos hbu,if_neg (by omega)]
   ·rw [if_neg hbu,if_neg hbu]
  ·simp only [aY]
   by_cases hu : u = key x
   ·rw [if_pos hu.symm,if_pos hu]
   ·rw [if_neg (fun e=>hu e.symm),if_neg hu]
theorem yh {α : Type} {key : α → Int} (x : α) : ∀ (l : List α),ba key l → (aY key l (key x)).isSome = true → l.set (lbK key (key x) l) x = eL key x (fA key (key x) l)
 | [],_,h=>by simp [aY] at h
 | b :: r,hr,h=>by
  simp only [aY] at h
  simp only [lbK,fA]
  split
  ·rename_i hb
   rw [if_neg (by omega)] at h
   simp only [List.set_cons_succ,eL,if_pos hb]
   rw [yh x r hr.2 h]
  ·rename_i hb
   by_cases he : key b = key x
   ·rw [if_pos he,List.set_cons_zero]
    cases r with
    | nil=>rfl
    | cons a r=>have:=hr.1 a (by simp);simp only [eL];rw [if_neg (by omega)]
   ·rw [if_neg he] at h
    have hn : aY key r (key x) = none:=c8.2 fun y hy=>by have:=hr.1 y hy;omega
    rw [hn] at h;cases h
theorem vO {α : Type} {key : α → Int} {l : List α} {t : Int} {b : α} (h : ba key l) (hg : aY key l t = some b) : lbK key t l < l.length ∧ l[lbK key t l]? = some b:=by
 have h1:=qZ t h
 rw [hg] at h1
 split at h1
 ·rename_i b' hb'
  split at h1
  ·cases h1;exact ⟨(List.getElem?_eq_some_iff.1 hb').1,hb'⟩
  ·cases h1
 ·cases h1
open Go Go.RowKit Eng
theorem Gj : ownKnob Tryz.prog.godebug = none:=by kernel_rfl
theorem FR : laidOutB Tryz.prog = true:=by kernel_rfl
theorem BG : Tryz.prog.underlying 4 = some .bool:=by kernel_rfl
theorem Gz : Tryz.prog.underlying 5 = some (.int .u8):=by kernel_rfl
def iB (n : Int) : Prop:=-9223372036854775808 ≤ n ∧ n ≤ 9223372036854775807
def ss (n : Int) : Prop:=0 ≤ n ∧ n ≤ 255
theorem el : bZ Tryz.prog 3 1 (fun n : Int=>[.lit (.int .i64 n)]) iB:=nH o_ (by kernel_rfl)
theorem yi : bZ Tryz.prog 44 1 (fun n : Int=>[.lit (.int .u8 n)]) ss:=nH BA (by kernel_rfl)
theorem Gk : bZ Tryz.prog 5 1 (fun n : Int=>[.lit (.int .u8 n)]) ss:=nH Gz (by kernel_rfl)
def jS (s : aG) : Prop:=ss s.item ∧ iB s.n
theorem yj : bZ Tryz.prog 95 2 (cells .slot) jS:=
 fF (dt vG (by kernel_rfl) (by kernel_rfl) (aZ yi (aZ el (eC _ _)))) (fun p=>(⟨p.1,p.2.1⟩ : aG)) (fun _=>rfl) (fun _=>rfl) fun a h=>⟨h.1,h.2.1⟩
theorem qg : bZ Tryz.prog 32 1 (fun l : List (El .slot)=>[.vec .slot l]) (fun l=>(∀ s ∈ l,jS s) ∧ l.length * 16 ≤ 140737488351232):=
 fd .slot (by kernel_rfl) (by kernel_rfl) (by kernel_rfl) yj
def st (h : c_) : Prop:=iB h.cell ∧ jS h.slot
theorem E6 : bZ Tryz.prog 97 3 (cells .heap) st:=
 fF (dt (fs:=Tryz.prog.fieldsOf 97) (by kernel_rfl) (by kernel_rfl) (by kernel_rfl) (aZ el (aZ yj (eC _ _)))) (fun p=>(⟨p.1,p.2.1⟩ : c_)) (fun _=>rfl) (fun _=>rfl) fun a h=>⟨h.1,h.2.1⟩
def vP (b : Box) : Prop:=iB b.cell ∧ (∀ s ∈ b.bag,jS s) ∧ b.bag.length * 16 ≤ 140737488351232
theorem FS : bZ Tryz.prog 79 2 (cells .box) vP:=
 fF (dt (fs:=Tryz.prog.fieldsOf 79) (by kernel_rfl) (by kernel_rfl) (by kernel_rfl) (aZ el (aZ qg (eC _ _)))) (fun p=>(⟨p.1,p.2.1⟩ : Box)) (fun _=>rfl) (fun _=>rfl) fun a h=>⟨h.1,h.2.1.1,h.2.1.2⟩
theorem Dw : bZ Tryz.prog 27 1 (fun l : List (El .u8)=>[.vec .u8 l]) (fun l=>(∀ i ∈ l,ss i) ∧ l.length * 1 ≤ 140737488351232):=fd .u8 (by kernel_rfl) (by kernel_rfl) (by kernel_rfl) yi
theorem Dx : bZ Tryz.prog 28 1 (fun l : List (El .heap)=>[.vec .heap l]) (fun l=>(∀ h ∈ l,st h) ∧ l.length * 24 ≤ 140737488351232):=fd .heap (by kernel_rfl) (by kernel_rfl) (by kernel_rfl) E6
theorem Dy : bZ Tryz.prog 29 1 (fun l : List (El .box)=>[.vec .box l]) (fun l=>(∀ b ∈ l,vP b) ∧ l.length * 32 ≤ 140737488351232):=fd .box (by kernel_rfl) (by kernel_rfl) (by kernel_rfl) FS
structure ku (c : Chunk) : Prop where
 x : iB c.x
 y : iB c.y
 cells : ∀ i ∈ c.cells,ss i
 nc : c.cells.length * 1 ≤ 140737488351232
 heaps : ∀ h ∈ c.heaps,st h
 nh : c.heaps.length * 24 ≤ 140737488351232
 boxes : ∀ b ∈ c.boxes,vP b
 nb : c.boxes.length * 32 ≤ 140737488351232
theorem E7 : Tryz.prog.underlying 31 = some (.struct (Tryz.prog.fieldsOf 31)):=by kernel_rfl
theorem Dz : bZ Tryz.prog 31 5 (cells .chunk) ku:=
 fF (dt E7 (by kernel_rfl) (by kernel_rfl) (aZ el (aZ el (aZ Dw (aZ Dx (aZ Dy (eC _ _)))))))
  (fun p=>(⟨p.1,p.2.1,p.2.2.1,p.2.2.2.1,p.2.2.2.2.1⟩ : Chunk)) (fun _=>rfl) (fun _=>rfl) fun a h=>⟨h.1,h.2.1,h.2.2.1.1,h.2.2.1.2,h.2.2.2.1.1,h.2.2.2.1.2,h.2.2.2.2.1.1,h.2.2.2.2.1.2⟩
structure lr (p : Player) : Prop where
 id : iB p.id
 x : iB p.x
 y : iB p.y
 bag : ∀ s ∈ p.bag,jS s
 nb : p.bag.length * 16 ≤ 140737488351232
 wth : iB p.wth
 offer : ∀ s ∈ p.offer,jS s
 no : p.offer.length * 16 ≤ 140737488351232
theorem E8 : bZ Tryz.prog 4 1 (fun b : Bool=>[.lit (.bool b)]) (fun _=>True):=yI BG (by kernel_rfl)
theorem DA : Tryz.prog.underlying 34 = some (.struct (Tryz.prog.fieldsOf 34)):=by kernel_rfl
theorem BH : bZ Tryz.prog 34 7 (cells .player) lr:=
 fF (dt DA (by kernel_rfl) (by kernel_rfl) (aZ el (aZ el (aZ el (aZ qg (aZ el (aZ qg (aZ E8 (eC _ _)))))))))
  (fun p=>(⟨p.1,p.2.1,p.2.2.1,p.2.2.2.1,p.2.2.2.2.1,p.2.2.2.2.2.1,p.2.2.2.2.2.2.1⟩ : Player)) (fun _=>rfl) (fun _=>rfl) fun a h=>⟨h.1,h.2.1,h.2.2.1,h.2.2.2.1.1,h.2.2.2.1.2,h.2.2.2.2.1,h.2.2.2.2.2.1.1,h.2.2.2.2.2.1.2⟩
end Go.Proofs.YtaecchphjploaaaGreat
