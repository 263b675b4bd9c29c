/- Contracts of items, bags, chunks; how types read. -/
import Derived.Test.YtkojlembanldcaaGreatGc
import Derived.Test.YtkojlembanldcaaGreatGb
import Derived.Test.YtkojlembanldcaaGreatRows
set_option linter.unusedSimpArgs false
set_option linter.unusedVariables false
set_option maxRecDepth 100000
set_option maxHeartbeats 16000000
namespace Go.Proofs.YtkojlembanldcaaGreat
open Go Go.RowKit Eng
def cfg : dC where
 ty:=fun e=>match e with
  | 5=>some .u8
  | 62=>some .u8
  | 3=>some .i64
  | 66=>some .slot
  | 68=>some .heap
  | 125=>some .box
  | 56=>some .chunk
  | 46=>some .player
  | 90=>some .order
  | 92=>some .reply
  | 209=>some .recipe
  | 42=>some .doo
  | 103=>some .deed
  | 32=>some .ints
  | 79=>some .orders
  | _=>none
 eq:=fun t=>match t with
  | 66=>true
  | 68=>true
  | 92=>true
  | 90=>true
  | _=>false
 pk:=fun t=>match t with
  | 0=>none
  | 88=>some .i64
  | _=>none
 fn:=fun f=>match f with
  | 0=>false
  | 1=>false
  | 2=>false
  | 251=>false
  | 278=>false
  | 188=>false
  | f=>Nat.blt f 290
 ov:=fun f=>match f with
  | 0=>false
  | 251=>true
  | 278=>true
  | 188=>true
  | _=>false
theorem u5 {f : FuncId} {fn : Func} {t tR e : TypeId} {z : Nat} (hf : Tryz.prog.funcs[f]? = some fn) (hname : (fn.name == "runtime.NumGoroutine") = false) (hb : fn.body.isNone = true) (hn : Extern.findNext fn = none)
  (he : Extern.find fn = some (Extern.SlicesOverlaps.overlaps #[t,t] #[tR])) (ht : Tryz.prog.underlying t = some (.slice e)) (hz : bR Tryz.prog e = some z) :
  ∃ (t tR e : TypeId) (z : Nat),Tryz.prog.underlying t = some (.slice e) ∧ bR Tryz.prog e = some z ∧ ∀ (args : Array Value) (w : World),
   (callFunc f args).run Tryz.prog w = ((Extern.SlicesOverlaps.overlaps #[t,t] #[tR] args).run Tryz.prog w).andThen fun v w'=>.ok (.value v) w':=
 ⟨t,tR,e,z,ht,hz,fun args w=>run_callFunc_extern hf hname hb hn he args w⟩
theorem EW {x y : Value} {xs ys : List Value} {b : Bool} (h : gH (x :: xs) (y :: ys) = some b) : ∃ p q,eqV x y = some p ∧ gH xs ys = some q ∧ b = (p && q):=by
 simp only [gH] at h
 cases h1 : eqV x y with
 | none=>rw [h1] at h;cases h
 | some p =>
  cases h2 : gH xs ys with
  | none=>rw [h1,h2] at h;cases h
  | some q=>rw [h1,h2] at h;exact ⟨p,q,rfl,rfl,by simpa using h.symm⟩
theorem I4 {x y : Value} {p : Bool} (h : eqV x y = some p) {P : Program} (d : Nat) {t : TypeId} {k : IntKind} (ht : P.underlying t = some (.int k)) (w : World) : (Op.equalIn (d + 1) t x y).run P w = .ok p w:=by
 unfold eqV at h
 split at h
 ·rename_i k1 a k2 b
  cases hk : kk k1 k2 with
  | false=>rw [hk] at h;cases h
  | true =>
   rw [hk] at h
   have:=In hk
   subst this
   cases h
   exact run_equalIn_int w d t k1 k a b ht
 ·cases h
theorem yD {P : Program} {t : TypeId} {k : IntKind} (ht : P.underlying t = some (.int k)) (w : World) (xs : Array Value) (i : Nat) (x : Value) (h : xs[i]? = some x) : (part t xs i).run P w = .ok x w:=by
 have ha : gQ P t = some false:=by unfold gQ;rw [ht]
 simp [part,run_isAgg ha,h]
theorem oe {P : Program} {t : TypeId} (hu : P.underlying t = some (.struct (P.fieldsOf t))) (hp : P.stoodInHeld t = false) (w : World) (xs ys : Array Value) {r : Result Bool}
  (h : (Op.eqFields 9999 xs ys (P.fieldsOf t).toList).run P w = r) : (Op.equal t (.agg xs) (.agg ys)).run P w = r:=by
 unfold Op.equal Op.maxDepth
 rw [run_equalIn_struct w 9999 t xs ys hu hp];exact h
theorem cW {P : Program} {f : Field} {fs : List Field} {k : IntKind} (d : Nat) (hn : f.name ≠ "_") (ht : P.underlying f.type = some (.int k)) {xs ys : Array Value} {x y : Value} (hx : xs[f.offset]? = some x) (hy : ys[f.offset]? = some y)
  {p q : Bool} (hp : eqV x y = some p) {w : World} (hq : (Op.eqFields (d + 1) xs ys fs).run P w = .ok q w) : (Op.eqFields (d + 1) xs ys (f :: fs)).run P w = .ok (p && q) w:=by
 simp only [Op.eqFields,ne_eq,hn,not_false_eq_true,if_true,Sem.run_bind,yD ht w xs _ x hx,yD ht w ys _ y hy,Result.andThen_ok,I4 hp d ht w]
 cases p with
 | true=>simpa using hq
 | false=>simp
theorem LG {xs : List Value} (h : some 2 = some xs.length) : ∃ x y,xs = [x,y]:=by
 match xs,h with
 | [x,y],_=>exact ⟨x,y,rfl⟩
theorem Kh {xs : List Value} (h : some 3 = some xs.length) : ∃ x y z,xs = [x,y,z]:=by
 match xs,h with
 | [x,y,z],_=>exact ⟨x,y,z,rfl⟩
theorem og {ys : List Value} {b : Bool} (h : gH [] ys = some b) : ys = [] ∧ b = true:=by
 cases ys with
 | nil=>exact ⟨rfl,by simpa [gH] using h.symm⟩
 | cons y ys=>simp [gH] at h
theorem cQ {x : Value} {xs ys : List Value} {b : Bool} (h : gH (x :: xs) ys = some b) : ∃ y ys' p q,ys = y :: ys' ∧ eqV x y = some p ∧ gH xs ys' = some q ∧ b = (p && q):=by
 cases ys with
 | nil=>simp [gH] at h
 | cons y ys=>obtain ⟨p,q,h1,h2,h3⟩:=EW h;exact ⟨y,ys,p,q,rfl,h1,h2,h3⟩
theorem C8 : ∃ f0 f1 : Field, (Tryz.prog.fieldsOf 66).toList = [f0, f1] ∧ f0.name = "Item" ∧ f0.type = 62 ∧ f0.offset = 0 ∧ f1.name = "N" ∧ f1.type = 3 ∧ f1.offset = 1 :=
 ⟨⟨"Item", 62, 0, false, "", "", 0⟩, ⟨"N", 3, 1, false, "", "", 8⟩, by kernel_rfl, rfl, rfl, rfl, rfl, rfl, rfl⟩
theorem C9 : ∃ f0 f1 : Field, (Tryz.prog.fieldsOf 68).toList = [f0, f1] ∧ f0.name = "Cell" ∧ f0.type = 3 ∧ f0.offset = 0 ∧ f1.name = "Slot" ∧ f1.type = 66 ∧ f1.offset = 1 :=
 ⟨⟨"Cell", 3, 0, false, "", "", 0⟩, ⟨"Slot", 66, 1, false, "", "", 8⟩, by kernel_rfl, rfl, rfl, rfl, rfl, rfl, rfl⟩
theorem yE : Tryz.prog.underlying 66 = some (.struct (Tryz.prog.fieldsOf 66)):=by kernel_rfl
theorem EX : Tryz.prog.stoodInHeld 66 = false:=by kernel_rfl
theorem jj : Tryz.prog.underlying 3 = some (.int .i64):=by kernel_rfl
theorem EY : Tryz.prog.underlying 62 = some (.int .u8):=by kernel_rfl
theorem EZ (d : Nat) (w : World) (x0 x1 y0 y1 : Value) {p q : Bool} (h0 : eqV x0 y0 = some p) (h1 : eqV x1 y1 = some q) :
  (Op.eqFields (d + 1) #[x0,x1] #[y0,y1] (Tryz.prog.fieldsOf 66).toList).run Tryz.prog w = .ok (p && (q && true)) w:=by
 obtain ⟨f0,f1,hf,n0,t0,o0,n1,t1,o1⟩:=C8
 rw [hf]
 refine cW (k:=.u8) d (by rw [n0];decide) (by rw [t0];exact EY) (by rw [o0];rfl) (by rw [o0];rfl) h0 ?_
 refine cW (k:=.i64) d (by rw [n1];decide) (by rw [t1];exact jj) (by rw [o1];rfl) (by rw [o1];rfl) h1 ?_
 rfl
theorem Ki (w : World) (x0 x1 x2 y0 y1 y2 : Value) {p q r : Bool} (h0 : eqV x0 y0 = some p) (h1 : eqV x1 y1 = some q) (h2 : eqV x2 y2 = some r) :
  (Op.eqFields 9999 #[x0,x1,x2] #[y0,y1,y2] (Tryz.prog.fieldsOf 68).toList).run Tryz.prog w = .ok (p && (q && (r && true))) w:=by
 obtain ⟨f0,f1,hf,n0,t0,o0,n1,t1,o1⟩:=C9
 rw [hf]
 refine cW (k:=.i64) 9998 (by rw [n0];decide) (by rw [t0];exact jj) (by rw [o0];rfl) (by rw [o0];rfl) h0 ?_
 have hn : f1.name ≠ "_" := by rw [n1]; decide
 have ha : gQ Tryz.prog f1.type = some true:=by rw [t1];kernel_rfl
 have hs : bR Tryz.prog f1.type = some 2:=by rw [t1];kernel_rfl
 have px : (part f1.type #[x0,x1,x2] f1.offset).run Tryz.prog w = .ok (.agg #[x1,x2]) w:=by rw [o1];simp [part,run_isAgg ha,Eng.run_sizeOf hs]
 have py : (part f1.type #[y0,y1,y2] f1.offset).run Tryz.prog w = .ok (.agg #[y1,y2]) w:=by rw [o1];simp [part,run_isAgg ha,Eng.run_sizeOf hs]
 have e : (Op.equalIn 9999 f1.type (.agg #[x1,x2]) (.agg #[y1,y2])).run Tryz.prog w = .ok (q && (r && true)) w:=by
  rw [t1,run_equalIn_struct w 9998 _ _ _ yE EX]
  exact EZ 9997 w x1 x2 y1 y2 h1 h2
 simp only [Op.eqFields,ne_eq,hn,not_false_eq_true,if_true,Sem.run_bind,px,py,Result.andThen_ok,e]
 cases q<;>cases r<;>simp
theorem At : ∃ f0 f1 f2 : Field, (Tryz.prog.fieldsOf 92).toList = [f0, f1, f2] ∧ f0.name = "Player" ∧ f0.type = 3 ∧ f0.offset = 0 ∧ f1.name = "Seq" ∧ f1.type = 3 ∧ f1.offset = 1 ∧ f2.name = "Err" ∧ f2.type = 49 ∧ f2.offset = 2 :=
 ⟨⟨"Player", 3, 0, false, "", "", 0⟩, ⟨"Seq", 3, 1, false, "", "", 8⟩, ⟨"Err", 49, 2, false, "", "", 16⟩, by kernel_rfl, rfl, rfl, rfl, rfl, rfl, rfl, rfl, rfl, rfl⟩
theorem G7 (w : World) (xs ys : List Value) (b : Bool) (hb : gH xs ys = some b) (hl : bR Tryz.prog 92 = some xs.length) : (Op.equal 92 (.agg ⟨xs⟩) (.agg ⟨ys⟩)).run Tryz.prog w = .ok b w:=by
 have hl' : bR Tryz.prog 92 = some 3:=by kernel_rfl
 rw [hl'] at hl
 obtain ⟨x0,x1,x2,rfl⟩:=Kh hl
 obtain ⟨y0,ys0,p,q,rfl,h0,hb0,rfl⟩:=cQ hb
 obtain ⟨y1,ys1,p1,q1,rfl,h1,hb1,rfl⟩:=cQ hb0
 obtain ⟨y2,ys2,p2,q2,rfl,h2,hb2,rfl⟩:=cQ hb1
 obtain ⟨rfl,rfl⟩:=og hb2
 refine oe (by kernel_rfl) (by kernel_rfl) w _ _ ?_
 obtain ⟨f0,f1,f2,hf,n0,t0,o0,n1,t1,o1,n2,t2,o2⟩:=At
 rw [hf]
 refine cW (k:=.i64) 9998 (by rw [n0];decide) (by rw [t0];exact jj) (by rw [o0];rfl) (by rw [o0];rfl) h0 ?_
 refine cW (k:=.i64) 9998 (by rw [n1];decide) (by rw [t1];exact jj) (by rw [o1];rfl) (by rw [o1];rfl) h1 ?_
 refine cW (k:=.i64) 9998 (by rw [n2];decide) (by rw [t2];kernel_rfl) (by rw [o2];rfl) (by rw [o2];rfl) h2 ?_
 rfl
theorem Au : ∃ f0 f1 f2 : Field, (Tryz.prog.fieldsOf 90).toList = [f0, f1, f2] ∧ f0.name = "Player" ∧ f0.type = 3 ∧ f0.offset = 0 ∧ f1.name = "Seq" ∧ f1.type = 3 ∧ f1.offset = 1 ∧ f2.name = "Command" ∧ f2.type = 40 ∧ f2.offset = 2 :=
 ⟨⟨"Player", 3, 0, false, "", "", 0⟩, ⟨"Seq", 3, 1, false, "", "", 8⟩, ⟨"Command", 40, 2, false, "", "", 16⟩, by kernel_rfl, rfl, rfl, rfl, rfl, rfl, rfl, rfl, rfl, rfl⟩
theorem E0 : ∃ f0 f1 f2 f3 f4 : Field, (Tryz.prog.fieldsOf 40).toList = [f0, f1, f2, f3, f4] ∧ f0.name = "Do" ∧ f0.type = 38 ∧ f0.offset = 0 ∧ f1.name = "A" ∧ f1.type = 3 ∧ f1.offset = 1 ∧ f2.name = "B" ∧ f2.type = 3 ∧ f2.offset = 2 ∧ f3.name = "C" ∧ f3.type = 3 ∧ f3.offset = 3 ∧ f4.name = "N" ∧ f4.type = 3 ∧ f4.offset = 4 :=
 ⟨⟨"Do", 38, 0, false, "", "", 0⟩, ⟨"A", 3, 1, false, "", "", 8⟩, ⟨"B", 3, 2, false, "", "", 16⟩, ⟨"C", 3, 3, false, "", "", 24⟩, ⟨"N", 3, 4, false, "", "", 32⟩, by kernel_rfl, rfl, rfl, rfl, rfl, rfl, rfl, rfl, rfl, rfl, rfl, rfl, rfl, rfl, rfl, rfl⟩
theorem Lc (w : World) (x0 x1 x2 x3 x4 y0 y1 y2 y3 y4 : Value) {p0 p1 p2 p3 p4 : Bool} (h0 : eqV x0 y0 = some p0) (h1 : eqV x1 y1 = some p1) (h2 : eqV x2 y2 = some p2) (h3 : eqV x3 y3 = some p3) (h4 : eqV x4 y4 = some p4) :
  (Op.eqFields 9998 #[x0,x1,x2,x3,x4] #[y0,y1,y2,y3,y4] (Tryz.prog.fieldsOf 40).toList).run Tryz.prog w = .ok (p0 && (p1 && (p2 && (p3 && (p4 && true))))) w:=by
 obtain ⟨f0,f1,f2,f3,f4,hf,n0,t0,o0,n1,t1,o1,n2,t2,o2,n3,t3,o3,n4,t4,o4⟩:=E0
 rw [hf]
 refine cW (k:=.u8) 9997 (by rw [n0];decide) (by rw [t0];kernel_rfl) (by rw [o0];rfl) (by rw [o0];rfl) h0 ?_
 refine cW (k:=.i64) 9997 (by rw [n1];decide) (by rw [t1];exact jj) (by rw [o1];rfl) (by rw [o1];rfl) h1 ?_
 refine cW (k:=.i64) 9997 (by rw [n2];decide) (by rw [t2];exact jj) (by rw [o2];rfl) (by rw [o2];rfl) h2 ?_
 refine cW (k:=.i64) 9997 (by rw [n3];decide) (by rw [t3];exact jj) (by rw [o3];rfl) (by rw [o3];rfl) h3 ?_
 refine cW (k:=.i64) 9997 (by rw [n4];decide) (by rw [t4];exact jj) (by rw [o4];rfl) (by rw [o4];rfl) h4 ?_
 rfl
theorem G8 (w : World) (xs ys : List Value) (b : Bool) (hb : gH xs ys = some b) (hl : bR Tryz.prog 90 = some xs.length) : (Op.equal 90 (.agg ⟨xs⟩) (.agg ⟨ys⟩)).run Tryz.prog w = .ok b w:=by
 have hl' : bR Tryz.prog 90 = some 7:=by kernel_rfl
 rw [hl'] at hl
 obtain ⟨x0,x1,x2,x3,x4,x5,x6,rfl⟩ : ∃ x0 x1 x2 x3 x4 x5 x6,xs = [x0,x1,x2,x3,x4,x5,x6]:=by
  match xs,hl with
  | [x0,x1,x2,x3,x4,x5,x6],_=>exact ⟨x0,x1,x2,x3,x4,x5,x6,rfl⟩
 obtain ⟨y0,ys0,p0,q0,rfl,h0,hb0,rfl⟩:=cQ hb
 obtain ⟨y1,ys1,p1,q1,rfl,h1,hb1,rfl⟩:=cQ hb0
 obtain ⟨y2,ys2,p2,q2,rfl,h2,hb2,rfl⟩:=cQ hb1
 obtain ⟨y3,ys3,p3,q3,rfl,h3,hb3,rfl⟩:=cQ hb2
 obtain ⟨y4,ys4,p4,q4,rfl,h4,hb4,rfl⟩:=cQ hb3
 obtain ⟨y5,ys5,p5,q5,rfl,h5,hb5,rfl⟩:=cQ hb4
 obtain ⟨y6,ys6,p6,q6,rfl,h6,hb6,rfl⟩:=cQ hb5
 obtain ⟨rfl,rfl⟩:=og hb6
 refine oe (by kernel_rfl) (by kernel_rfl) w _ _ ?_
 obtain ⟨f0,f1,f2,hf,n0,t0,o0,n1,t1,o1,n2,t2,o2⟩:=Au
 rw [hf]
 refine cW (k:=.i64) 9998 (by rw [n0];decide) (by rw [t0];exact jj) (by rw [o0];rfl) (by rw [o0];rfl) h0 ?_
 refine cW (k:=.i64) 9998 (by rw [n1];decide) (by rw [t1];exact jj) (by rw [o1];rfl) (by rw [o1];rfl) h1 ?_
 have hn : f2.name ≠ "_" := by rw [n2]; decide
 have ha : gQ Tryz.prog f2.type = some true:=by rw [t2];kernel_rfl
 have hs : bR Tryz.prog f2.type = some 5:=by rw [t2];kernel_rfl
 have px : (part f2.type #[x0,x1,x2,x3,x4,x5,x6] f2.offset).run Tryz.prog w = .ok (.agg #[x2,x3,x4,x5,x6]) w:=by rw [o2];simp [part,run_isAgg ha,Eng.run_sizeOf hs]
 have py : (part f2.type #[y0,y1,y2,y3,y4,y5,y6] f2.offset).run Tryz.prog w = .ok (.agg #[y2,y3,y4,y5,y6]) w:=by rw [o2];simp [part,run_isAgg ha,Eng.run_sizeOf hs]
 have e : (Op.equalIn 9999 f2.type (.agg #[x2,x3,x4,x5,x6]) (.agg #[y2,y3,y4,y5,y6])).run Tryz.prog w = .ok (p2 && (p3 && (p4 && (p5 && (p6 && true))))) w:=by
  rw [t2,run_equalIn_struct w 9998 _ _ _ (by kernel_rfl) (by kernel_rfl)]
  exact Lc w x2 x3 x4 x5 x6 y2 y3 y4 y5 y6 h2 h3 h4 h5 h6
 simp only [Op.eqFields,ne_eq,hn,not_false_eq_true,if_true,Sem.run_bind,px,py,Result.andThen_ok,e]
 generalize (p2 && (p3 && (p4 && (p5 && (p6 && true))))) = B
 cases B<;>simp
theorem I5 : ∀ w : World,(zeroValue 3).run Tryz.prog w = .ok (.int .i64 0) w:=IQ (by kernel_rfl)
theorem G9 : (List.range 290).all (fun f => !(cfg.fn f) || match Tryz.prog.funcs[f]? with | some fn => !(fn.name == "runtime.NumGoroutine") && fn.body.isSome | none => false) = true := by kernel_rfl
theorem Kj {f : Nat} (h : cfg.fn f = true) : f < 290:=by
 simp only [cfg] at h
 split at h<;>first|(cases h;done)|exact Nat.le_of_ble_eq_true h
theorem ah : di Tryz.prog cfg where
 mixed:=by kernel_rfl
 zr:=by
  intro e t h
  simp only [cfg] at h
  split at h<;>first|(cases h;kernel_rfl)|(cases h;done)
 sz:=by
  intro e t h
  simp only [cfg] at h
  split at h<;>first|(cases h;exact ⟨by kernel_rfl,by kernel_rfl⟩)|(cases h;done)
 pk:=by
  intro t ik h
  simp only [cfg] at h
  split at h
  ·cases h
  ·cases h;exact Ao (kt:=43) (et:=3) (e:=3) (by kernel_rfl) (by kernel_rfl) (by kernel_rfl) (by kernel_rfl) I5
  ·cases h
 eq:=by
  intro t h
  simp only [cfg] at h
  split at h
  ·refine ⟨by kernel_rfl,fun w xs ys b hb hl=>?_⟩
   have hl' : bR Tryz.prog 66 = some 2:=by kernel_rfl
   rw [hl'] at hl
   obtain ⟨x0,x1,rfl⟩:=LG hl
   obtain ⟨y0,ys0,p,q,rfl,h0,hb0,rfl⟩:=cQ hb
   obtain ⟨y1,ys1,p1,q1,rfl,h1,hb1,rfl⟩:=cQ hb0
   obtain ⟨rfl,rfl⟩:=og hb1
   exact oe yE EX w _ _ (EZ 9998 w x0 x1 y0 y1 h0 h1)
  ·refine ⟨by kernel_rfl,fun w xs ys b hb hl=>?_⟩
   have hl' : bR Tryz.prog 68 = some 3:=by kernel_rfl
   rw [hl'] at hl
   obtain ⟨x0,x1,x2,rfl⟩:=Kh hl
   obtain ⟨y0,ys0,p,q,rfl,h0,hb0,rfl⟩:=cQ hb
   obtain ⟨y1,ys1,p1,q1,rfl,h1,hb1,rfl⟩:=cQ hb0
   obtain ⟨y2,ys2,p2,q2,rfl,h2,hb2,rfl⟩:=cQ hb1
   obtain ⟨rfl,rfl⟩:=og hb2
   exact oe (by kernel_rfl) (by kernel_rfl) w _ _ (Ki w x0 x1 x2 y0 y1 y2 h0 h1 h2)
  ·exact ⟨by kernel_rfl,fun w xs ys b hb hl=>G7 w xs ys b hb hl⟩
  ·exact ⟨by kernel_rfl,fun w xs ys b hb hl=>G8 w xs ys b hb hl⟩
  ·cases h
 call:=by
  intro f hf args w
  have h:=G9
  have:=List.all_eq_true.1 h f (List.mem_range.2 (Kj hf))
  rw [hf] at this
  simp only [Bool.not_true,Bool.false_or] at this
  cases hfn : Tryz.prog.funcs[f]? with
  | none=>rw [hfn] at this;cases this
  | some fn =>
   rw [hfn] at this
   simp only [Bool.and_eq_true,Bool.not_eq_true'] at this
   have hn : fn.name ≠ "runtime.NumGoroutine" := by have h1 := this.1; simpa using h1
   have hb : fn.body ≠ none:=by intro e;have h2:=this.2;rw [e] at h2;cases h2
   simp [callFunc,hfn,hn,hb]
 over:=by
  intro f hf
  simp only [cfg] at hf
  split at hf
  ·cases hf
  ·exact u5 (fn:=Tryz.f251) (t:=54) (tR:=4) (e:=125) (z:=2) Tryz.func251 (by kernel_rfl) (by kernel_rfl) (by kernel_rfl) (by kernel_rfl) (by kernel_rfl) (by kernel_rfl)
  ·exact u5 (fn:=Tryz.f278) (t:=23) (tR:=4) (e:=56) (z:=5) Tryz.func278 (by kernel_rfl) (by kernel_rfl) (by kernel_rfl) (by kernel_rfl) (by kernel_rfl) (by kernel_rfl)
  ·exact u5 (fn:=Tryz.f188) (t:=24) (tR:=4) (e:=46) (z:=7) Tryz.func188 (by kernel_rfl) (by kernel_rfl) (by kernel_rfl) (by kernel_rfl) (by kernel_rfl) (by kernel_rfl)
  ·cases hf
theorem aF {fid : FuncId} {fn : Func} (hf : Tryz.prog.funcs[fid]? = some fn) (nt : Nat) {c : Code} {args : List AV} {v : AV} (h : ev Tryz.prog cfg 0 c (xL Tryz.prog 0 fn.results.toList v []) (args ++ ft nt) []) (hb : fn.body = some c:=by exact rfl) (hn : fn.ntmps - args.length = nt:=by exact rfl) (hv : scA 0 v = true:=by exact rfl) : Api Tryz.prog fid args v:=Api.of_fin ah hf hb hn hv h
theorem eF {fid : FuncId} {fn : Func} (hf : Tryz.prog.funcs[fid]? = some fn) (nt : Nat) {c : Code} {args : List AV} {m0 m1 : Mem} {v : AV} (h : ev Tryz.prog cfg L c (xL Tryz.prog L fn.results.toList v m1) (args ++ ft nt) m0) (hb : fn.body = some c:=by exact rfl) (hn : fn.ntmps - args.length = nt:=by exact rfl) (hv : scA L v = true:=by exact rfl) (hm : scM L m1 = true:=by exact rfl) : Ev1 Tryz.prog fid args m0 v m1:=Ev1.of_fin ah hf hb hn hv hm h
open Go Go.RowKit Eng
def ak (i : Int) : Int:=if i < 1 then 0 else if i = 9 then 4 else if i = 12 then 1 else if i ≤ 12 then 16 else 0
def cG (i : Int) : Bool:=decide (1 ≤ i) && decide (i ≤ 10) && !(decide (i = 6)) && !(decide (i = 8))
theorem C_ {i : Int} (h0 : 0 ≤ i) (h : i < 13) : i = 0 ∨ i = 1 ∨ i = 2 ∨ i = 3 ∨ i = 4 ∨ i = 5 ∨ i = 6 ∨ i = 7 ∨ i = 8 ∨ i = 9 ∨ i = 10 ∨ i = 11 ∨ i = 12:=by omega
theorem tJ (s : ByteArray) (n : Int) (b : AV) (hb : b = .tt ∨ b = .ff) (g : Int) : Api Tryz.prog 254 [.agg [.lit (.string s),.lit (.int .i64 n),b,.lit (.int .u8 g)]] (.lit (.int .i64 n)):=by
 rcases hb with rfl|rfl
 all_goals
  refine Api.of_ev ah Tryz.func254 rfl (nt:=4) rfl ?_
  conv=>whnf
  exact ⟨Le.refl _,rfl⟩
theorem Kk (i : Int) (h : 13 ≤ i) (h2 : i ≤ 255) : Api Tryz.prog 253 [.lit (.int .u8 i),.lit (.func (.func 254) #[] #[])] (.lit (.int .i64 0)):=by
 refine Api.of_ev ah Tryz.func253 rfl (nt:=29) rfl ?_
 conv=>whnf
 refine .inl ⟨GT (by omega) (by omega),?_⟩
 conv=>whnf
 refine ⟨fun h=>?_,fun h=>absurd h (by simp;omega)⟩
 conv=>whnf
 refine nF (tJ _ _ _ (.inr rfl) _) rfl rfl ?_
 conv=>whnf
 exact ⟨Le.refl _,rfl⟩
theorem Kl (i : Int) (h : 0 ≤ i) (h2 : i < 13) : Api Tryz.prog 253 [.lit (.int .u8 i),.lit (.func (.func 254) #[] #[])] (.lit (.int .i64 (ak i))):=by
 rcases C_ h h2 with rfl|rfl|rfl|rfl|rfl|rfl|rfl|rfl|rfl|rfl|rfl|rfl|rfl
 all_goals
  refine Api.of_ev ah Tryz.func253 rfl (nt:=29) rfl ?_
  conv=>whnf
  refine .inl ⟨GT (by omega) (by omega),?_⟩
  conv=>whnf
  refine ⟨fun h=>absurd h (by decide),fun h=>?_⟩
  conv=>whnf
  refine ⟨⟨by decide,by decide⟩,?_⟩
  conv=>whnf
  refine nF (tJ _ _ _ (by first|exact .inl rfl|exact .inr rfl) _) rfl rfl ?_
  conv=>whnf
  exact ⟨Le.refl _,rfl⟩
theorem km (i : Int) (h : 0 ≤ i) (h2 : i ≤ 255) : Api Tryz.prog 196 [.lit (.int .u8 i)] (.lit (.int .i64 (ak i))):=by
 refine Api.of_ev ah Tryz.func196 rfl (nt:=4) rfl ?_
 conv=>whnf
 by_cases h3 : i < 13
 ·refine nF (Kl i h h3) rfl rfl ?_
  conv=>whnf
  exact ⟨Le.refl _,rfl⟩
 ·refine nF (Kk i (by omega) h2) rfl rfl ?_
  conv=>whnf
  refine ⟨Le.int ?_,rfl⟩
  unfold ak
  rw [if_neg (by omega),if_neg (by omega),if_neg (by omega),if_neg (by omega)]
open Go Go.RowKit Eng
theorem vJ (s : ByteArray) (n : Int) (g : Int) : Api Tryz.prog 204 [.agg [.lit (.string s),.lit (.int .i64 n),.tt,.lit (.int .u8 g)]] (bol true):=by
 refine aF Tryz.func204 4 ?_
 exact fD0
theorem mQ (s : ByteArray) (n : Int) (g : Int) : Api Tryz.prog 204 [.agg [.lit (.string s),.lit (.int .i64 n),.ff,.lit (.int .u8 g)]] (bol false):=by
 refine aF Tryz.func204 4 ?_
 exact fD0
theorem E1 (i : Int) (h : 13 ≤ i) (h2 : i ≤ 255) : Api Tryz.prog 203 [.lit (.int .u8 i),.lit (.func (.func 204) #[] #[])] (bol false):=by
 refine aF Tryz.func203 29 ?_
 conv=>whnf
 repeat' (first|exact trivial|((first|refine kL ?_|(refine ⟨fun hb=>?_,fun hb=>?_⟩<;>(try simp only [nrm] at hb)<;>try exact kZ hb)|(refine isE 204 ?_;refine kA (mQ _ _ _) ?_)|(refine isD 204 ?_;refine kD (mQ _ _ _) ?_)|refine kV ?_)<;>(conv=>whnf))|refine kY ?_ ?_)
theorem E2 (i : Int) (h : 0 ≤ i) (h2 : i < 13) : Api Tryz.prog 203 [.lit (.int .u8 i),.lit (.func (.func 204) #[] #[])] (bol (cG i)):=by
 rcases C_ h h2 with rfl|rfl|rfl|rfl|rfl|rfl|rfl|rfl|rfl|rfl|rfl|rfl|rfl
 all_goals
  refine aF Tryz.func203 29 ?_
  conv=>whnf
  repeat' (first|exact trivial|((first|refine kL ?_|(refine ⟨fun hb=>?_,fun hb=>?_⟩<;>(try simp only [nrm] at hb)<;>try exact kZ hb)|(refine ⟨⟨by decide,by decide⟩,?_⟩)|(refine isE 204 ?_;refine kA (mQ _ _ _) ?_)|(refine isD 204 ?_;refine kD (mQ _ _ _) ?_)|(refine isE 204 ?_;refine kA (vJ _ _ _) ?_)|(refine isD 204 ?_;refine kD (vJ _ _ _) ?_)|refine kV ?_)<;>(conv=>whnf))|refine kY ?_ ?_)
theorem vK {i : Int} (h : 13 ≤ i) : cG i = false:=by
 unfold cG
 rw [decide_eq_false (by omega : ¬ i ≤ 10)]
 simp
theorem gS (i : Int) (h : 0 ≤ i) (h2 : i ≤ 255) : Api Tryz.prog 132 [.lit (.int .u8 i)] (bol (cG i)):=by
 by_cases h3 : i < 13
 ·refine aF Tryz.func132 4 ?_
  conv=>whnf
  repeat' (first|exact trivial|((first|refine kL ?_|(refine ⟨fun hb=>?_,fun hb=>?_⟩<;>(try simp only [nrm] at hb)<;>try exact kZ hb)|(refine isE 203 ?_;refine kA (E2 i h h3) ?_)|(refine isD 203 ?_;refine kD (E2 i h h3) ?_)|refine kV ?_)<;>(conv=>whnf))|refine kY ?_ ?_)
 ·refine aF Tryz.func132 4 ?_
  rw [vK (by omega)]
  conv=>whnf
  repeat' (first|exact trivial|((first|refine kL ?_|(refine ⟨fun hb=>?_,fun hb=>?_⟩<;>(try simp only [nrm] at hb)<;>try exact kZ hb)|(refine isE 203 ?_;refine kA (E1 i (by omega) h2) ?_)|(refine isD 203 ?_;refine kD (E1 i (by omega) h2) ?_)|refine kV ?_)<;>(conv=>whnf))|refine kY ?_ ?_)
open Go Go.RowKit Eng
def big : Nat:=9000000000000000000
theorem ao {t : Ty} {l : List (El t)} {i : Nat} (h : i < l.length) : elt t l i ∈ l:=List.mem_of_getElem? (ar t l i h)
theorem fG {t : Ty} {l : List (El t)} {i : Int} (h0 : 0 ≤ i) (h : i < l.length) : elt t l i.toNat ∈ l:=ao (by omega)
theorem aY {t : Ty} {l : List (El t)} {i : Nat} (h : i < l.length) : l.drop i = elt t l i :: l.drop (i + 1):=by
 rw [List.drop_eq_getElem_cons h]
 have e:=ar t l i h
 rw [List.getElem?_eq_getElem h] at e
 rw [Option.some.inj e]
def b8 {α : Type} (p : α → Bool) : List α → Nat → Int
 | [],_=>-1
 | a :: r,i=>if p a then (i : Int) else b8 p r (i + 1)
theorem gT {α : Type} (p : α → Bool) (l : List α) (i : Nat) : decide (0 ≤ b8 p l i) = l.any p:=by
 induction l generalizing i with
 | nil=>simp [b8]
 | cons a r ih =>
  simp only [b8,List.any_cons]
  by_cases h : p a = true
  ·simp [h]
  ·simp [h,ih]
def aQ (s : aa) : Prop:=0 ≤ s.item ∧ s.item ≤ 255
def bC (s : aa) : Bool:=!(s.item == 0 && s.n == 0) && (decide (s.n < 1) || decide (ak s.item < s.n))
def an (l : List aa) : Bool:=!l.any bC
def gU (a b : aa) : Bool:=(a.item == b.item) && (a.n == b.n)
def fw (a b : List aa) : Bool:=a.length == b.length && (List.range a.length).all fun i=>gU (elt .slot a i) (elt .slot b i)
theorem tK (s : aa) (h : aQ s) : Api Tryz.prog 255 [.agg [.lit (.int .u8 s.item),.lit (.int .i64 s.n)]] (bol (bC s)):=by
 refine aF Tryz.func255 18 ?_
 conv=>whnf
 repeat' (first|exact trivial|((first|refine kL ?_|(refine ⟨fun hb=>?_,fun hb=>?_⟩<;>(try simp only [nrm] at hb)<;>try exact kZ hb)|(refine isE 196 ?_;refine kA (km _ h.1 h.2) ?_)|(refine isD 196 ?_;refine kD (km _ h.1 h.2) ?_)|refine kV ?_)<;>(conv=>whnf))|refine kY ?_ ?_)
 all_goals (refine congrArg Value.bool ?_;rw [Bool.eq_iff_iff];simp only [bC,Bool.and_eq_true,Bool.or_eq_true,Bool.not_eq_true',Bool.and_eq_false_iff,Bool.or_eq_false_iff,decide_eq_true_eq,decide_eq_false_iff_not,beq_iff_eq,beq_eq_false_iff_ne,bne_iff_ne,ne_eq,Bool.false_eq_true,Int.toNat_natCast,eq_self,iff_true,true_iff,iff_false,false_iff,Bool.true_eq_false,not_and,Decidable.not_not,not_true_eq_false,not_false_eq_true];(first|done|omega|(simp_all;done)|(simp_all;omega)))
theorem vL (l : List (El .slot)) (hl : l.length ≤ big) (hw : ∀ s ∈ l,aQ s) : Api Tryz.prog 250 [.vec .slot l,.lit (.func (.func 255) #[] #[])] (i64 (b8 bC l 0)):=by
 unfold big at hl
 refine aF Tryz.func250 17 ?_
 conv=>whnf
 refine ap.loopS ah (σ:=Nat) [0,1,7,8] (fun k=>[.vec .slot l,.lit (.func (.func 255) #[] #[]),i64 l.length,i64 k]) (fun _=>[]) (fun k=>k ≤ l.length ∧ b8 bC (l.drop k) k = b8 bC l 0) (fun k=>l.length - k) 0 ⟨by omega,rfl⟩ ?_ ?_
 ·exact fD0
 ·intro k ⟨hk,he⟩
  by_cases hlt : k < l.length
  ·rw [aY hlt] at he
   simp only [b8] at he
   conv=>whnf
   repeat' (first|exact trivial|((first|refine kL ?_|(refine ⟨fun hb=>?_,fun hb=>?_⟩<;>(try simp only [nrm] at hb)<;>try exact kZ hb)|(refine isE 255 ?_;refine kA (tK _ (hw _ (fG (by omega) (by omega)))) ?_)|(refine isD 255 ?_;refine kD (tK _ (hw _ (fG (by omega) (by omega)))) ?_)|refine kV ?_)<;>(conv=>whnf))|refine kY ?_ ?_)
   ·rw [← he,if_pos hb]
   ·refine .to (k + 1) ⟨hlt,?_⟩ (by omega) ?_
    ·rw [← he,if_neg (by simp [hb])]
    ·exact fD0
  ·conv=>whnf
   repeat' (first|exact trivial|((first|(refine ⟨fun hb=>?_,fun hb=>?_⟩<;>(try simp only [nrm] at hb)<;>try exact kZ hb)|refine kV ?_)<;>(conv=>whnf))|refine kY ?_ ?_)
   have : k = l.length:=by omega
   subst this
   simp only [List.drop_length,b8] at he
   rw [← he]
theorem vM (l : List (El .slot)) (hl : l.length ≤ big) (hw : ∀ s ∈ l,aQ s) : Api Tryz.prog 192 [.vec .slot l,.lit (.func (.func 255) #[] #[])] (bol (l.any bC)):=by
 refine aF Tryz.func192 7 ?_
 conv=>whnf
 repeat' (first|exact trivial|((first|refine kL ?_|(refine ⟨fun hb=>?_,fun hb=>?_⟩<;>(try simp only [nrm] at hb)<;>try exact kZ hb)|(refine isE 250 ?_;refine kA (vL l hl hw) ?_)|(refine isD 250 ?_;refine kD (vL l hl hw) ?_)|refine kV ?_)<;>(conv=>whnf))|refine kY ?_ ?_)
 rw [gT]
theorem gV (l : List (El .slot)) (hl : l.length ≤ big) (hw : ∀ s ∈ l,aQ s) : Api Tryz.prog 197 [.vec .slot l] (bol (an l)):=by
 refine aF Tryz.func197 5 ?_
 conv=>whnf
 repeat' (first|exact trivial|((first|refine kL ?_|(refine ⟨fun hb=>?_,fun hb=>?_⟩<;>(try simp only [nrm] at hb)<;>try exact kZ hb)|(refine isE 192 ?_;refine kA (vM l hl hw) ?_)|(refine isD 192 ?_;refine kD (vM l hl hw) ?_)|refine kV ?_)<;>(conv=>whnf))|refine kY ?_ ?_)
 all_goals trace_state
theorem fU (l : List (El .slot)) (n : Int) (hl : l.length ≤ big) (hw : ∀ s ∈ l,aQ s) : Api Tryz.prog 172 [.vec .slot l,i64 n] (bol (decide ((l.length : Int) = n) && an l)):=by
 refine aF Tryz.func172 11 ?_
 conv=>whnf
 repeat' (first|exact trivial|((first|refine kL ?_|(refine ⟨fun hb=>?_,fun hb=>?_⟩<;>(try simp only [nrm] at hb)<;>try exact kZ hb)|(refine isE 197 ?_;refine kA (gV l hl hw) ?_)|(refine isD 197 ?_;refine kD (gV l hl hw) ?_)|refine kV ?_)<;>(conv=>whnf))|refine kY ?_ ?_)
 ·rw [decide_eq_true hb];rfl
 ·rw [decide_eq_false hb];rfl
theorem tL {a b : List aa} {k : Nat} (hk : k < a.length) (h : gU (elt .slot a k) (elt .slot b k) = false) : fw a b = false:=by
 unfold fw
 have : ((List.range a.length).all fun i=>gU (elt .slot a i) (elt .slot b i)) = false:=by
  rw [List.all_eq_false]
  exact ⟨k,List.mem_range.2 hk,by rw [h];simp⟩
 rw [this,Bool.and_false]
theorem jJ {a b : List aa} (hl : a.length = b.length) (h : ∀ i < a.length,gU (elt .slot a i) (elt .slot b i) = true) : fw a b = true:=by
 unfold fw
 have : ((List.range a.length).all fun i=>gU (elt .slot a i) (elt .slot b i)) = true:=by
  rw [List.all_eq_true]
  exact fun k hk=>h k (List.mem_range.1 hk)
 rw [this,hl];simp
theorem kO (a b : List (El .slot)) (ha : a.length ≤ big) : Api Tryz.prog 76 [.vec .slot a,.vec .slot b] (bol (fw a b)):=by
 unfold big at ha
 refine aF Tryz.func76 24 ?_
 conv=>whnf
 repeat' (first|exact trivial|((first|(refine ⟨fun hb=>?_,fun hb=>?_⟩<;>(try simp only [nrm] at hb)<;>try exact kZ hb)|refine kV ?_)<;>(conv=>whnf))|refine kY ?_ ?_)
 ·rw [show fw a b = false by unfold fw;rw [show (a.length == b.length) = false by simp;omega];rfl]
 ·refine ap.loopS ah (σ:=Nat) [0,1,12,13] (fun k=>[.vec .slot a,.vec .slot b,i64 a.length,i64 k]) (fun _=>[]) (fun k=>k ≤ a.length ∧ ∀ i < k,gU (elt .slot a i) (elt .slot b i) = true) (fun k=>a.length - k) 0 ⟨by omega,by omega⟩ ?_ ?_
  ·exact fD0
  ·intro k ⟨hk,he⟩
   conv=>whnf
   repeat' (first|exact trivial|((first|(refine ⟨fun hb=>?_,fun hb=>?_⟩<;>(try simp only [nrm] at hb)<;>try exact kZ hb)|refine kV ?_)<;>(conv=>whnf))|refine kY ?_ ?_)
   ·rw [tL (by omega : k < a.length) (by simp only [gU,Bool.and_eq_false_iff,beq_eq_false_iff_ne];exact hb)]
   ·refine .to (k + 1) ⟨by omega,fun i hi=>?_⟩ (by omega) ?_
    ·by_cases hik : i = k
     ·subst hik;simpa [gU] using hb
     ·exact he i (by omega)
    ·exact fD0
   ·rw [jJ (by omega) (fun i hi=>he i (by omega))]
theorem lI (n : Int) (h : 0 ≤ n) (h2 : n ≤ 64) : Api Tryz.prog 63 [i64 n] (.vec .slot (List.replicate n.toNat ⟨0,0⟩)):=by
 refine aF Tryz.func63 6 ?_
 conv=>whnf
 repeat' (first|exact trivial|((first|(refine ⟨fun hb=>?_,fun hb=>?_⟩<;>(try simp only [nrm] at hb)<;>try exact kZ hb)|refine kV ?_)<;>(conv=>whnf))|refine kY ?_ ?_)
 have e : min (max n 0) 64 = n:=by omega
 rw [e]
 simp [dO]
open Go Go.RowKit Eng
theorem bz (n : Int) : Api Tryz.prog 175 [i64 n] (bol (decide (0 ≤ n) && decide (n < 64))):=by
 refine aF Tryz.func175 8 ?_
 conv=>whnf
 repeat' (first|exact trivial|((first|(refine ⟨fun hb=>?_,fun hb=>?_⟩<;>(try simp only [nrm] at hb)<;>try exact kZ hb)|refine kV ?_)<;>(conv=>whnf))|refine kY ?_ ?_)
 all_goals (refine congrArg Value.bool ?_;rw [Bool.eq_iff_iff];simp only [bC,Bool.and_eq_true,Bool.or_eq_true,Bool.not_eq_true',Bool.and_eq_false_iff,Bool.or_eq_false_iff,decide_eq_true_eq,decide_eq_false_iff_not,beq_iff_eq,beq_eq_false_iff_ne,bne_iff_ne,ne_eq,Bool.false_eq_true,Int.toNat_natCast,eq_self,iff_true,true_iff,iff_false,false_iff,Bool.true_eq_false,not_and,Decidable.not_not,not_true_eq_false,not_false_eq_true];(first|done|omega|(simp_all;done)|(simp_all;omega)))
def ei (s : aa) : Bool:=decide (1 ≤ s.n) && decide (s.n ≤ ak s.item)
theorem sE (s : aa) (h : aQ s) : Api Tryz.prog 176 [.agg [.lit (.int .u8 s.item),.lit (.int .i64 s.n)]] (bol (ei s)):=by
 refine aF Tryz.func176 13 ?_
 conv=>whnf
 repeat' (first|exact trivial|((first|refine kL ?_|(refine ⟨fun hb=>?_,fun hb=>?_⟩<;>(try simp only [nrm] at hb)<;>try exact kZ hb)|(refine isE 196 ?_;refine kA (km _ h.1 h.2) ?_)|(refine isD 196 ?_;refine kD (km _ h.1 h.2) ?_)|refine kV ?_)<;>(conv=>whnf))|refine kY ?_ ?_)
 all_goals (refine congrArg Value.bool ?_;rw [Bool.eq_iff_iff];simp only [ei,Bool.and_eq_true,Bool.or_eq_true,Bool.not_eq_true',Bool.and_eq_false_iff,Bool.or_eq_false_iff,decide_eq_true_eq,decide_eq_false_iff_not,beq_iff_eq,beq_eq_false_iff_ne,bne_iff_ne,ne_eq,Bool.false_eq_true,Int.toNat_natCast,eq_self,iff_true,true_iff,iff_false,false_iff,Bool.true_eq_false,not_and,Decidable.not_not,not_true_eq_false,not_false_eq_true];(first|done|omega|(simp_all;done)|(simp_all;omega)))
def tM (h : du) : Prop:=aQ h.slot
def cw (h : du) : Bool:=!(decide (0 ≤ h.cell) && decide (h.cell < 64)) || !ei h.slot
theorem rF (h : du) (hk : tM h) : Api Tryz.prog 174 [.agg [.lit (.int .i64 h.cell),.lit (.int .u8 h.slot.item),.lit (.int .i64 h.slot.n)]] (bol (cw h)):=by
 refine aF Tryz.func174 12 ?_
 conv=>whnf
 repeat' (first|exact trivial|((first|refine kL ?_|(refine ⟨fun hb=>?_,fun hb=>?_⟩<;>(try simp only [nrm] at hb)<;>try exact kZ hb)|(refine isE 175 ?_;refine kA (bz _) ?_)|(refine isD 175 ?_;refine kD (bz _) ?_)|(refine isE 176 ?_;refine kA (sE _ hk) ?_)|(refine isD 176 ?_;refine kD (sE _ hk) ?_)|refine kV ?_)<;>(conv=>whnf))|refine kY ?_ ?_)
 all_goals (refine congrArg Value.bool ?_;rw [Bool.eq_iff_iff];simp only [cw,Bool.and_eq_true,Bool.or_eq_true,Bool.not_eq_true',Bool.and_eq_false_iff,Bool.or_eq_false_iff,decide_eq_true_eq,decide_eq_false_iff_not,beq_iff_eq,beq_eq_false_iff_ne,bne_iff_ne,ne_eq,Bool.false_eq_true,Int.toNat_natCast,eq_self,iff_true,true_iff,iff_false,false_iff,Bool.true_eq_false,not_and,Decidable.not_not,not_true_eq_false,not_false_eq_true];(first|done|omega|(simp_all;done)|(simp_all;omega)))
theorem yF (l : List (El .heap)) (hl : l.length ≤ big) (hw : ∀ s ∈ l,tM s) : Api Tryz.prog 228 [.vec .heap l,.lit (.func (.func 174) #[] #[])] (i64 (b8 cw l 0)):=by
 unfold big at hl
 refine aF Tryz.func228 17 ?_
 conv=>whnf
 refine ap.loopS ah (σ:=Nat) [0,1,7,8] (fun k=>[.vec .heap l,.lit (.func (.func 174) #[] #[]),i64 l.length,i64 k]) (fun _=>[]) (fun k=>k ≤ l.length ∧ b8 cw (l.drop k) k = b8 cw l 0) (fun k=>l.length - k) 0 ⟨by omega,rfl⟩ ?_ ?_
 ·exact fD0
 ·intro k ⟨hk,he⟩
  by_cases hlt : k < l.length
  ·rw [aY hlt] at he
   simp only [b8] at he
   conv=>whnf
   repeat' (first|exact trivial|((first|refine kL ?_|(refine ⟨fun hb=>?_,fun hb=>?_⟩<;>(try simp only [nrm] at hb)<;>try exact kZ hb)|(refine isE 174 ?_;refine kA (rF _ (hw _ (fG (by omega) (by omega)))) ?_)|(refine isD 174 ?_;refine kD (rF _ (hw _ (fG (by omega) (by omega)))) ?_)|refine kV ?_)<;>(conv=>whnf))|refine kY ?_ ?_)
   ·simp only [cw,Bool.and_eq_true,Bool.or_eq_true,Bool.not_eq_true',Bool.and_eq_false_iff,Bool.or_eq_false_iff,decide_eq_true_eq,decide_eq_false_iff_not] at hb he
    rw [← he,if_pos hb]
   ·simp only [cw,Bool.and_eq_true,Bool.or_eq_true,Bool.not_eq_true',Bool.and_eq_false_iff,Bool.or_eq_false_iff,decide_eq_true_eq,decide_eq_false_iff_not] at hb
    refine .to (k + 1) ⟨hlt,?_⟩ (by omega) ?_
    ·rw [← he,if_neg (by simp only [cw,Bool.and_eq_true,Bool.or_eq_true,Bool.not_eq_true',Bool.and_eq_false_iff,Bool.or_eq_false_iff,decide_eq_true_eq,decide_eq_false_iff_not];first|omega|(simp [hb];done)|(simp_all;done))]
    ·exact fD0
  ·conv=>whnf
   repeat' (first|exact trivial|((first|(refine ⟨fun hb=>?_,fun hb=>?_⟩<;>(try simp only [nrm] at hb)<;>try exact kZ hb)|refine kV ?_)<;>(conv=>whnf))|refine kY ?_ ?_)
   have : k = l.length:=by omega
   subst this
   simp only [List.drop_length,b8] at he
   rw [← he]
theorem yG (l : List (El .heap)) (hl : l.length ≤ big) (hw : ∀ s ∈ l,tM s) : Api Tryz.prog 173 [.vec .heap l,.lit (.func (.func 174) #[] #[])] (bol (l.any cw)):=by
 refine aF Tryz.func173 7 ?_
 conv=>whnf
 repeat' (first|exact trivial|((first|refine kL ?_|(refine ⟨fun hb=>?_,fun hb=>?_⟩<;>(try simp only [nrm] at hb)<;>try exact kZ hb)|(refine isE 228 ?_;refine kA (yF l hl hw) ?_)|(refine isD 228 ?_;refine kD (yF l hl hw) ?_)|refine kV ?_)<;>(conv=>whnf))|refine kY ?_ ?_)
 rw [gT]
open Go Go.RowKit Eng
def Io (b : Box) : Prop:=(∀ s ∈ b.bag,aQ s) ∧ b.bag.length ≤ big
structure OkC (c : Chunk) : Prop where
 cells : ∀ i ∈ c.cells,0 ≤ i ∧ i ≤ 255
 heaps : ∀ h ∈ c.heaps,tM h
 boxes : ∀ b ∈ c.boxes,Io b
 nc : c.cells.length ≤ big
 nh : c.heaps.length ≤ big
 nb : c.boxes.length ≤ big
def cK (i : Int) : Bool:=(i == 0) || cG i
def gn (b : Box) (k : Int) : Bool:=(b.cell == k) && (decide ((b.bag.length : Int) = 6) && an b.bag)
def bT : List Int → Nat → List Box → Option (List Box)
 | [],_,bs=>some bs
 | i :: r,k,bs=>if cK i then (if i = 9 then (match bs with
  | []=>none
  | b :: bs=>if gn b k then bT r (k + 1) bs else none) else bT r (k + 1) bs) else none
def dP (c : Chunk) : Bool:=decide (0 ≤ c.x) && (decide (0 ≤ c.y) && (decide (c.x < 16) && (decide (c.y < 16) && (decide ((c.cells.length : Int) = 64) && decide ((c.heaps.length : Int) ≤ 32)))))
def ai (c : Chunk) : Bool:=dP c && (match bT c.cells 0 c.boxes with
 | some []=>!(c.heaps.any cw)
 | _=>false)
theorem gF {c : Chunk} (h : bT c.cells 0 c.boxes = none) : ai c = false:=by unfold ai;rw [h,Bool.and_false]
theorem rG {c : Chunk} (h : dP c = false) : ai c = false:=by unfold ai;rw [h,Bool.false_and]
abbrev bB (c : Chunk) : List AV:=[i64 c.x,i64 c.y,.vec .u8 c.cells,.vec .heap c.heaps,.vec .box c.boxes]
abbrev bq (c : Chunk) : AV:=.agg [i64 c.x,i64 c.y,.vec .u8 c.cells,.vec .heap c.heaps,.vec .box c.boxes]
theorem oh (a : Box) (l : List Box) : elt .box (List.cons (α:=Box) a l) 0 = a:=rfl
theorem gp (c : Chunk) (hc : OkC c) : Api Tryz.prog 91 [bq c] (bol (ai c)):=by
 have nc:=hc.nc
 have nb:=hc.nb
 unfold big at nc nb
 refine aF Tryz.func91 81 ?_
 conv=>whnf
 repeat' (first|exact trivial|((first|(refine ⟨fun hb=>?_,fun hb=>?_⟩<;>(try simp only [nrm] at hb)<;>try exact kZ hb)|refine kV ?_)<;>(conv=>whnf))|refine kY ?_ ?_)
 all_goals (try (rw [rG (by simp only [dP,Bool.and_eq_false_iff,decide_eq_false_iff_not];omega)];done))
 have hH : dP c = true:=by simp only [dP,Bool.and_eq_true,decide_eq_true_eq];omega
 refine ap.loopS ah (σ:=Nat × List Box) [1,3,35,36,37] (fun (k,bs)=>[.ptr 2 0,.vec .box bs,.vec .u8 c.cells,i64 c.cells.length,i64 k]) (fun _=>[(2,.box (bB c))]) (fun (k,bs)=>k ≤ c.cells.length ∧ bT (c.cells.drop k) k bs = bT c.cells 0 c.boxes ∧ (∀ b ∈ bs,Io b) ∧ bs.length ≤ 9000000000000000000) (fun (k,_)=>c.cells.length - k) (0,c.boxes) ⟨by omega,rfl,hc.boxes,nb⟩ ?_ ?_
 ·exact fD0
 ·rintro ⟨k,bs⟩ ⟨hk,he,hB,hn⟩
  by_cases hlt : k < c.cells.length
  ·rw [aY (t:=.u8) hlt] at he
   simp only [bT] at he
   have hcell:=hc.cells _ (ao (t:=.u8) hlt)
   cases bs with
   | nil =>
    simp only [List.length_nil] at hn
    conv=>whnf
    repeat' (first|exact trivial|((first|refine kL ?_|(refine ⟨fun hb=>?_,fun hb=>?_⟩<;>(try simp only [nrm] at hb)<;>try exact kZ hb)|(refine isE 132 ?_;refine kA (gS _ hcell.1 hcell.2) ?_)|(refine isD 132 ?_;refine kD (gS _ hcell.1 hcell.2) ?_)|refine kV ?_)<;>(conv=>whnf))|refine kY ?_ ?_)
    all_goals first
     | (rw [gF (by rw [← he];simp_all [cK])];done)
     | (refine .to (k + 1,[]) ⟨hlt,by rw [← he];simp_all [cK],hB,hn⟩ (by dsimp only;omega) ?_;(conv=>whnf))
     | skip
    repeat' (first|exact trivial|((first|(refine ⟨fun hb=>?_,fun hb=>?_⟩<;>(try simp only [nrm] at hb)<;>try exact kZ hb)|refine kV ?_)<;>(conv=>whnf))|refine kY ?_ ?_)
   | cons b bs =>
    have hbx:=hB b (by simp)
    simp only [List.length_cons] at hn
    conv=>whnf
    repeat' (first|exact trivial|((first|refine kL ?_|(refine ⟨fun hb=>?_,fun hb=>?_⟩<;>(try simp only [nrm] at hb)<;>try exact kZ hb)|(refine isE 132 ?_;refine kA (gS _ hcell.1 hcell.2) ?_)|(refine isD 132 ?_;refine kD (gS _ hcell.1 hcell.2) ?_)|(refine isE 172 ?_;refine kA (fU _ _ hbx.2 hbx.1) ?_)|(refine isD 172 ?_;refine kD (fU _ _ hbx.2 hbx.1) ?_)|refine kV ?_)<;>(conv=>whnf))|refine kY ?_ ?_)
    all_goals (try simp only [oh,Int.toNat_zero] at *)
    all_goals first
     | (rw [gF (by rw [← he];simp only [cK,gn];grind)];done)
     | (refine .to (k + 1,b :: bs) ⟨hlt,by rw [← he];simp only [cK,gn];grind,hB,by simp only [List.length_cons];omega⟩ (by dsimp only;omega) ?_;(conv=>whnf))
     | (refine .to (k + 1,bs) ⟨hlt,by rw [← he];simp only [cK,gn];grind,fun x hx=>hB x (by simp [hx]),by dsimp only;omega⟩ (by dsimp only;omega) ?_;(conv=>whnf);refine ⟨by simp,?_⟩;(conv=>whnf))
    repeat' (first|exact trivial|((first|(refine ⟨fun hb=>?_,fun hb=>?_⟩<;>(try simp only [nrm] at hb)<;>try exact kZ hb)|refine kV ?_)<;>(conv=>whnf))|refine kY ?_ ?_)
  ·have hkl : k = c.cells.length:=by omega
   rw [List.drop_of_length_le (by omega)] at he
   simp only [bT] at he
   conv=>whnf
   repeat' (first|exact trivial|((first|refine kL ?_|(refine ⟨fun hb=>?_,fun hb=>?_⟩<;>(try simp only [nrm] at hb)<;>try exact kZ hb)|(refine isE 173 ?_;refine kA (yG _ hc.nh hc.heaps) ?_)|(refine isD 173 ?_;refine kD (yG _ hc.nh hc.heaps) ?_)|refine kV ?_)<;>(conv=>whnf))|refine kY ?_ ?_)
   ·obtain rfl : bs = []:=List.eq_nil_of_length_eq_zero (by omega)
    unfold ai
    rw [hH,← he]
    rfl
   ·unfold ai
    rw [hH,← he]
    cases bs with
    | nil=>simp at hb
    | cons b bs=>rfl
open Go Go.RowKit Eng
theorem bf (l : List (El .slot)) (hl : l.length * 16 ≤ 140737488355328) : Ev1 Tryz.prog 121 [.vec .slot l] [] (.own .slot 390001 0 l.length none) [(390001,.row .slot l)]:=by
 refine eF Tryz.func121 7 ?_
 conv=>whnf
 repeat' (first|exact trivial|((first|(refine ⟨fun hb=>?_,fun hb=>?_⟩<;>(try simp only [nrm] at hb)<;>try exact kZ hb)|refine kV ?_)<;>(conv=>whnf))|refine kY ?_ ?_)
 all_goals simp_all
theorem a8 (l : List (El .slot)) (hl : l.length * 16 ≤ 140737488355328) : Api Tryz.prog 121 [.vec .slot l] (.vec .slot l):=by
 refine aF Tryz.func121 7 ?_
 conv=>whnf
 repeat' (first|exact trivial|((first|(refine ⟨fun hb=>?_,fun hb=>?_⟩<;>(try simp only [nrm] at hb)<;>try exact kZ hb)|refine kV ?_)<;>(conv=>whnf))|refine kY ?_ ?_)
 all_goals simp_all
theorem j6 (l : List (El .u8)) (hl : l.length * 1 ≤ 140737488355328) : Ev1 Tryz.prog 146 [.vec .u8 l] [] (.own .u8 390001 0 l.length none) [(390001,.row .u8 l)]:=by
 refine eF Tryz.func146 7 ?_
 conv=>whnf
 repeat' (first|exact trivial|((first|(refine ⟨fun hb=>?_,fun hb=>?_⟩<;>(try simp only [nrm] at hb)<;>try exact kZ hb)|refine kV ?_)<;>(conv=>whnf))|refine kY ?_ ?_)
 all_goals simp_all
theorem j7 (l : List (El .heap)) (hl : l.length * 24 ≤ 140737488355328) : Ev1 Tryz.prog 147 [.vec .heap l] [] (.own .heap 390001 0 l.length none) [(390001,.row .heap l)]:=by
 refine eF Tryz.func147 7 ?_
 conv=>whnf
 repeat' (first|exact trivial|((first|(refine ⟨fun hb=>?_,fun hb=>?_⟩<;>(try simp only [nrm] at hb)<;>try exact kZ hb)|refine kV ?_)<;>(conv=>whnf))|refine kY ?_ ?_)
 all_goals simp_all
theorem j8 (l : List (El .box)) (hl : l.length * 32 ≤ 140737488355328) : Ev1 Tryz.prog 148 [.vec .box l] [] (.own .box 390001 0 l.length none) [(390001,.row .box l)]:=by
 refine eF Tryz.func148 7 ?_
 conv=>whnf
 repeat' (first|exact trivial|((first|(refine ⟨fun hb=>?_,fun hb=>?_⟩<;>(try simp only [nrm] at hb)<;>try exact kZ hb)|refine kV ?_)<;>(conv=>whnf))|refine kY ?_ ?_)
 all_goals simp_all
theorem pG (l : List (El .chunk)) (hl : l.length * 88 ≤ 140737488355328) : Ev1 Tryz.prog 186 [.vec .chunk l] [] (.own .chunk 390001 0 l.length none) [(390001,.row .chunk l)]:=by
 refine eF Tryz.func186 7 ?_
 conv=>whnf
 repeat' (first|exact trivial|((first|(refine ⟨fun hb=>?_,fun hb=>?_⟩<;>(try simp only [nrm] at hb)<;>try exact kZ hb)|refine kV ?_)<;>(conv=>whnf))|refine kY ?_ ?_)
 all_goals simp_all
theorem pd (l : List (El .player)) (hl : l.length * 88 ≤ 140737488355328) : Ev1 Tryz.prog 187 [.vec .player l] [] (.own .player 390001 0 l.length none) [(390001,.row .player l)]:=by
 refine eF Tryz.func187 7 ?_
 conv=>whnf
 repeat' (first|exact trivial|((first|(refine ⟨fun hb=>?_,fun hb=>?_⟩<;>(try simp only [nrm] at hb)<;>try exact kZ hb)|refine kV ?_)<;>(conv=>whnf))|refine kY ?_ ?_)
 all_goals simp_all
open Go Go.RowKit Eng
theorem mR {tt : Ty} (A R : List (El tt)) (p : Nat) (hp : p ≤ A.length) : (cN A p R).take p = A.take p:=by
 unfold cN
 rw [List.take_left' (by rw [List.length_take];omega)]
theorem j9 {tt : Ty} (A R : List (El tt)) (p : Nat) (hp : p ≤ A.length) : p ≤ (cN A p R).length:=by
 unfold cN
 rw [List.length_append,List.length_take];omega
theorem iV {tt : Ty} (A R : List (El tt)) (p : Nat) (hp : p ≤ A.length) : (cN A p R).take (p + R.length) = A.take p ++ R:=by
 unfold cN
 rw [← List.append_assoc]
 exact List.take_left' (by rw [List.length_append,List.length_take];omega)
open Go Go.RowKit Eng
structure fH (c : Chunk) : Prop where
 cells : c.cells.length * 1 ≤ 140737488351232
 heaps : c.heaps.length * 24 ≤ 140737488351232
 boxes : c.boxes.length * 32 ≤ 140737488351232
 bags : ∀ b ∈ c.boxes,b.bag.length * 16 ≤ 140737488351232
theorem rH (l : List Box) (k : Nat) : l.set k ⟨(elt .box l k).cell,(elt .box l k).bag⟩ = l:=by
 by_cases h : k < l.length
 ·have:=ar .box l k h
  apply List.ext_getElem? 
  intro i
  rw [List.getElem?_set]
  by_cases hik : k = i
  ·subst hik;rw [if_pos rfl,if_pos h,this]
  ·simp [hik]
 ·rw [List.set_eq_of_length_le (by omega)]
abbrev jk (c : Chunk) (a b d : Nat) : List AV:=[i64 c.x,i64 c.y,.own .u8 a 0 c.cells.length none,.own .heap b 0 c.heaps.length none,.own .box d 0 c.boxes.length none]
abbrev ko (c : Chunk) (a b d : Nat) : Mem:=[(a,.row .u8 c.cells),(b,.row .heap c.heaps),(d,.row .box c.boxes)]
theorem aN (c : Chunk) (hc : fH c) : Ev1 Tryz.prog 190 [bq c] [] (.agg (jk c 390001 390003 390005)) (ko c 390001 390003 390005):=by
 have h1:=hc.cells
 have h2:=hc.heaps
 have h3:=hc.boxes
 refine eF Tryz.func190 35 ?_
 conv=>whnf
 repeat' (first|exact trivial|((first|refine kL ?_|(refine ⟨fun hb=>?_,fun hb=>?_⟩<;>(try simp only [nrm] at hb)<;>try exact kZ hb)|(refine isE 146 ?_;refine kE (j6 _ (by omega)) [(390001,350001)] rfl ?_)|(refine isD 146 ?_;refine kF (j6 _ (by omega)) [(390001,350001)] rfl ?_)|(refine isE 147 ?_;refine kE (j7 _ (by omega)) [(390001,350003)] rfl ?_)|(refine isD 147 ?_;refine kF (j7 _ (by omega)) [(390001,350003)] rfl ?_)|(refine isE 148 ?_;refine kE (j8 _ (by omega)) [(390001,350005)] rfl ?_)|(refine isD 148 ?_;refine kF (j8 _ (by omega)) [(390001,350005)] rfl ?_)|refine kV ?_)<;>(conv=>whnf))|refine kY ?_ ?_)
 refine ap.loopS ah (σ:=Nat) [1,2,18,19] (fun k=>[.ptr 200002 0,.ptr 200004 0,i64 c.boxes.length,i64 k]) (fun _=>(200002,.box (jk c 350001 350003 350005)) :: (200004,.box (bB ⟨0,0,[],[],[]⟩)) :: ko c 350001 350003 350005) (fun k=>k ≤ c.boxes.length) (fun k=>c.boxes.length - k) 0 (by omega) ?_ ?_
 ·exact fD0
 ·intro k hk
  by_cases hlt : k < c.boxes.length
  ·have hbk:=hc.bags _ (ao (t:=.box) hlt)
   conv=>whnf
   repeat' (first|exact trivial|((first|refine kL ?_|(refine ⟨fun hb=>?_,fun hb=>?_⟩<;>(try simp only [nrm] at hb)<;>try exact kZ hb)|(refine isE 121 ?_;refine kA (a8 (elt .box c.boxes k).bag (by omega)) ?_)|(refine isD 121 ?_;refine kD (a8 (elt .box c.boxes k).bag (by omega)) ?_)|refine kV ?_)<;>(conv=>whnf))|refine kY ?_ ?_)
   refine .to (k + 1) hlt (by omega) ?_
   conv=>whnf
   repeat' (first|exact trivial|((first|(refine ⟨fun hb=>?_,fun hb=>?_⟩<;>(try simp only [nrm] at hb)<;>try exact kZ hb)|refine kV ?_)<;>(conv=>whnf))|refine kY ?_ ?_)
   all_goals (try simp only [Int.toNat_natCast,Nat.add_zero,List.length_set])
   all_goals (try rw [rH])
   all_goals exact List.take_length
  ·exact fD0
open Go Go.RowKit Eng
theorem BQ (n : Int) : Api Tryz.prog 181 [i64 n] .ff:=by
 refine aF Tryz.func181 5 ?_
 exact fD0
def bX (a b : Int) : Int:=if a < b then -1 else if b < a then 1 else 0
theorem u6 {a b : Int} : bX a b < 0 ↔ a < b:=by unfold bX;(repeat' split)<;>omega
theorem BR {a b : Int} : 0 ≤ bX a b ↔ b ≤ a:=by unfold bX;(repeat' split)<;>omega
theorem BS {a b : Int} : bX a b = 0 ↔ a = b:=by unfold bX;(repeat' split)<;>omega
theorem fl (a b : Int) : Api Tryz.prog 105 [i64 a,i64 b] (i64 (bX a b)):=by
 refine aF Tryz.func105 18 ?_
 conv=>whnf
 repeat' (first|exact trivial|((first|refine kL ?_|(refine ⟨fun hb=>?_,fun hb=>?_⟩<;>(try simp only [nrm] at hb)<;>try exact kZ hb)|(refine isE 181 ?_;refine kA (BQ _) ?_)|(refine isD 181 ?_;refine kD (BQ _) ?_)|refine kV ?_)<;>(conv=>whnf))|refine kY ?_ ?_)
 all_goals (refine congrArg (Value.int _) ?_;unfold bX;(repeat' split)<;>omega)
theorem vN (b : Box) (t : Int) : Api Tryz.prog 249 [.agg [.lit (.int .i64 b.cell),.vec .slot b.bag],i64 t] (i64 (bX b.cell t)):=by
 refine aF Tryz.func249 7 ?_
 conv=>whnf
 repeat' (first|exact trivial|((first|refine kL ?_|(refine ⟨fun hb=>?_,fun hb=>?_⟩<;>(try simp only [nrm] at hb)<;>try exact kZ hb)|(refine isE 105 ?_;refine kA (fl _ _) ?_)|(refine isD 105 ?_;refine kD (fl _ _) ?_)|refine kV ?_)<;>(conv=>whnf))|refine kY ?_ ?_)
def rises : List Box → Prop
 | []=>True
 | b :: r=>(∀ x ∈ r,b.cell < x.cell) ∧ rises r
def lb (t : Int) : List Box → Nat
 | []=>0
 | b :: r=>if b.cell < t then lb t r + 1 else 0
theorem Ld (t : Int) (l : List Box) : lb t l ≤ l.length:=by
 induction l with
 | nil=>simp [lb]
 | cons b r ih=>simp only [lb,List.length_cons];split<;>omega
theorem mc (b : Box) (r : List Box) (i : Nat) : elt .box (List.cons (α:=Box) b r) (i + 1) = elt .box r i:=rfl
theorem mf {l : List Box} (h : rises l) : ∀ {i j : Nat},i < j → j < l.length → (elt .box l i).cell < (elt .box l j).cell:=by
 induction l with
 | nil=>intro i j _ hj;simp at hj
 | cons b r ih =>
  intro i j hij hj
  cases j with
  | zero=>omega
  | succ j =>
   rw [mc]
   simp only [List.length_cons] at hj
   cases i with
   | zero=>exact h.1 _ (ao (t:=.box) (by omega))
   | succ i=>rw [mc];exact ih h.2 (by omega) (by omega)
theorem Da {t : Int} : ∀ {l : List Box} {i : Nat},i ≤ l.length → (∀ k < i,(elt .box l k).cell < t) → (i < l.length → t ≤ (elt .box l i).cell) → lb t l = i
 | [],i,hi,_,_=>by simp at hi;simp [lb,hi]
 | b :: r,0,_,_,h=>by
  have:=h (by simp)
  rw [oh] at this
  simp only [lb];rw [if_neg (by omega)]
 | b :: r,i + 1,hi,h1,h2=>by
  have h0:=h1 0 (by omega)
  rw [oh] at h0
  simp only [lb,List.length_cons] at *
  rw [if_pos h0,Da (l:=r) (i:=i) (by omega) (fun k hk=>by have:=h1 (k + 1) (by omega);rwa [mc] at this) (fun hk=>by have:=h2 (by omega);rwa [mc] at this)]
theorem G_ (i j : Nat) : ((i : Int) + (j : Int)).fdiv (2 ^ min (Int.toNat 1) IntKind.u64.bits) = (((i + j) / 2 : Nat) : Int):=by
 have : (2 : Int) ^ min (Int.toNat 1) IntKind.u64.bits = 2:=rfl
 rw [this,Int.fdiv_eq_ediv_of_nonneg _ (by omega)]
 omega
def b_ (l : List Box) (t : Int) : Bool:=decide (lb t l < l.length) && ((elt .box l (lb t l)).cell == t)
theorem rI (l : List (El .box)) (t : Int) (hl : l.length ≤ 4000000000000000000) (hr : rises l) : Api Tryz.prog 248 [.vec .box l,i64 t,.lit (.func (.func 249) #[] #[])] (.tup [i64 (lb t l),bol (b_ l t)]):=by
 refine aF Tryz.func248 46 ?_
 conv=>whnf
 refine ap.loopS ah (σ:=Nat × Nat) [0,1,2,8,9,10] (fun (i,j)=>[.vec .box l,i64 t,.lit (.func (.func 249) #[] #[]),i64 l.length,i64 i,i64 j]) (fun _=>[]) (fun (i,j)=>i ≤ j ∧ j ≤ l.length ∧ (∀ k < i,(elt .box l k).cell < t) ∧ (∀ k,j ≤ k → k < l.length → t ≤ (elt .box l k).cell)) (fun (i,j)=>j - i) (0,l.length) ⟨by omega,by omega,by omega,by omega⟩ ?_ ?_
 ·exact fD0
 ·rintro ⟨i,j⟩ ⟨h1,h2,h3,h4⟩
  conv=>whnf
  repeat' (first|exact trivial|((first|refine kL ?_|(refine ⟨fun hb=>?_,fun hb=>?_⟩<;>(try simp only [nrm] at hb)<;>try exact kZ hb)|(rw [G_])|(refine isE 249 ?_;refine kA (vN _ _) ?_)|(refine isD 249 ?_;refine kD (vN _ _) ?_)|refine kV ?_)<;>(conv=>whnf))|refine kY ?_ ?_)
  ·rw [u6] at hb
   refine .to ((i + j) / 2 + 1,j) ⟨by omega,h2,fun k hk=>?_,h4⟩ (by dsimp only;omega) ?_
   ·by_cases hkm : k = (i + j) / 2
    ·rw [hkm];exact hb
    ·have:=mf hr (i:=k) (j:=(i + j) / 2) (by omega) (by omega)
     omega
   ·exact fD0
  ·rw [BR] at hb
   refine .to (i,(i + j) / 2) ⟨by omega,by omega,h3,fun k hk hk2=>?_⟩ (by dsimp only;omega) ?_
   ·by_cases hkm : k = (i + j) / 2
    ·rw [hkm];exact hb
    ·have:=mf hr (i:=(i + j) / 2) (j:=k) (by omega) (by omega)
     omega
   ·exact fD0
  all_goals
   obtain rfl : i = j:=by omega
   have hlb : lb t l = i:=Da h2 h3 (fun hk=>h4 i (Nat.le_refl _) hk)
   simp only [hlb,b_]
  ·rw [decide_eq_true (by omega)];refine congrArg Value.bool ?_;rw [Bool.true_and,Bool.eq_iff_iff,beq_iff_eq,beq_iff_eq];exact BS
  ·rw [decide_eq_false (by omega)];rfl
theorem yH (l : List (El .box)) (t : Int) (hl : l.length ≤ 4000000000000000000) (hr : rises l) : Api Tryz.prog 191 [.vec .box l,i64 t] (.tup [i64 (lb t l),bol (b_ l t)]):=by
 refine aF Tryz.func191 9 ?_
 conv=>whnf
 repeat' (first|exact trivial|((first|refine kL ?_|(refine ⟨fun hb=>?_,fun hb=>?_⟩<;>(try simp only [nrm] at hb)<;>try exact kZ hb)|(refine isE 248 ?_;refine kA (rI _ _ hl hr) ?_)|(refine isD 248 ?_;refine kD (rI _ _ hl hr) ?_)|refine kV ?_)<;>(conv=>whnf))|refine kY ?_ ?_)
theorem yI (l : List (El .box)) (t : Int) (hl : l.length ≤ 4000000000000000000) (hr : rises l) : Ev1 Tryz.prog 191 [.own .box 1 0 l.length none,i64 t] [(1,.row .box l)] (.tup [i64 (lb t l),bol (b_ l t)]) [(1,.row .box l)]:=by
 refine Api.lend (yH l t hl hr) ?_ rfl
 conv=>whnf
 exact ⟨by omega,by rw [List.drop_zero,List.take_length];rfl⟩
open Go Go.RowKit Eng
def bO (i : Int) (s : aa) : Bool:=s.item == i
def dv (s : aa) : Bool:=s.n == 0
def cZ (may : aa → Bool) (i size : Int) (p : List aa × Int) (s : aa) : List aa × Int:=
 if may s = true ∧ 0 < min (size - s.n) p.2 then (p.1 ++ [⟨i,s.n + min (size - s.n) p.2⟩],p.2 - min (size - s.n) p.2) else (p.1 ++ [s],p.2)
def bP (may : aa → Bool) (i size : Int) (l : List aa) (n : Int) : List aa × Int:=l.foldl (cZ may i size) ([],n)
theorem tN {may : aa → Bool} {i size : Int} {l : List aa} {n : Int} {k : Nat} (h : k < l.length) : bP may i size (l.take (k + 1)) n = cZ may i size (bP may i size (l.take k) n) (elt .slot l k):=by
 have:=ar .slot l k h
 unfold bP
 rw [List.take_add_one,this]
 simp
theorem vO {may : aa → Bool} {i size : Int} : ∀ (l : List aa) (p : List aa × Int),(l.foldl (cZ may i size) p).1.length = p.1.length + l.length
 | [],p=>by simp
 | s :: r,p=>by
  rw [List.foldl_cons,vO r]
  unfold cZ
  split<;>simp<;>omega
theorem dw (may : aa → Bool) (i size : Int) (l : List aa) (n : Int) : (bP may i size l n).1.length = l.length:=by
 have:=vO (may:=may) (i:=i) (size:=size) l ([],n)
 simpa [bP] using this
def gz (l : List aa) : Prop:=∀ s ∈ l,0 ≤ s.n ∧ s.n ≤ 16
theorem yJ {may : aa → Bool} {i size : Int} (hz : size ≤ 16) : ∀ (l : List aa) (p : List aa × Int),0 ≤ p.2 → gz l → gz p.1 → gz (l.foldl (cZ may i size) p).1 ∧ 0 ≤ (l.foldl (cZ may i size) p).2 ∧ (l.foldl (cZ may i size) p).2 ≤ p.2
 | [],p,h0,_,hp=>⟨hp,h0,Int.le_refl _⟩
 | s :: r,p,h0,hl,hp=>by
  rw [List.foldl_cons]
  have hs:=hl s (by simp)
  have hq : gz (cZ may i size p s).1 ∧ 0 ≤ (cZ may i size p s).2 ∧ (cZ may i size p s).2 ≤ p.2:=by
   unfold cZ
   split
   ·refine ⟨fun x hx=>?_,by simp only;omega,by simp only;omega⟩
    rcases List.mem_append.1 hx with hx|hx
    ·exact hp x hx
    ·rw [List.mem_singleton] at hx;subst hx;simp only;omega
   ·refine ⟨fun x hx=>?_,h0,Int.le_refl _⟩
    rcases List.mem_append.1 hx with hx|hx
    ·exact hp x hx
    ·rw [List.mem_singleton] at hx;subst hx;exact hs
  obtain ⟨h1,h2,h3⟩:=yJ (may:=may) (i:=i) hz r (cZ may i size p s) hq.2.1 (fun x hx=>hl x (by simp [hx])) hq.1
  exact ⟨h1,h2,by omega⟩
theorem lJ {may : aa → Bool} {i size : Int} {l : List aa} {n : Int} (hz : size ≤ 16) (hn : 0 ≤ n) (hl : gz l) : gz (bP may i size l n).1 ∧ 0 ≤ (bP may i size l n).2 ∧ (bP may i size l n).2 ≤ n:=
 yJ hz l ([],n) hn hl (by simp [gz])
theorem lK {A B : List aa} {k : Nat} (h : A.length = k) : elt .slot (A ++ B) k = elt .slot B 0:=by
 unfold elt
 rw [List.getElem?_append_right (by omega),h,Nat.sub_self]
theorem jK {l : List aa} {k : Nat} : elt .slot (l.drop k) 0 = elt .slot l k:=by
 unfold elt
 rw [List.getElem?_drop];rfl
theorem mS {may : aa → Bool} {i size : Int} {P : List aa} {p : Int} {s : aa} (h : may s = true) (h2 : 0 < min (size - s.n) p) : cZ may i size (P,p) s = (P ++ [⟨i,s.n + min (size - s.n) p⟩],p - min (size - s.n) p):=by unfold cZ;rw [if_pos ⟨h,h2⟩]
theorem k7 {may : aa → Bool} {i size : Int} {P : List aa} {p : Int} {s : aa} (h2 : min (size - s.n) p ≤ 0) : cZ may i size (P,p) s = (P ++ [s],p):=by unfold cZ;rw [if_neg (fun h=>by have:=h.2;simp only at this;omega)]
theorem k8 {may : aa → Bool} {i size : Int} {P : List aa} {p : Int} {s : aa} (h : may s = false) : cZ may i size (P,p) s = (P ++ [s],p):=by unfold cZ;rw [if_neg (fun h2=>by rw [h] at h2;cases h2.1)]
theorem BT {tt : Ty} {P l : List (El tt)} {k : Nat} {x : El tt} (hP : P.length = k) (hk : k < l.length) : (P ++ l.drop k).set k x = (P ++ [x]) ++ l.drop (k + 1):=by
 rw [List.set_append_right _ _ (by omega),hP,Nat.sub_self,aY hk,List.set_cons_zero,List.append_assoc];rfl
theorem ol {tt : Ty} {P l : List (El tt)} {k : Nat} (hk : k < l.length) : P ++ l.drop k = (P ++ [elt tt l k]) ++ l.drop (k + 1):=by
 rw [aY hk,List.append_assoc];rfl
theorem aC {α : Type} {n : Nat} {l : List α} (h : l.length = n) : l.take n = l:=by rw [← h,List.take_length]
theorem BU (s : aa) (i : Int) : Ev1 Tryz.prog 199 [.agg [.lit (.int .u8 s.item),.lit (.int .i64 s.n)],.ptr 0 0] [(0,.box [.lit (.int .u8 i)])] (bol (bO i s)) [(0,.box [.lit (.int .u8 i)])]:=by
 refine eF Tryz.func199 6 ?_
 exact fD0
theorem yK (s : aa) : Api Tryz.prog 200 [.agg [.lit (.int .u8 s.item),.lit (.int .i64 s.n)]] (bol (dv s)):=by
 refine aF Tryz.func200 5 ?_
 exact fD0
theorem Ha (l : List (El .slot)) (len : Nat) (i size n : Int) (hlen : len = l.length) (hz0 : 0 ≤ size) (hz : size ≤ 16) (hn : 0 ≤ n) (hn2 : n ≤ 9223372036854775807) (hs : gz l) (hl : l.length ≤ 9000000000000000000) : Ev1 Tryz.prog 198 [.clo (.func 199) [] [.ptr 6 0],.ptr 0 0,.ptr 2 0,.ptr 4 0,.ptr 6 0] [(0,.box [.own .slot 1 0 len none]),(2,.box [i64 size]),(4,.box [i64 n]),(6,.box [.lit (.int .u8 i)]),(1,.row .slot l)] (.tup []) [(0,.box [.own .slot 1 0 len none]),(2,.box [i64 size]),(4,.box [i64 (bP (bO i) i size l n).2]),(6,.box [.lit (.int .u8 i)]),(1,.row .slot (bP (bO i) i size l n).1)]:=by
 subst hlen
 refine eF Tryz.func198 35 ?_
 conv=>whnf
 refine ap.loopS ah (σ:=Nat) [0,1,2,3,4,9,10,11] (fun k=>[.clo (.func 199) [] [.ptr 6 0],.ptr 0 0,.ptr 2 0,.ptr 4 0,.ptr 6 0,.own .slot 1 0 l.length none,i64 l.length,i64 k]) (fun k=>[(0,.box [.own .slot 1 0 l.length none]),(2,.box [i64 size]),(4,.box [i64 (bP (bO i) i size (l.take k) n).2]),(6,.box [.lit (.int .u8 i)]),(1,.row .slot ((bP (bO i) i size (l.take k) n).1 ++ l.drop k))])
  (fun k=>k ≤ l.length) (fun k=>l.length - k) 0 (by omega) ?_ ?_
 ·conv=>whnf
  repeat' (first|exact trivial|((first|(refine ⟨fun hb=>?_,fun hb=>?_⟩<;>(try simp only [nrm] at hb)<;>try exact kZ hb)|refine kV ?_)<;>(conv=>whnf))|refine kY ?_ ?_)
  all_goals first|rfl|exact List.take_length|exact List.take_length.symm
 ·intro k hk
  by_cases hlt : k < l.length
  ·have hF:=lJ (may:=bO i) (i:=i) (l:=l.take k) hz hn (fun s hs'=>hs s (List.mem_of_mem_take hs'))
   have hL:=dw (bO i) i size (l.take k) n
   rw [List.length_take,Nat.min_eq_left hk] at hL
   have hN:=tN (may:=bO i) (i:=i) (size:=size) (n:=n) hlt
   have hE:=hs _ (ao (t:=.slot) hlt)
   generalize bP (bO i) i size (l.take k) n = P at *
   obtain ⟨P,p⟩:=P
   dsimp only at *
   obtain ⟨hF0,hp0,hp1⟩:=hF
   have he : elt .slot (P ++ l.drop k) k = elt .slot l k:=by rw [lK hL,jK]
   have hPl : (P ++ l.drop k).length = l.length:=by rw [List.length_append,hL,List.length_drop];omega
   generalize hR : P ++ l.drop k = R at *
   rw [← he] at hE hN
   have hE2 : (elt .slot R ((k : Int).toNat + 0)).n = (elt .slot R (k + 0)).n ∧ (elt .slot R (k + 0)).n = (elt .slot R k).n:=by simp
   conv=>whnf
   repeat' (first|exact trivial|((first|refine kL ?_|(refine ⟨fun hb=>?_,fun hb=>?_⟩<;>(try simp only [nrm] at hb)<;>try exact kZ hb)|(refine isE 199 ?_;refine kE (BU (elt .slot R k) i) [(0,6)] rfl ?_)|(refine isD 199 ?_;refine kF (BU (elt .slot R k) i) [(0,6)] rfl ?_)|refine kV ?_)<;>(conv=>whnf))|refine kY ?_ ?_)
   all_goals
    refine .to (k + 1) hlt (by omega) ?_
    conv=>whnf
    repeat' (first|exact trivial|((first|(refine ⟨fun hb=>?_,fun hb=>?_⟩<;>(try simp only [nrm] at hb)<;>try exact kZ hb)|refine kV ?_)<;>(conv=>whnf))|refine kY ?_ ?_)
   all_goals (try simp only [Int.toNat_natCast,Nat.add_zero] at *)
   all_goals (have hL1:=dw (bO i) i size (l.take (k + 1)) n;rw [List.length_take,Nat.min_eq_left (by omega)] at hL1;have hL2 : ((bP (bO i) i size (l.take (k + 1)) n).1 ++ l.drop (k + 1)).length = l.length:=by rw [List.length_append,hL1,List.length_drop];omega)
   all_goals (try first|(rw [hL2];exact Nat.le_refl _)|exact aC hL2)
   ·rw [aC (by rw [List.length_set,hPl]),hN,mS (by assumption) hb,← hR,BT (tt:=.slot) hL hlt]
   ·rw [hN,mS (by assumption) hb]
   ·rw [aC hPl,hN,k7 hb,← hR,lK hL,jK];exact ol (tt:=.slot) hlt
   ·rw [hN,k7 hb]
   ·rw [aC hPl,hN,k8 hb,← hR,lK hL,jK];exact ol (tt:=.slot) hlt
   ·rw [hN,k8 hb]
  ·obtain rfl : k = l.length:=by omega
   have hL:=dw (bO i) i size l n
   conv=>whnf
   repeat' (first|exact trivial|((first|(refine ⟨fun hb=>?_,fun hb=>?_⟩<;>(try simp only [nrm] at hb)<;>try exact kZ hb)|refine kV ?_)<;>(conv=>whnf))|refine kY ?_ ?_)
   all_goals simp only [List.take_length,List.drop_length,List.append_nil,hL]
   ·exact Nat.le_refl _
   ·rw [← hL,List.take_length]
theorem Hb (l : List (El .slot)) (len : Nat) (i size n : Int) (hlen : len = l.length) (hz0 : 0 ≤ size) (hz : size ≤ 16) (hn : 0 ≤ n) (hn2 : n ≤ 9223372036854775807) (hs : gz l) (hl : l.length ≤ 9000000000000000000) : Ev1 Tryz.prog 198 [.lit (.func (.func 200) #[] #[]),.ptr 0 0,.ptr 2 0,.ptr 4 0,.ptr 6 0] [(0,.box [.own .slot 1 0 len none]),(2,.box [i64 size]),(4,.box [i64 n]),(6,.box [.lit (.int .u8 i)]),(1,.row .slot l)] (.tup []) [(0,.box [.own .slot 1 0 len none]),(2,.box [i64 size]),(4,.box [i64 (bP dv i size l n).2]),(6,.box [.lit (.int .u8 i)]),(1,.row .slot (bP dv i size l n).1)]:=by
 subst hlen
 refine eF Tryz.func198 35 ?_
 conv=>whnf
 refine ap.loopS ah (σ:=Nat) [0,1,2,3,4,9,10,11] (fun k=>[.lit (.func (.func 200) #[] #[]),.ptr 0 0,.ptr 2 0,.ptr 4 0,.ptr 6 0,.own .slot 1 0 l.length none,i64 l.length,i64 k]) (fun k=>[(0,.box [.own .slot 1 0 l.length none]),(2,.box [i64 size]),(4,.box [i64 (bP dv i size (l.take k) n).2]),(6,.box [.lit (.int .u8 i)]),(1,.row .slot ((bP dv i size (l.take k) n).1 ++ l.drop k))])
  (fun k=>k ≤ l.length) (fun k=>l.length - k) 0 (by omega) ?_ ?_
 ·conv=>whnf
  repeat' (first|exact trivial|((first|(refine ⟨fun hb=>?_,fun hb=>?_⟩<;>(try simp only [nrm] at hb)<;>try exact kZ hb)|refine kV ?_)<;>(conv=>whnf))|refine kY ?_ ?_)
  all_goals first|rfl|exact List.take_length|exact List.take_length.symm
 ·intro k hk
  by_cases hlt : k < l.length
  ·have hF:=lJ (may:=dv) (i:=i) (l:=l.take k) hz hn (fun s hs'=>hs s (List.mem_of_mem_take hs'))
   have hL:=dw dv i size (l.take k) n
   rw [List.length_take,Nat.min_eq_left hk] at hL
   have hN:=tN (may:=dv) (i:=i) (size:=size) (n:=n) hlt
   have hE:=hs _ (ao (t:=.slot) hlt)
   generalize bP dv i size (l.take k) n = P at *
   obtain ⟨P,p⟩:=P
   dsimp only at *
   obtain ⟨hF0,hp0,hp1⟩:=hF
   have he : elt .slot (P ++ l.drop k) k = elt .slot l k:=by rw [lK hL,jK]
   have hPl : (P ++ l.drop k).length = l.length:=by rw [List.length_append,hL,List.length_drop];omega
   generalize hR : P ++ l.drop k = R at *
   rw [← he] at hE hN
   have hE2 : (elt .slot R ((k : Int).toNat + 0)).n = (elt .slot R (k + 0)).n ∧ (elt .slot R (k + 0)).n = (elt .slot R k).n:=by simp
   conv=>whnf
   repeat' (first|exact trivial|((first|refine kL ?_|(refine ⟨fun hb=>?_,fun hb=>?_⟩<;>(try simp only [nrm] at hb)<;>try exact kZ hb)|(refine isE 200 ?_;refine kA (yK (elt .slot R k)) ?_)|(refine isD 200 ?_;refine kD (yK (elt .slot R k)) ?_)|refine kV ?_)<;>(conv=>whnf))|refine kY ?_ ?_)
   all_goals
    refine .to (k + 1) hlt (by omega) ?_
    conv=>whnf
    repeat' (first|exact trivial|((first|(refine ⟨fun hb=>?_,fun hb=>?_⟩<;>(try simp only [nrm] at hb)<;>try exact kZ hb)|refine kV ?_)<;>(conv=>whnf))|refine kY ?_ ?_)
   all_goals (try simp only [Int.toNat_natCast,Nat.add_zero] at *)
   all_goals (have hL1:=dw dv i size (l.take (k + 1)) n;rw [List.length_take,Nat.min_eq_left (by omega)] at hL1;have hL2 : ((bP dv i size (l.take (k + 1)) n).1 ++ l.drop (k + 1)).length = l.length:=by rw [List.length_append,hL1,List.length_drop];omega)
   all_goals (try first|(rw [hL2];exact Nat.le_refl _)|exact aC hL2)
   ·rw [aC (by rw [List.length_set,hPl]),hN,mS (by assumption) hb,← hR,BT (tt:=.slot) hL hlt]
   ·rw [hN,mS (by assumption) hb]
   ·rw [aC hPl,hN,k7 hb,← hR,lK hL,jK];exact ol (tt:=.slot) hlt
   ·rw [hN,k7 hb]
   ·rw [aC hPl,hN,k8 hb,← hR,lK hL,jK];exact ol (tt:=.slot) hlt
   ·rw [hN,k8 hb]
  ·obtain rfl : k = l.length:=by omega
   have hL:=dw dv i size l n
   conv=>whnf
   repeat' (first|exact trivial|((first|(refine ⟨fun hb=>?_,fun hb=>?_⟩<;>(try simp only [nrm] at hb)<;>try exact kZ hb)|refine kV ?_)<;>(conv=>whnf))|refine kY ?_ ?_)
   all_goals simp only [List.take_length,List.drop_length,List.append_nil,hL]
   ·exact Nat.le_refl _
   ·rw [← hL,List.take_length]
theorem eA {P : Program} {fid : FuncId} {tt : Ty} {l : List (El tt)} {n : Nat} {v : AV} (h : Api P fid [.vec tt l] v) (hn : n = l.length) (hv : jZ v = true) : Ev1 P fid [.own tt 1 0 n none] [(1,.row tt l)] v [(1,.row tt l)]:=by
 subst hn
 refine Api.lend h ?_ hv
 cases tt<;>(conv=>whnf)<;>exact ⟨by omega,by rw [List.drop_zero,List.take_length];rfl⟩
def bk (l : List aa) (i n : Int) : List aa × Int:=
 if n < 1 then (l,0) else if ak i = 0 ∨ an l = false then (l,n)
 else bP dv i (ak i) (bP (bO i) i (ak i) l n).1 (bP (bO i) i (ak i) l n).2
theorem dG (i : Int) : 0 ≤ ak i ∧ ak i ≤ 16:=by unfold ak;(repeat' split)<;>omega
theorem bU {l : List aa} (h : an l = true) : gz l:=by
 intro s hs
 have h2 : bC s = false:=by
  cases hb : bC s with
  | false=>rfl
  | true=>rw [an,List.any_eq_true.2 ⟨s,hs,hb⟩] at h;cases h
 have:=(dG s.item).2
 simp only [bC,Bool.and_eq_false_iff,Bool.or_eq_false_iff,Bool.not_eq_false',Bool.and_eq_true,beq_iff_eq,decide_eq_false_iff_not] at h2
 omega
theorem ig (l : List (El .slot)) (i n : Int) (hl : l.length * 16 ≤ 140737488355328) (hw : ∀ s ∈ l,aQ s) (h0 : 0 ≤ i) (h1 : i ≤ 255) (hn : n ≤ 9223372036854775807) : Api Tryz.prog 128 [.vec .slot l,.lit (.int .u8 i),i64 n] (.tup [.vec .slot (bk l i n).1,i64 (bk l i n).2]):=by
 have hst:=km i h0 h1
 have hrt:=gV l (by unfold big;omega) hw
 have hbd:=dG i
 unfold bk
 by_cases hn1 : n < 1
 ·rw [if_pos hn1]
  refine aF Tryz.func128 31 ?_
  conv=>whnf
  repeat' (first|exact trivial|((first|refine kL ?_|(refine ⟨fun hb=>?_,fun hb=>?_⟩<;>(try simp only [nrm] at hb)<;>try exact kZ hb)|(refine isE 121 ?_;refine kE (bf l (by omega)) [(390001,150001)] rfl ?_)|(refine isD 121 ?_;refine kF (bf l (by omega)) [(390001,150001)] rfl ?_)|refine kV ?_)<;>(conv=>whnf))|refine kY ?_ ?_)
  all_goals (rw [List.drop_zero];exact List.take_length)
 ·rw [if_neg hn1]
  by_cases hz : ak i = 0
  ·rw [if_pos (.inl hz)]
   refine aF Tryz.func128 31 ?_
   conv=>whnf
   repeat' (first|exact trivial|((first|refine kL ?_|(refine ⟨fun hb=>?_,fun hb=>?_⟩<;>(try simp only [nrm] at hb)<;>try exact kZ hb)|(refine isE 121 ?_;refine kE (bf l (by omega)) [(390001,150001)] rfl ?_)|(refine isD 121 ?_;refine kF (bf l (by omega)) [(390001,150001)] rfl ?_)|refine kV ?_)<;>(conv=>whnf))|refine kY ?_ ?_)
   all_goals (rw [List.drop_zero];exact List.take_length)
  ·cases hb : an l with
   | false =>
    rw [if_pos (.inr rfl)]
    rw [hb] at hrt
    refine aF Tryz.func128 31 ?_
    conv=>whnf
    repeat' (first|exact trivial|((first|refine kL ?_|(refine ⟨fun hb=>?_,fun hb=>?_⟩<;>(try simp only [nrm] at hb)<;>try exact kZ hb)|(refine isE 121 ?_;refine kE (bf l (by omega)) [(390001,150001)] rfl ?_)|(refine isD 121 ?_;refine kF (bf l (by omega)) [(390001,150001)] rfl ?_)|refine kE (eA hrt rfl rfl) [(1,150001)] rfl ?_|refine kF (eA hrt rfl rfl) [(1,150001)] rfl ?_|refine kV ?_)<;>(conv=>whnf))|refine kY ?_ ?_)
    all_goals (rw [List.drop_zero];exact List.take_length)
   | true =>
    rw [if_neg (by simp [hz])]
    rw [hb] at hrt
    have hsm:=bU hb
    have hF:=lJ (may:=bO i) (i:=i) (l:=l) (n:=n) hbd.2 (by omega) hsm
    have hL:=dw (bO i) i (ak i) l n
    have hf1:=Ha l l.length i (ak i) n rfl hbd.1 hbd.2 (by omega) hn hsm (by omega)
    have hf2:=Hb (bP (bO i) i (ak i) l n).1 l.length i (ak i) (bP (bO i) i (ak i) l n).2 hL.symm hbd.1 hbd.2 hF.2.1 (by omega) hF.1 (by omega)
    have hL2:=dw dv i (ak i) (bP (bO i) i (ak i) l n).1 (bP (bO i) i (ak i) l n).2
    generalize bP (bO i) i (ak i) l n = P at *
    generalize bP dv i (ak i) P.1 P.2 = Q at *
    obtain ⟨P,p⟩:=P
    obtain ⟨Q,q⟩:=Q
    dsimp only at *
    refine aF Tryz.func128 31 ?_
    conv=>whnf
    repeat' (first|exact trivial|((first|refine kL ?_|(refine ⟨fun hb=>?_,fun hb=>?_⟩<;>(try simp only [nrm] at hb)<;>try exact kZ hb)|(refine isE 121 ?_;refine kE (bf l (by omega)) [(390001,150001)] rfl ?_)|(refine isD 121 ?_;refine kF (bf l (by omega)) [(390001,150001)] rfl ?_)|refine kE (eA hrt rfl rfl) [(1,150001)] rfl ?_|refine kF (eA hrt rfl rfl) [(1,150001)] rfl ?_|refine kE hf1 [(0,6),(2,16),(4,10),(6,8),(1,150001)] rfl ?_|refine kF hf1 [(0,6),(2,16),(4,10),(6,8),(1,150001)] rfl ?_|refine kE hf2 [(0,6),(2,16),(4,10),(6,8),(1,150001)] rfl ?_|refine kF hf2 [(0,6),(2,16),(4,10),(6,8),(1,150001)] rfl ?_|refine kV ?_)<;>(conv=>whnf))|refine kY ?_ ?_)
    all_goals (rw [List.drop_zero];exact aC (hL2.trans hL))
theorem sF {may : aa → Bool} {i size : Int} (hi : 0 ≤ i ∧ i ≤ 255) : ∀ (l : List aa) (p : List aa × Int),(∀ s ∈ l,aQ s) → (∀ s ∈ p.1,aQ s) → ∀ s ∈ (l.foldl (cZ may i size) p).1,aQ s
 | [],p,_,hp=>hp
 | s :: r,p,hl,hp=>by
  rw [List.foldl_cons]
  refine sF hi r _ (fun x hx=>hl x (by simp [hx])) fun x hx=>?_
  unfold cZ at hx
  split at hx
  ·rcases List.mem_append.1 hx with hx|hx
   ·exact hp x hx
   ·rw [List.mem_singleton] at hx;subst hx;exact hi
  ·rcases List.mem_append.1 hx with hx|hx
   ·exact hp x hx
   ·rw [List.mem_singleton] at hx;subst hx;exact hl x (by simp)
theorem da (l : List aa) (i n : Int) : (bk l i n).1.length = l.length:=by
 unfold bk
 (repeat' split)
 ·rfl
 ·rfl
 ·rw [dw,dw]
theorem qU {l : List aa} {i n : Int} (hl : ∀ s ∈ l,aQ s) (hi : 0 ≤ i ∧ i ≤ 255) : ∀ s ∈ (bk l i n).1,aQ s:=by
 unfold bk
 (repeat' split)
 ·exact hl
 ·exact hl
 ·exact sF hi _ _ (sF hi _ _ hl (by simp)) (by simp)
def d7 (s : aa) (n : Int) : aa:=if s.n - n = 0 then ⟨0,0⟩ else ⟨s.item,s.n - n⟩
theorem BV {l : List aa} {k : Nat} {x : aa} (h : k < l.length) : elt .slot (l.set k x) k = x:=by
 unfold elt
 rw [List.getElem?_set_self h];rfl
theorem sG {l : List aa} {k : Nat} {n : Int} (hk : k < l.length) (hb : (elt .slot (l.set k ⟨(elt .slot l k).item,(elt .slot l k).n - n⟩) k).n = 0) :
  (l.set k ⟨(elt .slot l k).item,(elt .slot l k).n - n⟩).set k ⟨0,0⟩ = l.set k (d7 (elt .slot l k) n):=by
 rw [BV hk] at hb
 simp only at hb
 rw [List.set_set,d7,if_pos hb]
theorem sH {l : List aa} {k : Nat} {n : Int} (hk : k < l.length) (hb : ¬ (elt .slot (l.set k ⟨(elt .slot l k).item,(elt .slot l k).n - n⟩) k).n = 0) :
  l.set k ⟨(elt .slot l k).item,(elt .slot l k).n - n⟩ = l.set k (d7 (elt .slot l k) n):=by
 rw [BV hk] at hb
 simp only at hb
 rw [d7,if_neg hb]
theorem BW (l : List (El .slot)) (len : Nat) (a n : Int) (hlen : len = l.length) (ha : 0 ≤ a) (ha2 : a < l.length) (hn : 0 ≤ (elt .slot l a.toNat).n ∧ (elt .slot l a.toNat).n ≤ 16) (hn1 : 0 ≤ n) (hn2 : n ≤ (elt .slot l a.toNat).n) : Ev1 Tryz.prog 202 [.own .slot 1 0 len none,i64 a,i64 n] [(1,.row .slot l)] (.tup []) [(1,.row .slot (l.set a.toNat (d7 (elt .slot l a.toNat) n)))]:=by
 subst hlen
 have hn3 : (elt .slot l (a.toNat + 0)).n = (elt .slot l a.toNat).n:=rfl
 refine eF Tryz.func202 22 ?_
 conv=>whnf
 repeat' (first|exact trivial|((first|(refine ⟨fun hb=>?_,fun hb=>?_⟩<;>(try simp only [nrm] at hb)<;>try exact kZ hb)|refine kV ?_)<;>(conv=>whnf))|refine kY ?_ ?_)
 all_goals (simp only [Nat.add_zero] at hb)
 ·exact sG (by omega) hb
 ·conv=>whnf
  exact congrArg (Blk.row .slot) (sG (by omega) hb)
 ·exact sH (by omega) hb
 ·conv=>whnf
  exact congrArg (Blk.row .slot) (sH (by omega) hb)
def aj (l : List aa) (a n : Int) : List aa × aa × Int:=
 if a < 0 ∨ (l.length : Int) ≤ a ∨ an l = false then (l,⟨0,0⟩,103) else if n < 1 then (l,⟨0,0⟩,111)
 else if (elt .slot l a.toNat).n < n then (l,⟨0,0⟩,105) else (l.set a.toNat (d7 (elt .slot l a.toNat) n),⟨(elt .slot l a.toNat).item,n⟩,0)
theorem om (l : List (El .slot)) (a n : Int) (hl : l.length * 16 ≤ 140737488355328) (hw : ∀ s ∈ l,aQ s) : Api Tryz.prog 130 [.vec .slot l,i64 a,i64 n] (.tup [.vec .slot (aj l a n).1,.agg [.lit (.int .u8 (aj l a n).2.1.item),.lit (.int .i64 (aj l a n).2.1.n)],i64 (aj l a n).2.2]):=by
 have hrt:=gV l (by unfold big;omega) hw
 unfold aj
 by_cases hr : 0 ≤ a ∧ a < l.length
 ·cases hb : an l with
  | false =>
   rw [if_pos (.inr (.inr rfl))]
   rw [hb] at hrt
   refine aF Tryz.func130 53 ?_
   conv=>whnf
   repeat' (first|exact trivial|((first|refine kL ?_|(refine ⟨fun hb=>?_,fun hb=>?_⟩<;>(try simp only [nrm] at hb)<;>try exact kZ hb)|(refine isE 121 ?_;refine kE (bf l (by omega)) [(390001,150001)] rfl ?_)|(refine isD 121 ?_;refine kF (bf l (by omega)) [(390001,150001)] rfl ?_)|refine kE (eA hrt rfl rfl) [(1,150001)] rfl ?_|refine kF (eA hrt rfl rfl) [(1,150001)] rfl ?_|refine kV ?_)<;>(conv=>whnf))|refine kY ?_ ?_)
   all_goals (rw [List.drop_zero];exact List.take_length)
  | true =>
   rw [if_neg (by simp;omega)]
   rw [hb] at hrt
   have hsm:=bU hb _ (ao (t:=.slot) (l:=l) (i:=a.toNat) (by omega))
   have hn3 : (elt .slot l (a.toNat + 0)).n = (elt .slot l a.toNat).n:=rfl
   by_cases hn1 : n < 1
   ·rw [if_pos hn1]
    refine aF Tryz.func130 53 ?_
    conv=>whnf
    repeat' (first|exact trivial|((first|refine kL ?_|(refine ⟨fun hb=>?_,fun hb=>?_⟩<;>(try simp only [nrm] at hb)<;>try exact kZ hb)|(refine isE 121 ?_;refine kE (bf l (by omega)) [(390001,150001)] rfl ?_)|(refine isD 121 ?_;refine kF (bf l (by omega)) [(390001,150001)] rfl ?_)|refine kE (eA hrt rfl rfl) [(1,150001)] rfl ?_|refine kF (eA hrt rfl rfl) [(1,150001)] rfl ?_|refine kV ?_)<;>(conv=>whnf))|refine kY ?_ ?_)
    all_goals (rw [List.drop_zero];exact List.take_length)
   ·rw [if_neg hn1]
    by_cases hwant : (elt .slot l a.toNat).n < n
    ·rw [if_pos hwant]
     refine aF Tryz.func130 53 ?_
     conv=>whnf
     repeat' (first|exact trivial|((first|refine kL ?_|(refine ⟨fun hb=>?_,fun hb=>?_⟩<;>(try simp only [nrm] at hb)<;>try exact kZ hb)|(refine isE 121 ?_;refine kE (bf l (by omega)) [(390001,150001)] rfl ?_)|(refine isD 121 ?_;refine kF (bf l (by omega)) [(390001,150001)] rfl ?_)|refine kE (eA hrt rfl rfl) [(1,150001)] rfl ?_|refine kF (eA hrt rfl rfl) [(1,150001)] rfl ?_|refine kV ?_)<;>(conv=>whnf))|refine kY ?_ ?_)
     all_goals (rw [List.drop_zero];exact List.take_length)
    ·rw [if_neg hwant]
     have hls:=BW l l.length a n rfl hr.1 hr.2 hsm (by omega) (by omega)
     refine aF Tryz.func130 53 ?_
     conv=>whnf
     repeat' (first|exact trivial|((first|refine kL ?_|(refine ⟨fun hb=>?_,fun hb=>?_⟩<;>(try simp only [nrm] at hb)<;>try exact kZ hb)|(refine isE 121 ?_;refine kE (bf l (by omega)) [(390001,150001)] rfl ?_)|(refine isD 121 ?_;refine kF (bf l (by omega)) [(390001,150001)] rfl ?_)|refine kE (eA hrt rfl rfl) [(1,150001)] rfl ?_|refine kF (eA hrt rfl rfl) [(1,150001)] rfl ?_|refine kE hls [(1,150001)] rfl ?_|refine kF hls [(1,150001)] rfl ?_|refine kV ?_)<;>(conv=>whnf))|refine kY ?_ ?_)
     all_goals (rw [List.drop_zero];exact aC (List.length_set ..))
 ·rw [if_pos (by omega)]
  refine aF Tryz.func130 53 ?_
  conv=>whnf
  repeat' (first|exact trivial|((first|refine kL ?_|(refine ⟨fun hb=>?_,fun hb=>?_⟩<;>(try simp only [nrm] at hb)<;>try exact kZ hb)|(refine isE 121 ?_;refine kE (bf l (by omega)) [(390001,150001)] rfl ?_)|(refine isD 121 ?_;refine kF (bf l (by omega)) [(390001,150001)] rfl ?_)|refine kV ?_)<;>(conv=>whnf))|refine kY ?_ ?_)
  all_goals (rw [List.drop_zero];exact List.take_length)
def eB : List aa → List aa → Option (List aa)
 | [],out=>some out
 | s :: r,out=>if 0 < (bk out s.item s.n).2 then none else eB r (bk out s.item s.n).1
def dY (l more : List aa) : List aa × Int:=
 if an l = false ∨ an more = false then (l,103) else match eB more l with
  | some out=>(out,0)
  | none=>(l,104)
theorem u7 (l m : List (El .slot)) (hl : l.length * 16 ≤ 140737488355328) (hw : ∀ s ∈ l,aQ s) (hm : m.length ≤ 9000000000000000000) (hv : ∀ s ∈ m,aQ s) : Api Tryz.prog 212 [.vec .slot l,.vec .slot m] (.tup [.vec .slot (dY l m).1,i64 (dY l m).2]):=by
 have hrl:=gV l (by unfold big;omega) hw
 have hrm:=gV m (by unfold big;omega) hv
 unfold dY
 cases hbl : an l with
 | false =>
  rw [if_pos (.inl rfl)]
  rw [hbl] at hrl
  refine aF Tryz.func212 40 ?_
  conv=>whnf
  repeat' (first|exact trivial|((first|refine kL ?_|(refine ⟨fun hb=>?_,fun hb=>?_⟩<;>(try simp only [nrm] at hb)<;>try exact kZ hb)|(refine isE 121 ?_;refine kA (a8 l (by omega)) ?_)|(refine isD 121 ?_;refine kD (a8 l (by omega)) ?_)|refine kV ?_)<;>(conv=>whnf))|refine kY ?_ ?_)
 | true =>
  rw [hbl] at hrl
  cases hbm : an m with
  | false =>
   rw [if_pos (.inr rfl)]
   rw [hbm] at hrm
   refine aF Tryz.func212 40 ?_
   conv=>whnf
   repeat' (first|exact trivial|((first|refine kL ?_|(refine ⟨fun hb=>?_,fun hb=>?_⟩<;>(try simp only [nrm] at hb)<;>try exact kZ hb)|(refine isE 121 ?_;refine kA (a8 l (by omega)) ?_)|(refine isD 121 ?_;refine kD (a8 l (by omega)) ?_)|refine kV ?_)<;>(conv=>whnf))|refine kY ?_ ?_)
  | true =>
   rw [if_neg (by simp)]
   rw [hbm] at hrm
   have hsm:=bU hbm
   refine aF Tryz.func212 40 ?_
   conv=>whnf
   repeat' (first|exact trivial|((first|refine kL ?_|(refine ⟨fun hb=>?_,fun hb=>?_⟩<;>(try simp only [nrm] at hb)<;>try exact kZ hb)|(refine isE 121 ?_;refine kA (a8 l (by omega)) ?_)|(refine isD 121 ?_;refine kD (a8 l (by omega)) ?_)|refine kV ?_)<;>(conv=>whnf))|refine kY ?_ ?_)
   refine ap.loopS ah (σ:=Nat × List aa) [0,6,21,22,23] (fun p=>[.vec .slot l,.vec .slot p.2,.vec .slot m,i64 m.length,i64 p.1]) (fun _=>[])
    (fun p=>p.1 ≤ m.length ∧ eB (m.drop p.1) p.2 = eB m l ∧ p.2.length = l.length ∧ ∀ s ∈ p.2,aQ s) (fun p=>m.length - p.1) (0,l) ⟨by omega,rfl,rfl,hw⟩ ?_ ?_
   ·exact fD0
   ·rintro ⟨k,out⟩ ⟨hk,hg,hlen,hok⟩
    dsimp only at hk hg hlen hok ⊢
    by_cases hlt : k < m.length
    ·rw [aY (t:=.slot) hlt] at hg
     simp only [eB] at hg
     have hE:=hsm _ (ao (t:=.slot) hlt)
     have hE2:=hv _ (ao (t:=.slot) hlt)
     have hput:=ig out (elt .slot m k).item (elt .slot m k).n (by omega) hok hE2.1 hE2.2 (by omega)
     have hpl:=da out (elt .slot m k).item (elt .slot m k).n
     have hpo:=qU (n:=(elt .slot m k).n) hok hE2
     generalize bk out (elt .slot m k).item (elt .slot m k).n = Q at *
     obtain ⟨Q,q⟩:=Q
     dsimp only at *
     conv=>whnf
     repeat' (first|exact trivial|((first|refine kL ?_|(refine ⟨fun hb=>?_,fun hb=>?_⟩<;>(try simp only [nrm] at hb)<;>try exact kZ hb)|(refine isE 121 ?_;refine kA (a8 l (by omega)) ?_)|(refine isD 121 ?_;refine kD (a8 l (by omega)) ?_)|refine kV ?_)<;>(conv=>whnf))|refine kY ?_ ?_)
     ·rw [if_pos hb] at hg;rw [← hg]
     ·rw [if_pos hb] at hg;rw [← hg]
     ·rw [if_neg (by omega)] at hg
      refine .to (k + 1,Q) ⟨hlt,hg,hpl.trans hlen,hpo⟩ (by dsimp only;omega) ?_
      exact fD0
    ·obtain rfl : k = m.length:=by omega
     rw [List.drop_length] at hg
     simp only [eB] at hg
     conv=>whnf
     repeat' (first|exact trivial|((first|(refine ⟨fun hb=>?_,fun hb=>?_⟩<;>(try simp only [nrm] at hb)<;>try exact kZ hb)|refine kV ?_)<;>(conv=>whnf))|refine kY ?_ ?_)
     all_goals rw [← hg]
open Go Go.RowKit Eng
def bi {α : Type} (key : α → Int) : List α → Prop
 | []=>True
 | b :: r=>(∀ x ∈ r,key b < key x) ∧ bi key r
def lbK {α : Type} (key : α → Int) (t : Int) : List α → Nat
 | []=>0
 | b :: r=>if key b < t then lbK key t r + 1 else 0
def aH {α : Type} (key : α → Int) : List α → Int → Option α
 | [],_=>none
 | b :: r,t=>if key b = t then some b else aH key r t
def dZ {α : Type} (key : α → Int) (t : Int) : List α → List α
 | []=>[]
 | b :: r=>if key b < t then b :: dZ key t r else if key b = t then r else b :: r
def eN {α : Type} (key : α → Int) (x : α) : List α → List α
 | []=>[x]
 | b :: r=>if key b < key x then b :: eN key x r else x :: b :: r
theorem yL {α : Type} (key : α → Int) (t : Int) (l : List α) : lbK key t l ≤ l.length:=by
 induction l with
 | nil=>simp [lbK]
 | cons b r ih=>simp only [lbK,List.length_cons];split<;>omega
theorem dm {α : Type} {key : α → Int} {l : List α} {t : Int} : aH key l t = none ↔ ∀ b ∈ l,key b ≠ t:=by
 induction l with
 | nil=>simp [aH]
 | cons b r ih =>
  simp only [aH,List.mem_cons,forall_eq_or_imp]
  split
  ·rename_i h;simp [h]
  ·rename_i h;rw [ih];exact ⟨fun h2=>⟨h,h2⟩,fun h2=>h2.2⟩
theorem gq {α : Type} {key : α → Int} {l : List α} {t : Int} {s : α} (h : aH key l t = some s) : s ∈ l ∧ key s = t:=by
 induction l with
 | nil=>simp [aH] at h
 | cons b r ih =>
  simp only [aH] at h
  split at h
  ·rename_i hb;cases h;exact ⟨by simp,hb⟩
  ·obtain ⟨h1,h2⟩:=ih h;exact ⟨by simp [h1],h2⟩
theorem ng {α : Type} {key : α → Int} {l : List α} (h : bi key l) {b : α} (hb : b ∈ l) : aH key l (key b) = some b:=by
 induction l with
 | nil=>simp at hb
 | cons a r ih =>
  simp only [aH]
  rcases List.mem_cons.1 hb with rfl|hb
  ·simp
  ·have:=h.1 b hb
   rw [if_neg (by omega)];exact ih h.2 hb
theorem tO {α : Type} {key : α → Int} : ∀ {l l' : List α},bi key l → bi key l' → (∀ t,aH key l t = aH key l' t) → l = l'
 | [],[],_,_,_=>rfl
 | [],b :: r,_,_,h=>by have:=h (key b);simp [aH] at this
 | b :: r,[],_,_,h=>by have:=h (key b);simp [aH] at this
 | b :: r,b' :: r',h1,h2,h=>by
  have hb:=h (key b)
  simp only [aH,if_true] at hb
  have hb':=h (key b')
  simp only [aH,if_true] at hb'
  have e : key b = key b':=by
   by_cases he : key b' = key b
   ·exact he.symm
   ·rw [if_neg he] at hb
    rw [if_neg (fun e=>he e.symm)] at hb'
    obtain ⟨hx,hxe⟩:=gq hb.symm
    obtain ⟨hy,hye⟩:=gq hb'
    have:=h2.1 b hx
    have:=h1.1 b' hy
    omega
  rw [if_pos e.symm] at hb
  have eb : b = b':=Option.some.inj hb
  subst eb
  rw [tO (l:=r) (l':=r') h1.2 h2.2 fun t=>?_]
  have ht:=h t
  simp only [aH] at ht
  split at ht
  ·rename_i hbt
   have n1 : aH key r t = none:=dm.2 fun x hx=>by have:=h1.1 x hx;omega
   have n2 : aH key r' t = none:=dm.2 fun x hx=>by have:=h2.1 x hx;omega
   rw [n1,n2]
  ·exact ht
theorem tP {α : Type} {key : α → Int} : ∀ {l : List α} (t : Int),bi key l → (match l[lbK key t l]? with|some b=>if key b = t then some b else none|none=>none) = aH key l t
 | [],t,_=>rfl
 | b :: r,t,h=>by
  by_cases hb : key b < t
  ·have ih:=tP (l:=r) t h.2
   simp only [lbK,aH,if_pos hb,List.getElem?_cons_succ,if_neg (show ¬ key b = t by omega)]
   exact ih
  ·simp only [lbK,aH,if_neg hb,List.getElem?_cons_zero]
   split
   ·rfl
   ·rename_i he
    exact (dm.2 fun x hx=>by have:=h.1 x hx;omega).symm
theorem kp {α : Type} {key : α → Int} : ∀ {l : List α},bi key l → ∀ {i j : Nat} {a b : α},i < j → l[i]? = some a → l[j]? = some b → key a < key b
 | [],_,i,j,a,b,_,ha,_=>by simp at ha
 | c :: r,h,i,j,a,b,hij,ha,hb=>by
  cases j with
  | zero=>omega
  | succ j =>
   simp at hb
   cases i with
   | zero=>simp at ha;subst ha;exact h.1 b (List.mem_of_getElem? hb)
   | succ i=>simp at ha;exact kp (l:=r) h.2 (by omega) ha hb
theorem mg {α : Type} {key : α → Int} {t : Int} : ∀ {l : List α} {x : α},x ∈ dZ key t l → x ∈ l
 | [],x,h=>by simp [dZ] at h
 | b :: r,x,h=>by
  simp only [dZ] at h
  split at h
  ·rcases List.mem_cons.1 h with rfl|h
   ·simp
   ·simp [mg h]
  ·split at h
   ·simp [h]
   ·exact h
theorem k_ {α : Type} {key : α → Int} {t : Int} : ∀ {l : List α},bi key l → bi key (dZ key t l)
 | [],_=>trivial
 | b :: r,h=>by
  simp only [dZ]
  split
  ·exact ⟨fun x hx=>h.1 x (mg hx),k_ h.2⟩
  ·split
   ·exact h.2
   ·exact h
theorem mh {α : Type} {key : α → Int} {t u : Int} : ∀ {l : List α},bi key l → aH key (dZ key t l) u = if u = t then none else aH key l u
 | [],_=>by simp [dZ,aH]
 | b :: r,h=>by
  have ih:=mh (t:=t) (u:=u) h.2
  simp only [dZ]
  split
  ·rename_i hb
   simp only [aH,ih]
   split
   ·rename_i hbu;rw [if_neg (by omega)]
   ·rfl
  ·split
   ·rename_i hbe
    by_cases hu : u = t
    ·rw [if_pos hu,dm];intro x hx;have:=h.1 x hx;omega
    ·rw [if_neg hu];simp only [aH];rw [if_neg (by omega)]
   ·rename_i hbt hbe
    by_cases hu : u = t
    ·rw [if_pos hu,dm]
     intro x hx
     rcases List.mem_cons.1 hx with rfl|hx
     ·omega
     ·have:=h.1 x hx;omega
    ·rw [if_neg hu]
theorem u9 {α : Type} (key : α → Int) (x : α) : ∀ l : List α,l.take (lbK key (key x) l) ++ x :: l.drop (lbK key (key x) l) = eN key x l
 | []=>rfl
 | b :: r=>by
  simp only [lbK,eN]
  split
  ·rw [← u9 key x r];rfl
  ·rfl
theorem qV {α : Type} {key : α → Int} {t : Int} : ∀ {l : List α},bi key l → dZ key t l = if (aH key l t).isSome then l.take (lbK key t l) ++ l.drop (lbK key t l + 1) else l
 | [],_=>rfl
 | b :: r,h=>by
  have ih:=qV (t:=t) h.2
  by_cases hb : key b < t
  ·have e1 : aH key (b :: r) t = aH key r t:=by simp only [aH,if_neg (show ¬ key b = t by omega)]
   have e2 : lbK key t (b :: r) = lbK key t r + 1:=by simp only [lbK,if_pos hb]
   rw [e1,e2]
   simp only [dZ,if_pos hb,ih]
   split<;>simp
  ·have e2 : lbK key t (b :: r) = 0:=by simp only [lbK,if_neg hb]
   rw [e2]
   by_cases he : key b = t
   ·simp [he,dZ,aH]
   ·have hn : aH key r t = none:=dm.2 fun x hx=>by have:=h.1 x hx;omega
    simp [he,hn,dZ,aH,hb]
theorem BX {α : Type} {key : α → Int} (t : Int) : ∀ l : List α,bi key l → lbK key t (dZ key t l) = lbK key t l
 | [],_=>rfl
 | b :: r,h=>by
  simp only [dZ]
  split
  ·rename_i hb;simp only [lbK,if_pos hb];rw [BX t r h.2]
  ·rename_i hb
   split
   ·rename_i he
    simp only [lbK,if_neg hb]
    cases r with
    | nil=>rfl
    | cons a r=>simp only [lbK];have:=h.1 a (by simp);rw [if_neg (by omega)]
   ·rfl
theorem oo {α : Type} {key : α → Int} {x : α} : ∀ {l : List α} {y : α},y ∈ eN key x l → y = x ∨ y ∈ l
 | [],y,h=>by simp [eN] at h;exact .inl h
 | b :: r,y,h=>by
  simp only [eN] at h
  split at h
  ·rcases List.mem_cons.1 h with rfl|h
   ·simp
   ·rcases oo h with h|h
    ·exact .inl h
    ·simp [h]
  ·rcases List.mem_cons.1 h with rfl|h
   ·exact .inl rfl
   ·exact .inr h
theorem oq {α : Type} {key : α → Int} {x : α} : ∀ {l : List α},bi key l → aH key l (key x) = none → bi key (eN key x l)
 | [],_,_=>⟨by simp,trivial⟩
 | b :: r,h,hn=>by
  have hn':=dm.1 hn
  simp only [eN]
  split
  ·rename_i hb
   refine ⟨fun y hy=>?_,oq h.2 (dm.2 fun y hy=>hn' y (by simp [hy]))⟩
   rcases oo hy with rfl|hy
   ·exact hb
   ·exact h.1 y hy
  ·rename_i hb
   have h0:=hn' b (by simp)
   refine ⟨fun y hy=>?_,h⟩
   rcases List.mem_cons.1 hy with rfl|hy
   ·omega
   ·have:=h.1 y hy;omega
theorem sI {α : Type} {key : α → Int} {x : α} {u : Int} : ∀ {l : List α},aH key l (key x) = none → aH key (eN key x l) u = if u = key x then some x else aH key l u
 | [],_=>by simp only [eN,aH];by_cases h : u = key x<;>simp [h];exact fun e=>absurd e.symm h
 | b :: r,hn=>by
  have hn':=dm.1 hn
  have h0:=hn' b (by simp)
  have ih:=sI (x:=x) (u:=u) (l:=r) (dm.2 fun y hy=>hn' y (by simp [hy]))
  simp only [eN]
  split
  ·simp only [aH,ih]
   by_cases hbu : key b = u
   ·rw [if_pos hbu,if_pos hbu,if_neg (by omega)]
   ·rw [if_neg hbu,if_neg hbu]
  ·simp only [aH]
   by_cases hu : u = key x
   ·rw [if_pos hu.symm,if_pos hu]
   ·rw [if_neg (fun e=>hu e.symm),if_neg hu]
theorem BZ {α : Type} {key : α → Int} (x : α) : ∀ (l : List α),bi key l → (aH key l (key x)).isSome = true → l.set (lbK key (key x) l) x = eN key x (dZ key (key x) l)
 | [],_,h=>by simp [aH] at h
 | b :: r,hr,h=>by
  simp only [aH] at h
  simp only [lbK,dZ]
  split
  ·rename_i hb
   rw [if_neg (by omega)] at h
   simp only [List.set_cons_succ,eN,if_pos hb]
   rw [BZ x r hr.2 h]
  ·rename_i hb
   by_cases he : key b = key x
   ·rw [if_pos he,List.set_cons_zero]
    cases r with
    | nil=>rfl
    | cons a r=>have:=hr.1 a (by simp);simp only [eN];rw [if_neg (by omega)]
   ·rw [if_neg he] at h
    have hn : aH key r (key x) = none:=dm.2 fun y hy=>by have:=hr.1 y hy;omega
    rw [hn] at h;cases h
theorem pH {α : Type} {key : α → Int} {l : List α} {t : Int} {b : α} (h : bi key l) (hg : aH key l t = some b) : lbK key t l < l.length ∧ l[lbK key t l]? = some b:=by
 have h1:=tP t h
 rw [hg] at h1
 split at h1
 ·rename_i b' hb'
  split at h1
  ·cases h1;exact ⟨(List.getElem?_eq_some_iff.1 hb').1,hb'⟩
  ·cases h1
 ·cases h1
theorem rJ {α : Type} (key : α → Int) (x : α) (l : List α) : (eN key x l).length = l.length + 1:=by
 induction l with
 | nil=>rfl
 | cons b r ih=>simp only [eN];split<;>simp [ih]
theorem Av {α : Type} (key : α → Int) (t : Int) (l : List α) : (dZ key t l).length ≤ l.length:=by
 induction l with
 | nil=>simp [dZ]
 | cons b r ih=>simp only [dZ];split<;>(try split)<;>simp<;>omega
open Go Go.RowKit Eng
theorem Lf : ownKnob Tryz.prog.godebug = none:=by kernel_rfl
theorem Km : laidOutB Tryz.prog = true:=by kernel_rfl
theorem E3 : Tryz.prog.underlying 4 = some .bool:=by kernel_rfl
def gr (n : Int) : Prop:=-9223372036854775808 ≤ n ∧ n ≤ 9223372036854775807
def u_ (n : Int) : Prop:=0 ≤ n ∧ n ≤ 255
theorem el : cq Tryz.prog 3 1 (fun n : Int=>[.lit (.int .i64 n)]) gr:=mE jj (by kernel_rfl)
theorem B0 : cq Tryz.prog 62 1 (fun n : Int=>[.lit (.int .u8 n)]) u_:=mE EY (by kernel_rfl)
def lL (s : aa) : Prop:=u_ s.item ∧ gr s.n
theorem B3 : cq Tryz.prog 66 2 (cells .slot) lL:=
 f8 (dW yE (by kernel_rfl) (by kernel_rfl) (aP B0 (aP el (fq _ _)))) (fun p=>(⟨p.1,p.2.1⟩ : aa)) (fun _=>rfl) (fun _=>rfl) fun a h=>⟨h.1,h.2.1⟩
theorem sJ : cq Tryz.prog 44 1 (fun l : List (El .slot)=>[.vec .slot l]) (fun l=>(∀ s ∈ l,lL s) ∧ l.length * 16 ≤ 140737488351232):=
 eQ .slot (by kernel_rfl) (by kernel_rfl) (by kernel_rfl) B3
def vd (h : du) : Prop:=gr h.cell ∧ lL h.slot
theorem I6 : cq Tryz.prog 68 3 (cells .heap) vd:=
 f8 (dW (fs:=Tryz.prog.fieldsOf 68) (by kernel_rfl) (by kernel_rfl) (by kernel_rfl) (aP el (aP B3 (fq _ _)))) (fun p=>(⟨p.1,p.2.1⟩ : du)) (fun _=>rfl) (fun _=>rfl) fun a h=>⟨h.1,h.2.1⟩
def yM (b : Box) : Prop:=gr b.cell ∧ (∀ s ∈ b.bag,lL s) ∧ b.bag.length * 16 ≤ 140737488351232
theorem Kn : cq Tryz.prog 125 2 (cells .box) yM:=
 f8 (dW (fs:=Tryz.prog.fieldsOf 125) (by kernel_rfl) (by kernel_rfl) (by kernel_rfl) (aP el (aP sJ (fq _ _)))) (fun p=>(⟨p.1,p.2.1⟩ : Box)) (fun _=>rfl) (fun _=>rfl) fun a h=>⟨h.1,h.2.1.1,h.2.1.2⟩
theorem Hc : cq Tryz.prog 52 1 (fun l : List (El .u8)=>[.vec .u8 l]) (fun l=>(∀ i ∈ l,u_ i) ∧ l.length * 1 ≤ 140737488351232):=eQ .u8 (by kernel_rfl) (by kernel_rfl) (by kernel_rfl) B0
theorem Hd : cq Tryz.prog 53 1 (fun l : List (El .heap)=>[.vec .heap l]) (fun l=>(∀ h ∈ l,vd h) ∧ l.length * 24 ≤ 140737488351232):=eQ .heap (by kernel_rfl) (by kernel_rfl) (by kernel_rfl) I6
theorem He : cq Tryz.prog 54 1 (fun l : List (El .box)=>[.vec .box l]) (fun l=>(∀ b ∈ l,yM b) ∧ l.length * 32 ≤ 140737488351232):=eQ .box (by kernel_rfl) (by kernel_rfl) (by kernel_rfl) Kn
structure iK (c : Chunk) : Prop where
 x : gr c.x
 y : gr c.y
 cells : ∀ i ∈ c.cells,u_ i
 nc : c.cells.length * 1 ≤ 140737488351232
 heaps : ∀ h ∈ c.heaps,vd h
 nh : c.heaps.length * 24 ≤ 140737488351232
 boxes : ∀ b ∈ c.boxes,yM b
 nb : c.boxes.length * 32 ≤ 140737488351232
theorem I7 : Tryz.prog.underlying 56 = some (.struct (Tryz.prog.fieldsOf 56)):=by kernel_rfl
theorem Hf : cq Tryz.prog 56 5 (cells .chunk) iK:=
 f8 (dW I7 (by kernel_rfl) (by kernel_rfl) (aP el (aP el (aP Hc (aP Hd (aP He (fq _ _)))))))
  (fun p=>(⟨p.1,p.2.1,p.2.2.1,p.2.2.2.1,p.2.2.2.2.1⟩ : Chunk)) (fun _=>rfl) (fun _=>rfl) fun a h=>⟨h.1,h.2.1,h.2.2.1.1,h.2.2.1.2,h.2.2.2.1.1,h.2.2.2.1.2,h.2.2.2.2.1.1,h.2.2.2.2.1.2⟩
structure kq (p : Player) : Prop where
 id : gr p.id
 x : gr p.x
 y : gr p.y
 bag : ∀ s ∈ p.bag,lL s
 nb : p.bag.length * 16 ≤ 140737488351232
 wth : gr p.wth
 offer : ∀ s ∈ p.offer,lL s
 no : p.offer.length * 16 ≤ 140737488351232
theorem I8 : cq Tryz.prog 4 1 (fun b : Bool=>[.lit (.bool b)]) (fun _=>True):=Cx E3 (by kernel_rfl)
theorem Hg : Tryz.prog.underlying 46 = some (.struct (Tryz.prog.fieldsOf 46)):=by kernel_rfl
theorem E4 : cq Tryz.prog 46 7 (cells .player) kq:=
 f8 (dW Hg (by kernel_rfl) (by kernel_rfl) (aP el (aP el (aP el (aP sJ (aP el (aP sJ (aP I8 (fq _ _)))))))))
  (fun p=>(⟨p.1,p.2.1,p.2.2.1,p.2.2.2.1,p.2.2.2.2.1,p.2.2.2.2.2.1,p.2.2.2.2.2.2.1⟩ : Player)) (fun _=>rfl) (fun _=>rfl) fun a h=>⟨h.1,h.2.1,h.2.2.1,h.2.2.2.1.1,h.2.2.2.1.2,h.2.2.2.2.1,h.2.2.2.2.2.1.1,h.2.2.2.2.2.1.2⟩
end Go.Proofs.YtkojlembanldcaaGreat
