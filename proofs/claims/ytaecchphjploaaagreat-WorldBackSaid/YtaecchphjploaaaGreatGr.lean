/- homesteadlaw13.WorldBack. -/
import Derived.Test.YtaecchphjploaaaGreatGf
import Derived.Test.YtaecchphjploaaaGreatGk
import Derived.Test.YtaecchphjploaaaGreatGi
import Derived.Test.YtaecchphjploaaaGreatRp
import Derived.Test.YtaecchphjploaaaGreatRq
import Derived.Test.YtaecchphjploaaaGreatGh
import Derived.Test.YtaecchphjploaaaGreatGg
import Derived.Still
import Derived.ProofKit
import Derived.HandedShaped
import Derived.Carry
import Derived.OpenShut
set_option linter.unusedSimpArgs false
set_option linter.unusedVariables false
set_option maxRecDepth 100000
set_option maxHeartbeats 16000000
namespace Eng
open Go Go.RowKit Go.ChangeShapes Go.WideShapes
theorem msim0 (W : World) : MSim W (g0 W) 0 (mget []):=
 ⟨fun k=>by simp [g0,mget],fun k hk=>hk.elim,fun k hk=>hk.elim,fun k j hk=>hk.elim,fun k b hb=>by simp [mget] at hb,fun b hb=>hb,fun b hb=>hb.elim⟩
end Eng
namespace Eng
open Go Go.RowKit Go.ChangeShapes Go.WideShapes
def ArgsOf (P : Program) (ts : List TypeId) {α : Type} (cs : α → List AV) (ok : α → Prop) : Prop:=
 ∀ (W : World) (H : Type) (enc : TypeId × Value → H) (base : Nat) (vs : List Value) (ds : List (DataW H)) (ps : List MemPlace),(∀ (j : Nat) t v,ts[j]? = some t → vs[j]? = some v → Value.okWide P W .any base t v) →
   DataW.TrodAll enc P W 0 (fun _=>true) true ts vs ds ps → (∀ k ∈ DataW.weightsEach P ts ds,k ≤ reachBytes) →
   ∃ a,ok a ∧ (cs a).length = vs.length ∧ ∀ (i : Nat) c y,(cs a)[i]? = some c → vs[i]? = some y → Rep W (g0 W) 0 c y
theorem args_nil (P : Program) : ArgsOf P [] (fun _ : Unit=>[]) (fun _=>True):=by
 intro W H enc base vs ds ps _ h _
 obtain ⟨rfl,_⟩:=trodAll_nil h
 exact ⟨(),trivial,rfl,by simp⟩
theorem args_cons {P : Program} {t : TypeId} {ts : List TypeId} {α β : Type} {c : α → AV} {ok1 : α → Prop} {cs : β → List AV} {ok2 : β → Prop} (h1 : ArgOf P t c ok1) (h2 : ArgsOf P ts cs ok2) :
   ArgsOf P (t :: ts) (fun p : α × β=>c p.1 :: cs p.2) (fun p=>ok1 p.1 ∧ ok2 p.2):=by
 intro W H enc base vs ds ps hok h hw
 obtain ⟨v,vs',d,ds',p,q,rfl,rfl,rfl,hd,hrest⟩:=trodAll_cons h
 simp only [DataW.weightsEach,List.mem_append] at hw
 obtain ⟨a,a1,a2⟩:=h1 W H enc base v d p (hok 0 t v rfl rfl) hd fun k hk=>hw k (.inl hk)
 obtain ⟨b,b1,b2,b3⟩:=h2 W H enc base vs' ds' q (fun j t v ht hv=>hok (j + 1) t v (by simpa using ht) (by simpa using hv)) hrest fun k hk=>hw k (.inr hk)
 refine ⟨(a,b),⟨a1,b1⟩,by simp [b2],fun i c y hc hy=>?_⟩
 cases i with
 | zero=>simp at hc hy;subst hc;subst hy;exact a2
 | succ i=>simp at hc hy;exact b3 i c y hc hy
theorem below_all {H : Type} {enc : TypeId × Value → H} {P : Program} (hl : laidOutB P = true) {W W' : World} (hb : Below W.heap.size W W') : ∀ {ts : List TypeId} {vs : List Value} {ds : List (DataW H)} {ps : List MemPlace},
   (∀ t ∈ ts,P.readableRec t = true ∧ t < P.types.size) → (∀ p ∈ ps,p.block < W.heap.size) → DataW.TrodAll enc P W 0 (fun _=>true) true ts vs ds ps → DataW.TrodAll enc P W' 0 (fun b=>decide (b < W.heap.size)) true ts vs ds ps
 | [],vs,ds,ps,_,_,h=>by
   obtain ⟨rfl,rfl,rfl⟩:=trodAll_nil h
   rfl
 | t :: ts,vs,ds,ps,hr,hp,h=>by
   obtain ⟨v,vs',d,ds',p,q,rfl,rfl,rfl,hd,hrest⟩:=trodAll_cons h
   have h0:=hr t (by simp)
   exact ⟨p,q,Below.trod hl h0.1 h0.2 hd hb fun x hx=>hp x (List.mem_append_left _ hx),below_all hl hb (fun t ht=>hr t (by simp [ht])) (fun x hx=>hp x (List.mem_append_right _ hx)) hrest,rfl⟩
theorem lifted_true {C : Checked} {os : Os} {f : FuncId} {fn : Func} {s : ChangeSpec} {boolT : TypeId} (own : ownKnob C.prog.godebug = none) (started : os.Started) (noInit : C.prog.inits.idxOf? f = none) (hfn : C.prog.funcs[f]? = some fn)
   (hl : laidOutB C.prog = true) (hts : ∀ t ∈ fn.params.toList,C.prog.readableRec t = true ∧ t < C.prog.types.size) (hres : fn.resultTypes = #[boolT]) (hbool : C.prog.underlying boolT = some .bool) (hvars : s.vars = [])
   {H : Type} {enc : TypeId × Value → H}
   (hspec : ∀ ds : List (DataW H),ds.length = fn.params.toList.length → s.fn H ds = { results:=[.lit (.bool true)],args:=ds })
   (witness : ∃ (w : World) (tape : Tape) (i : Input),w.os = os ∧ (w.forCall tape i).Shaped C.prog ∧ i.vars = [] ∧ Input.okWide C.prog (w.forCall tape i) .any w.heap.size f i ∧
     s.pre6 enc C.prog fn [] false (w.forCall tape i).memory i.args ∧ ({} : Assume).holds C.prog (lone (Frame.enter C.prog f i.args .normal) [] (w.forCall tape i)))
   {α : Type} {cs : α → List AV} {ok : α → Prop} (hargs : ArgsOf C.prog fn.params.toList cs ok) (api : ∀ a,ok a → Api C.prog f (cs a) (bol true)) :
   ReturnsInHanded {} C os f .any (s.pre6 enc C.prog fn [] false) (s.post enc C.prog fn false true false false):=by
 refine returnsInHanded_of_change_shaped own started noInit hfn witness ?_
 intro W base args ds gs before hval hW _ hsz _ _
 have hW':=hW
 obtain ⟨p,q,hA,hV,rfl,hfz,hnd⟩:=hW
 rw [hvars] at hV
 obtain ⟨rfl,rfl⟩:=trodVars_none hV
 simp only [List.append_nil] at hW' hsz
 have hvt : s.plain.varTypes C.prog = []:=by simp [DataSpec.varTypes,ChangeSpec.plain,hvars]
 rw [hvt,List.append_nil] at hsz
 simp only [List.all_eq_true,decide_eq_true_eq] at hsz
 obtain ⟨a,h1,h2,h3⟩:=hargs W H enc base args.toList ds p (fun j t v ht hv=>hval j t v (by simpa using ht) (by simpa using hv)) hA hsz
 have hdl : ds.length = fn.params.toList.length:=by
   have : ∀ (ts : List TypeId) (vs : List Value) (ds : List (DataW H)) (ps : List MemPlace),DataW.TrodAll enc C.prog W 0 (fun _=>true) true ts vs ds ps → ds.length = ts.length:=by
     intro ts
     induction ts with
     | nil=>intro vs ds ps h;obtain ⟨_,rfl,_⟩:=trodAll_nil h;rfl
     | cons t ts ih =>
       intro vs ds ps h
       obtain ⟨v,vs',d,ds',p,q,rfl,rfl,rfl,hd,hrest⟩:=trodAll_cons h
       simp [ih _ _ _ hrest]
   exact this _ _ _ _ hA
 refine (api a h1 W (g0 W) args (msim0 W) ⟨by simpa using h2,fun i c x hc hx=>h3 i c x hc (by simpa using hx)⟩).mono fun e W' ⟨x,g',he,hr,_,ht,_⟩=>?_
 have hb : Below W.heap.size W W':=⟨ht.os,ht.tape,ht.output,ht.size.1,fun k hk=>ht.same k hk⟩
 have hx : x = .bool true:=by cases hr;rfl
 subst hx
 have hlt : ∀ x ∈ p,x.block < W.heap.size:=fun x hx=>hW'.lt x (by simpa using hx)
 refine ⟨_,he,ds,[],p,[],p,[],hW',?_,?_,?_,hb.frame _,by simp⟩
 · rw [List.append_nil,hspec ds hdl,hres]
   exact ⟨[],[],⟨1,by simp [DataW.trod,hbool,Value.cells]⟩,rfl,rfl⟩
 · rw [List.append_nil,hspec ds hdl]
   exact below_all hl hb hts hlt hA
 · rw [List.append_nil,hspec ds hdl,hvars]
   rfl
end Eng
namespace Go.Proofs.YtaecchphjploaaaGreat
open Go Go.RowKit Eng
theorem cmpI_ge {a b : Int} : 0 ≤ cmpI a b ↔ b ≤ a:=by unfold cmpI;(repeat' split)<;>omega
theorem cmpI_eq {a b : Int} : cmpI a b = 0 ↔ a = b:=by unfold cmpI;(repeat' split)<;>omega
end Go.Proofs.YtaecchphjploaaaGreat
namespace Go.Proofs.YtaecchphjploaaaGreat
open Go Go.RowKit Eng
theorem P_own : ownKnob Tryz.prog.godebug = none:=by kernel_rfl
theorem P_laid : laidOutB Tryz.prog = true:=by kernel_rfl
end Go.Proofs.YtaecchphjploaaaGreat
namespace Go.Proofs.YtaecchphjploaaaGreat
open Go Go.RowKit Eng
theorem u8Un : Tryz.prog.underlying 5 = some (.int .u8):=by kernel_rfl
end Go.Proofs.YtaecchphjploaaaGreat
namespace Go.Proofs.YtaecchphjploaaaGreat
open Go Go.RowKit Eng
theorem rd_u8 : Reads Tryz.prog 5 1 (fun n : Int=>[.lit (.int .u8 n)]) fitB:=reads_int u8Un (by kernel_rfl)
end Go.Proofs.YtaecchphjploaaaGreat
namespace Go.Proofs.YtaecchphjploaaaGreat
open Go Go.RowKit Eng
theorem ins_roomP (l : List (El .player)) (i : Nat) (b : El .player) (hi : i < l.length) : (upon (l.take (i + 1) ++ l.drop i) i [b]).take (l.length + 1) = l.take i ++ b :: l.drop i:=by
 unfold upon
 have h1 : (l.take (i + 1) ++ l.drop i).take i = l.take i:=by
   rw [List.take_append_of_le_length (by simp;omega),List.take_take,Nat.min_eq_left (by omega)]
 have h2 : (l.take (i + 1) ++ l.drop i).drop (i + ([b] : List (El .player)).length) = l.drop i:=List.drop_left' (by simp;omega)
 rw [h1,h2]
 exact List.take_of_length_le (by simp;omega)
theorem ins_len1P (l : List (El .player)) (i : Nat) (hi : i < l.length) : i ≤ (l.take (i + 1) ++ l.drop i).length:=by simp;omega
theorem ins_len2P (l : List (El .player)) (i : Nat) (b : El .player) (hi : i < l.length) : l.length + 1 ≤ (upon (l.take (i + 1) ++ l.drop i) i [b]).length:=by simp [upon];omega
set_option maxHeartbeats 2000000 in
theorem insert_capP (l : List (El .player)) (i : Nat) (b : El .player) (hi : i ≤ l.length) (hl : (l.length + 1) * 88 ≤ 140737488355328) (c : Nat) (hc : l.length ≤ c) : Ev1 Tryz.prog 75 [.own .player 1 0 l.length (some c),i64 i,.own .player 3 0 1 (some 1)] [(1,.row .player l),(3,.row .player [b])] (.own .player 390001 0 (l.length + 1) none) [(390001,.row .player (l.take i ++ b :: l.drop i))]:=by
 refine Ev1.of_fin cfg_ok Tryz.func75 rfl (nt:=92) rfl rfl rfl ?_
 conv=>whnf
 have e1 : ((i : Int) - 0).toNat = i:=by omega
 have e2 : ((l.length : Int) - (i : Int)).toNat = l.length - i:=by omega
 have e4 : ((l.length : Int) + 1 - (i : Int)).toNat = l.length + 1 - i:=by omega
 have e3 : List.take (l.length - i) (l.drop i) = l.drop i:=List.take_of_length_le (by simp)
 have e5 : ((i : Int) + 1).toNat = i + 1:=by omega
 have e6 : i + (l.length + 1 - i) = l.length + 1:=by omega
 have e7 : (((l.length + 1 : Nat) : Int) - (i : Int)).toNat = l.length + 1 - i:=by omega
 have e8 : (((l.length + 1 : Nat) : Int) - ((i : Int) + 1)).toNat = l.length - i:=by omega
 have e9 : ((l.length : Int) + 1 - ((i : Int) + 1)).toNat = l.length - i:=by omega
 have ea : ((l.length : Int) + 1).toNat = l.length + 1:=by omega
 have eb : min 1 (l.length + 1 - i) = 1:=by omega
 have ec : ((l.length : Int) + 1 - 0).toNat = l.length + 1:=by omega
 by_cases hcap : c < l.length + 1
 · repeat' (first|exact trivial|((first|refine kL ?_|(refine ⟨fun hb=>?_,fun hb=>?_⟩<;>(try simp only [nrm] at hb)<;>(try (first|(exfalso;omega)|contradiction|exact kB hb)))|refine kW cfg_ok ?_|refine kC ?_|refine bdA ?_|refine bd2 ?_|refine bdR ?_|refine bdL ?_)<;>(conv=>whnf))|(refine And.intro ?_ ?_;rotate_left;(conv=>whnf);rotate_right))
   · obtain rfl : i = l.length:=by omega
     simp only [List.take_length,List.drop_length]
     exact List.take_of_length_le (by simp)
   all_goals simp only [e1,e2,e3,e4,Int.natCast_one,e5,e6,e7,e8,e9,ea,eb,ec,Int.toNat_natCast,Int.toNat_zero,Nat.add_zero,Nat.zero_add,List.drop_zero,List.take_succ_cons,List.take_zero,List.length_cons,List.length_nil,Nat.min_self,List.length_drop]
   · simp [upon];omega
   · simp [upon];omega
   · generalize hR : List.replicate (l.length + 1 - i) (dflt Ty.player) = R
     have hRl : R.length = l.length + 1 - i:=by rw [← hR,List.length_replicate]
     have h1 : l.length + 1 = (i + 1) + (l.drop i).length:=by simp;omega
     rw [h1,upon_part _ _ _ (by simp [upon];omega)]
     have h2:=upon_part (l.take i ++ R) [b] i (by simp;omega)
     rw [List.length_singleton] at h2
     rw [h2,List.take_left' (by simp;omega)]
     simp
 · have ed : min (l.length + 1 - i) (l.length - i) = l.length - i:=by omega
   have hX : upon l (i + 1) (l.drop i) = l.take (i + 1) ++ l.drop i:=by
     unfold upon
     rw [show l.drop (i + 1 + (l.drop i).length) = [] from List.drop_eq_nil_of_le (by simp;omega),List.append_nil]
   repeat' (first|exact trivial|((first|refine kL ?_|(refine ⟨fun hb=>?_,fun hb=>?_⟩<;>(try simp only [nrm] at hb)<;>(try (first|(exfalso;omega)|contradiction|exact kB hb)))|refine kW cfg_ok ?_|refine kC ?_|refine bdA ?_|refine bd2 ?_|refine bdR ?_|refine bdL ?_)<;>(conv=>whnf))|(refine And.intro ?_ ?_;rotate_left;(conv=>whnf);rotate_right))
   · obtain rfl : i = l.length:=by omega
     simp only [List.take_length,List.drop_length]
     rw [← List.append_assoc,Nat.zero_add,List.take_length]
     have hlb : l.length + 1 = (l ++ [b]).length:=by rw [List.length_append];rfl
     exact List.take_left' hlb.symm
   all_goals simp only [e1,e2,e3,e4,Int.natCast_one,e5,e6,e7,e8,e9,ea,eb,ec,ed,Int.toNat_natCast,Int.toNat_zero,Nat.add_zero,Nat.zero_add,List.drop_zero,List.take_succ_cons,List.take_zero,List.length_cons,List.length_nil,Nat.min_self,List.length_drop,hX]
   · exact ins_len1P l i (by omega)
   · exact ins_len2P l i b (by omega)
   · exact ins_roomP l i b (by omega)
theorem insert_evP (l : List (El .player)) (i : Nat) (b : El .player) (hi : i ≤ l.length) (hl : (l.length + 1) * 88 ≤ 140737488355328) : Ev1 Tryz.prog 75 [.own .player 1 0 l.length none,i64 i,.own .player 3 0 1 (some 1)] [(1,.row .player l),(3,.row .player [b])] (.own .player 390001 0 (l.length + 1) none) [(390001,.row .player (l.take i ++ b :: l.drop i))]:=
 Ev1.cap fun c hc=>insert_capP l i b hi hl c hc
theorem insert_evnP (l : List (El .player)) (n : Nat) (i : Nat) (b : El .player) (hn : n = l.length) (hi : i ≤ l.length) (hl : (l.length + 1) * 88 ≤ 140737488355328) : Ev1 Tryz.prog 75 [.own .player 1 0 n none,i64 i,.own .player 3 0 1 (some 1)] [(1,.row .player l),(3,.row .player [b])] (.own .player 390001 0 (n + 1) none) [(390001,.row .player (l.take i ++ b :: l.drop i))]:=by
 subst hn;exact insert_evP l i b hi hl
end Go.Proofs.YtaecchphjploaaaGreat
namespace Go.Proofs.YtaecchphjploaaaGreat
open Go Go.RowKit Eng
def bsP (l : List Player) (t : Int) : Nat:=bsGo (fun k=>decide ((elt .player l k).id < t)) 0 l.length
def fdP (l : List Player) (t : Int) : Bool:=decide (bsP l t < l.length) && ((elt .player l (bsP l t)).id == t)
theorem bsP_rises {l : List Player} (h : risesK pid l) (t : Int) : bsP l t = lbK pid t l ∧ fdP l t = (getK pid l t).isSome:=by
 have hat:=lbK_at t h
 have hle:=lbK_le pid t l
 have e1 : bsP l t = lbK pid t l:=by
   refine bsGo_at (m:=l.length) (fun k hk=>?_) _ 0 l.length (Nat.le_refl _) (by omega) hle (Nat.le_refl _)
   have hke:=elt_get .player l k hk
   -- the boundary
   have hb1 : ∀ {l : List Player} {k : Nat} {a : Player},l[k]? = some a → k < lbK pid t l → a.id < t:=by
     intro l
     induction l with
     | nil=>intro k a ha;simp at ha
     | cons b r ih =>
       intro k a ha hk
       simp only [lbK] at hk
       split at hk
       · cases k with
         | zero=>simp at ha;subst ha;assumption
         | succ k=>simp at ha;exact ih ha (by omega)
       · omega
   by_cases hkb : k < lbK pid t l
   · rw [decide_eq_true hkb,decide_eq_true (hb1 hke hkb)]
   · rw [decide_eq_false hkb,decide_eq_false]
     have hlt' : lbK pid t l < l.length:=by omega
     have hbe:=elt_get .player l _ hlt'
     have hge : t ≤ (elt .player l (lbK pid t l)).id:=by
       have : ∀ {l : List Player} {b : Player},l[lbK pid t l]? = some b → t ≤ b.id:=by
         intro l
         induction l with
         | nil=>intro b hb;simp at hb
         | cons c r ih =>
           intro b hb
           simp only [lbK] at hb
           split at hb
           · simp at hb;exact ih hb
           · rename_i hc;simp at hb;subst hb;simp only [pid] at hc;omega
       exact this hbe
     rcases Nat.eq_or_lt_of_le (Nat.le_of_not_lt hkb) with he|hl
     · rw [← he];exact Int.not_lt.2 hge
     · have h3 : (elt .player l (lbK pid t l)).id < (elt .player l k).id:=risesK_lt h hl hbe hke
       exact Int.not_lt.2 (Int.le_trans hge (Int.le_of_lt h3))
 refine ⟨e1,?_⟩
 unfold fdP
 rw [e1]
 by_cases hlt : lbK pid t l < l.length
 · have hbe:=elt_get .player l _ hlt
   rw [hbe] at hat
   simp only at hat
   rw [decide_eq_true hlt,Bool.true_and,← hat]
   by_cases he : (elt .player l (lbK pid t l)).id = t
   · rw [if_pos he];simpa using he
   · rw [if_neg he];simpa using he
 · rw [List.getElem?_eq_none (by omega)] at hat
   rw [decide_eq_false hlt,← hat];rfl
theorem seek1_api (p : Player) (t : Int) : Api Tryz.prog 146 [.agg (cells .player p),i64 t] (i64 (cmpI p.id t)):=by
 refine Api.of_fin cfg_ok Tryz.func146 rfl (nt:=7) rfl rfl ?_
 conv=>whnf
 repeat' (first|exact trivial|((first|refine kL ?_|(refine ⟨fun hb=>?_,fun hb=>?_⟩<;>(try simp only [nrm] at hb)<;>(try (first|(exfalso;omega)|contradiction|exact kB hb)))|(refine isE 135 ?_;refine kA (cmp_api _ _) ?_)|(refine isD 135 ?_;refine kD (cmp_api _ _) ?_)|refine kW cfg_ok ?_|refine kC ?_|refine bdA ?_|refine bd2 ?_|refine bdR ?_|refine bdL ?_)<;>(conv=>whnf))|(refine And.intro ?_ ?_;rotate_left;(conv=>whnf);rotate_right))
theorem bsearchP_api (l : List (El .player)) (t : Int) (hl : l.length ≤ 4000000000000000000) : Api Tryz.prog 145 [.vec .player l,i64 t,.lit (.func (.func 146) #[] #[])] (.tup [i64 (bsP l t),bol (fdP l t)]):=by
 refine Api.of_fin cfg_ok Tryz.func145 rfl (nt:=46) rfl rfl ?_
 conv=>whnf
 refine Runs.loopS cfg_ok (σ:=Nat × Nat) [0,1,2,8,9,10] (fun (i,j)=>[.vec .player l,i64 t,.lit (.func (.func 146) #[] #[]),i64 l.length,i64 i,i64 j]) (fun _=>[]) (fun (i,j)=>i ≤ j ∧ j ≤ l.length ∧ bsGo (fun k=>decide ((elt .player l k).id < t)) i j = bsP l t) (fun (i,j)=>j - i) (0,l.length) ⟨by omega,by omega,rfl⟩ ?_ ?_
 · conv=>whnf
   repeat' (first|exact trivial|((first|refine kL ?_|(refine ⟨fun hb=>?_,fun hb=>?_⟩<;>(try simp only [nrm] at hb)<;>(try (first|(exfalso;omega)|contradiction|exact kB hb)))|refine kW cfg_ok ?_|refine kC ?_|refine bdA ?_|refine bd2 ?_|refine bdR ?_|refine bdL ?_)<;>(conv=>whnf))|(refine And.intro ?_ ?_;rotate_left;(conv=>whnf);rotate_right))
 · rintro ⟨i,j⟩ ⟨h1,h2,h3⟩
   conv=>whnf
   repeat' (first|exact trivial|((first|refine kL ?_|(refine ⟨fun hb=>?_,fun hb=>?_⟩<;>(try simp only [nrm] at hb)<;>(try (first|(exfalso;omega)|contradiction|exact kB hb)))|(rw [shr1])|(refine isE 146 ?_;refine kA (seek1_api _ _) ?_)|(refine isD 146 ?_;refine kD (seek1_api _ _) ?_)|refine kW cfg_ok ?_|refine kC ?_|refine bdA ?_|refine bd2 ?_|refine bdR ?_|refine bdL ?_)<;>(conv=>whnf))|(refine And.intro ?_ ?_;rotate_left;(conv=>whnf);rotate_right))
   · rw [cmpI_lt] at hb
     refine .to ((i + j) / 2 + 1,j) ⟨by omega,h2,by rw [← h3,bsGo_lo (i:=i) (j:=j) (by omega) (decide_eq_true hb)]⟩ (by dsimp only;omega) ?_
     conv=>whnf
     repeat' (first|exact trivial|((first|refine kL ?_|(refine ⟨fun hb=>?_,fun hb=>?_⟩<;>(try simp only [nrm] at hb)<;>(try (first|(exfalso;omega)|contradiction|exact kB hb)))|refine kW cfg_ok ?_|refine kC ?_|refine bdA ?_|refine bd2 ?_|refine bdR ?_|refine bdL ?_)<;>(conv=>whnf))|(refine And.intro ?_ ?_;rotate_left;(conv=>whnf);rotate_right))
   · rw [cmpI_ge] at hb
     refine .to (i,(i + j) / 2) ⟨by omega,by omega,by rw [← h3,bsGo_hi (i:=i) (j:=j) (by omega) (decide_eq_false (Int.not_lt.2 hb))]⟩ (by dsimp only;omega) ?_
     conv=>whnf
     repeat' (first|exact trivial|((first|refine kL ?_|(refine ⟨fun hb=>?_,fun hb=>?_⟩<;>(try simp only [nrm] at hb)<;>(try (first|(exfalso;omega)|contradiction|exact kB hb)))|refine kW cfg_ok ?_|refine kC ?_|refine bdA ?_|refine bd2 ?_|refine bdR ?_|refine bdL ?_)<;>(conv=>whnf))|(refine And.intro ?_ ?_;rotate_left;(conv=>whnf);rotate_right))
   all_goals
     obtain rfl : i = j:=by omega
     rw [bsGo_end (by omega)] at h3
     subst h3
   · rfl
   · unfold fdP
     rw [decide_eq_true (by omega)];refine congrArg Value.bool ?_;rw [Bool.true_and,Bool.eq_iff_iff,beq_iff_eq,beq_iff_eq];exact cmpI_eq
   · rfl
   · unfold fdP
     rw [decide_eq_false (by omega)];rfl
theorem seek_api (w : Wld) (t : Int) (hl : w.players.length ≤ 4000000000000000000) : Api Tryz.prog 73 [wldV w,i64 t] (.tup [i64 (bsP w.players t),bol (fdP w.players t)]):=by
 refine Api.of_fin cfg_ok Tryz.func73 rfl (nt:=10) rfl rfl ?_
 conv=>whnf
 repeat' (first|exact trivial|((first|refine kL ?_|(refine ⟨fun hb=>?_,fun hb=>?_⟩<;>(try simp only [nrm] at hb)<;>(try (first|(exfalso;omega)|contradiction|exact kB hb)))|(refine isE 145 ?_;refine kA (bsearchP_api w.players t hl) ?_)|(refine isD 145 ?_;refine kD (bsearchP_api w.players t hl) ?_)|refine kW cfg_ok ?_|refine kC ?_|refine bdA ?_|refine bd2 ?_|refine bdR ?_|refine bdL ?_)<;>(conv=>whnf))|(refine And.intro ?_ ?_;rotate_left;(conv=>whnf);rotate_right))
theorem seek_own (w : Wld) (t : Int) (hl : w.players.length ≤ 4000000000000000000) : Ev1 Tryz.prog 73 [.agg (wldO w 1 3),i64 t] (wldR w 1 3) (.tup [i64 (bsP w.players t),bol (fdP w.players t)]) (wldR w 1 3):=by
 refine Api.lend (seek_api w t hl) ?_ rfl
 conv=>whnf
 refine ⟨by omega,?_⟩
 conv=>whnf
 refine ⟨by omega,?_⟩
 conv=>whnf
 simp only [List.drop_zero,List.take_length]
theorem within_own (w : Wld) (x y : Int) : Ev1 Tryz.prog 53 [.agg (wldO w 1 3),i64 x,i64 y] (wldR w 1 3) (bol (withinW w.size x y)) (wldR w 1 3):=by
 refine Api.lend (within_api w x y) ?_ rfl
 conv=>whnf
 refine ⟨by omega,?_⟩
 conv=>whnf
 refine ⟨by omega,?_⟩
 conv=>whnf
 simp only [List.drop_zero,List.take_length]
end Go.Proofs.YtaecchphjploaaaGreat
namespace Go.Proofs.YtaecchphjploaaaGreat
open Go Go.RowKit Eng
theorem set_world (w : Wld) (p : Player) (hw : OkW w) (hp : OkP p) : Api Tryz.prog 24 [wldV w,playerV p] (.tup [wldV (setW w p).1,i64 (setW w p).2]):=by
 have hnc:=hw.nc
 have hnp:=hw.np
 have hrt:=rightW_api w hw
 have hsk:=seek_own w p.id (by omega)
 have hso:=sound_api p hp
 have hwi:=within_api w p.x p.y
 have hwc:=wcopied_ev w hw
 cases hR : rightW w with
 | false =>
   rw [hR] at hrt
   have hs : setW w p = (w,113):=by unfold setW;rw [if_pos hR]
   rw [hs]
   refine Api.of_fin cfg_ok Tryz.func24 rfl (nt:=60) rfl rfl ?_
   conv=>whnf
   repeat' (first|exact trivial|((first|refine kL ?_|(refine ⟨fun hb=>?_,fun hb=>?_⟩<;>(try simp only [nrm] at hb)<;>(try (first|(exfalso;omega)|contradiction|exact kB hb)))|refine kE hwc [(390001,150001),(390003,150003)] rfl ?_|refine kF hwc [(390001,150001),(390003,150003)] rfl ?_|refine kE hsk [(1,150001),(3,150003)] rfl ?_|refine kF hsk [(1,150001),(3,150003)] rfl ?_|refine kA hrt ?_|refine kD hrt ?_|refine kW cfg_ok ?_|refine kC ?_|refine bdA ?_|refine bd2 ?_|refine bdR ?_|refine bdL ?_)<;>(conv=>whnf))|(refine And.intro ?_ ?_;rotate_left;(conv=>whnf);rotate_right))
   all_goals first|(simp;done)|(simp [withP];done)|(rw [List.drop_zero];refine take_all ?_;simp;done)|(rw [List.drop_zero];refine take_all ?_;simp;omega)
 | true =>
   rw [hR] at hrt
   obtain ⟨hri,h32,hs1,hs2⟩:=rightW_players hR
   obtain ⟨e1,e2⟩:=bsP_rises hri p.id
   rw [e1,e2] at hsk
   cases hS : soundB p with
   | false =>
     rw [hS] at hso
     have hs : setW w p = (w,110):=by unfold setW;rw [if_neg (by rw [hR];simp),if_pos (.inl hS)]
     rw [hs]
     refine Api.of_fin cfg_ok Tryz.func24 rfl (nt:=60) rfl rfl ?_
     conv=>whnf
     repeat' (first|exact trivial|((first|refine kL ?_|(refine ⟨fun hb=>?_,fun hb=>?_⟩<;>(try simp only [nrm] at hb)<;>(try (first|(exfalso;omega)|contradiction|exact kB hb)))|refine kE hwc [(390001,150001),(390003,150003)] rfl ?_|refine kF hwc [(390001,150001),(390003,150003)] rfl ?_|refine kE hsk [(1,150001),(3,150003)] rfl ?_|refine kF hsk [(1,150001),(3,150003)] rfl ?_|refine kA hrt ?_|refine kD hrt ?_|refine kA hso ?_|refine kD hso ?_|refine kW cfg_ok ?_|refine kC ?_|refine bdA ?_|refine bd2 ?_|refine bdR ?_|refine bdL ?_)<;>(conv=>whnf))|(refine And.intro ?_ ?_;rotate_left;(conv=>whnf);rotate_right))
     all_goals first|(simp;done)|(simp [withP];done)|(rw [List.drop_zero];refine take_all ?_;simp;done)|(rw [List.drop_zero];refine take_all ?_;simp;omega)
   | true =>
     rw [hS] at hso
     cases hI : withinW w.size p.x p.y with
     | false =>
       rw [hI] at hwi
       have hs : setW w p = (w,110):=by unfold setW;rw [if_neg (by rw [hR];simp),if_pos (.inr hI)]
       rw [hs]
       have hwl:=within_own w p.x p.y
       rw [hI] at hwl
       refine Api.of_fin cfg_ok Tryz.func24 rfl (nt:=60) rfl rfl ?_
       conv=>whnf
       repeat' (first|exact trivial|((first|refine kL ?_|(refine ⟨fun hb=>?_,fun hb=>?_⟩<;>(try simp only [nrm] at hb)<;>(try (first|(exfalso;omega)|contradiction|exact kB hb)))|refine kE hwc [(390001,150001),(390003,150003)] rfl ?_|refine kF hwc [(390001,150001),(390003,150003)] rfl ?_|refine kE hsk [(1,150001),(3,150003)] rfl ?_|refine kF hsk [(1,150001),(3,150003)] rfl ?_|refine kE hwl [(1,150001),(3,150003)] rfl ?_|refine kF hwl [(1,150001),(3,150003)] rfl ?_|refine kA hrt ?_|refine kD hrt ?_|refine kA hso ?_|refine kD hso ?_|refine kW cfg_ok ?_|refine kC ?_|refine bdA ?_|refine bd2 ?_|refine bdR ?_|refine bdL ?_)<;>(conv=>whnf))|(refine And.intro ?_ ?_;rotate_left;(conv=>whnf);rotate_right))
       all_goals first|(simp;done)|(simp [withP];done)|(rw [List.drop_zero];refine take_all ?_;simp;done)|(rw [List.drop_zero];refine take_all ?_;simp;omega)
     | true =>
       have hwl:=within_own w p.x p.y
       rw [hI] at hwl
       have hal:=alone_api p hp
       have hle:=lbK_le pid p.id w.players
       cases hT : (getK pid w.players p.id).isSome with
       | true =>
         rw [hT] at hsk
         have hs : setW w p = (withP w (w.players.set (lbK pid p.id w.players) p),0):=by unfold setW;rw [if_neg (by rw [hR];simp),if_neg (by rw [hS,hI];simp),if_pos hT]
         rw [hs]
         have hlt : lbK pid p.id w.players < w.players.length:=by
           obtain ⟨b,hb⟩:=Option.isSome_iff_exists.1 hT
           exact (lbK_lt hri hb).1
         generalize lbK pid p.id w.players = at_ at *
         refine Api.of_fin cfg_ok Tryz.func24 rfl (nt:=60) rfl rfl ?_
         conv=>whnf
         repeat' (first|exact trivial|((first|refine kL ?_|(refine ⟨fun hb=>?_,fun hb=>?_⟩<;>(try simp only [nrm] at hb)<;>(try (first|(exfalso;omega)|contradiction|exact kB hb)))|refine kE hwc [(390001,150001),(390003,150003)] rfl ?_|refine kF hwc [(390001,150001),(390003,150003)] rfl ?_|refine kE hsk [(1,150001),(3,150003)] rfl ?_|refine kF hsk [(1,150001),(3,150003)] rfl ?_|refine kE hwl [(1,150001),(3,150003)] rfl ?_|refine kF hwl [(1,150001),(3,150003)] rfl ?_|refine kA hrt ?_|refine kD hrt ?_|refine kA hso ?_|refine kD hso ?_|refine kA hal ?_|refine kD hal ?_|refine kW cfg_ok ?_|refine kC ?_|refine bdA ?_|refine bd2 ?_|refine bdR ?_|refine bdL ?_)<;>(conv=>whnf))|(refine And.intro ?_ ?_;rotate_left;(conv=>whnf);rotate_right))
         all_goals first|(simp;done)|(simp [withP];done)|(rw [List.drop_zero];refine take_all ?_;simp;done)|(rw [List.drop_zero];refine take_all ?_;simp;omega)
       | false =>
         rw [hT] at hsk
         by_cases h32' : 32 ≤ w.players.length
         · have hs : setW w p = (w,3):=by unfold setW;rw [if_neg (by rw [hR];simp),if_neg (by rw [hS,hI];simp),if_neg (by rw [hT];simp),if_pos h32']
           rw [hs]
           generalize lbK pid p.id w.players = at_ at *
           refine Api.of_fin cfg_ok Tryz.func24 rfl (nt:=60) rfl rfl ?_
           conv=>whnf
           repeat' (first|exact trivial|((first|refine kL ?_|(refine ⟨fun hb=>?_,fun hb=>?_⟩<;>(try simp only [nrm] at hb)<;>(try (first|(exfalso;omega)|contradiction|exact kB hb)))|refine kE hwc [(390001,150001),(390003,150003)] rfl ?_|refine kF hwc [(390001,150001),(390003,150003)] rfl ?_|refine kE hsk [(1,150001),(3,150003)] rfl ?_|refine kF hsk [(1,150001),(3,150003)] rfl ?_|refine kE hwl [(1,150001),(3,150003)] rfl ?_|refine kF hwl [(1,150001),(3,150003)] rfl ?_|refine kA hrt ?_|refine kD hrt ?_|refine kA hso ?_|refine kD hso ?_|refine kW cfg_ok ?_|refine kC ?_|refine bdA ?_|refine bd2 ?_|refine bdR ?_|refine bdL ?_)<;>(conv=>whnf))|(refine And.intro ?_ ?_;rotate_left;(conv=>whnf);rotate_right))
           all_goals first|(simp;done)|(simp [withP];done)|(rw [List.drop_zero];refine take_all ?_;simp;done)|(rw [List.drop_zero];refine take_all ?_;simp;omega)
         · have hs : setW w p = (withP w (w.players.take (lbK pid p.id w.players) ++ p :: w.players.drop (lbK pid p.id w.players)),0):=by unfold setW;rw [if_neg (by rw [hR];simp),if_neg (by rw [hS,hI];simp),if_neg (by rw [hT];simp),if_neg h32']
           rw [hs]
           generalize lbK pid p.id w.players = at_ at *
           refine Api.of_fin cfg_ok Tryz.func24 rfl (nt:=60) rfl rfl ?_
           conv=>whnf
           repeat' (first|exact trivial|((first|refine kL ?_|(refine ⟨fun hb=>?_,fun hb=>?_⟩<;>(try simp only [nrm] at hb)<;>(try (first|(exfalso;omega)|contradiction|exact kB hb)))|refine kE hwc [(390001,150001),(390003,150003)] rfl ?_|refine kF hwc [(390001,150001),(390003,150003)] rfl ?_|refine kE hsk [(1,150001),(3,150003)] rfl ?_|refine kF hsk [(1,150001),(3,150003)] rfl ?_|refine kE hwl [(1,150001),(3,150003)] rfl ?_|refine kF hwl [(1,150001),(3,150003)] rfl ?_|(refine isE 75 ?_;refine kE (insert_evnP w.players _ at_ p rfl hle (by omega)) [(1,150003),(3,117),(390001,150007)] rfl ?_)|(refine isD 75 ?_;refine kF (insert_evnP w.players _ at_ p rfl hle (by omega)) [(1,150003),(3,117),(390001,150007)] rfl ?_)|refine kA hrt ?_|refine kD hrt ?_|refine kA hso ?_|refine kD hso ?_|refine kA hal ?_|refine kD hal ?_|refine kW cfg_ok ?_|refine kC ?_|refine bdA ?_|refine bd2 ?_|refine bdR ?_|refine bdL ?_)<;>(conv=>whnf))|(refine And.intro ?_ ?_;rotate_left;(conv=>whnf);rotate_right))
           all_goals first|(simp;done)|(simp [withP];done)|(rw [List.drop_zero];refine take_all ?_;simp;done)|(rw [List.drop_zero];refine take_all ?_;simp;omega)
end Go.Proofs.YtaecchphjploaaaGreat
namespace Go.Proofs.YtaecchphjploaaaGreat
open Go Go.RowKit Eng
theorem wplayer_api (w : Wld) (id : Int) (hw : OkW w) : Api Tryz.prog 26 [wldV w,i64 id] (.tup [playerV (playerW w id).1,bol (playerW w id).2]):=by
 have hnp:=hw.np
 have hrt:=rightW_api w hw
 have hsk:=seek_api w id (by omega)
 cases hR : rightW w with
 | false =>
   rw [hR] at hrt
   have hs : playerW w id = (zeroP,false):=by unfold playerW;rw [if_pos hR]
   rw [hs]
   refine Api.of_fin cfg_ok Tryz.func26 rfl (nt:=25) rfl rfl ?_
   conv=>whnf
   repeat' (first|exact trivial|((first|refine kL ?_|(refine ⟨fun hb=>?_,fun hb=>?_⟩<;>(try simp only [nrm] at hb)<;>(try (first|(exfalso;omega)|contradiction|exact kB hb)))|refine kA hrt ?_|refine kD hrt ?_|refine kA hsk ?_|refine kD hsk ?_|refine kW cfg_ok ?_|refine kC ?_|refine bdA ?_|refine bd2 ?_|refine bdR ?_|refine bdL ?_)<;>(conv=>whnf))|(refine And.intro ?_ ?_;rotate_left;(conv=>whnf);rotate_right))
   all_goals first|rfl|trace_state
 | true =>
   rw [hR] at hrt
   obtain ⟨hri,_,_,_⟩:=rightW_players hR
   obtain ⟨e1,e2⟩:=bsP_rises hri id
   rw [e1,e2] at hsk
   cases hg : getK pid w.players id with
   | none =>
     rw [hg] at hsk
     have hs : playerW w id = (zeroP,false):=by unfold playerW;rw [if_neg (by rw [hR];simp),hg]
     rw [hs]
     refine Api.of_fin cfg_ok Tryz.func26 rfl (nt:=25) rfl rfl ?_
     conv=>whnf
     repeat' (first|exact trivial|((first|refine kL ?_|(refine ⟨fun hb=>?_,fun hb=>?_⟩<;>(try simp only [nrm] at hb)<;>(try (first|(exfalso;omega)|contradiction|exact kB hb)))|refine kA hrt ?_|refine kD hrt ?_|refine kA hsk ?_|refine kD hsk ?_|refine kW cfg_ok ?_|refine kC ?_|refine bdA ?_|refine bd2 ?_|refine bdR ?_|refine bdL ?_)<;>(conv=>whnf))|(refine And.intro ?_ ?_;rotate_left;(conv=>whnf);rotate_right))
     all_goals first|rfl|trace_state
   | some p =>
     rw [hg] at hsk
     have hs : playerW w id = (p,true):=by unfold playerW;rw [if_neg (by rw [hR];simp),hg]
     rw [hs]
     obtain ⟨h1,h2⟩:=lbK_lt hri hg
     have h3 : elt .player w.players (lbK pid id w.players) = p:=by
       have:=elt_get .player w.players _ h1
       rw [h2] at this
       exact (Option.some.inj this).symm
     have hal:=alone_api p (hw.players p (getK_mem hg).1)
     generalize lbK pid id w.players = at_ at *
     subst h3
     refine Api.of_fin cfg_ok Tryz.func26 rfl (nt:=25) rfl rfl ?_
     conv=>whnf
     repeat' (first|exact trivial|((first|refine kL ?_|(refine ⟨fun hb=>?_,fun hb=>?_⟩<;>(try simp only [nrm] at hb)<;>(try (first|(exfalso;omega)|contradiction|exact kB hb)))|refine kA hrt ?_|refine kD hrt ?_|refine kA hsk ?_|refine kD hsk ?_|refine kA hal ?_|refine kD hal ?_|refine kW cfg_ok ?_|refine kC ?_|refine bdA ?_|refine bd2 ?_|refine bdR ?_|refine bdL ?_)<;>(conv=>whnf))|(refine And.intro ?_ ?_;rotate_left;(conv=>whnf);rotate_right))
     all_goals first|omega|rfl|trace_state
end Go.Proofs.YtaecchphjploaaaGreat
namespace Go.Proofs.YtaecchphjploaaaGreat
open Go Go.RowKit Eng
theorem getB_of_mem {l : List Box} (h : rises l) {b : Box} (hb : b ∈ l) : getB l b.cell = some b.bag:=by
 induction l with
 | nil=>simp at hb
 | cons a r ih =>
   simp only [getB]
   rcases List.mem_cons.1 hb with rfl|hb
   · simp
   · have:=h.1 b hb
     rw [if_neg (by omega)];exact ih h.2 hb
end Go.Proofs.YtaecchphjploaaaGreat
namespace Go.Proofs.YtaecchphjploaaaGreat
open Go Go.RowKit Eng
theorem okP_sound {p : Player} (h : soundB p = true) : OkP p:=by
 obtain ⟨_,_,h3,h4,h5⟩:=sound_parts h
 refine ⟨bagOk_okSlot h4,?_,by omega,?_⟩
 · rcases h5 with ⟨_,h,_⟩|⟨_,_,_,_,h⟩
   · rw [h];simp
   · exact bagOk_okSlot h
 · rcases h5 with ⟨_,h,_⟩|⟨_,_,_,h,_⟩
   · rw [h];simp
   · omega
theorem okW_rw {w : Wld} (h : RW w) : OkW w:=
 ⟨fun c hc=>okC_right (h.chunks c hc).1,fun c hc=>fitC_right (h.chunks c hc).1,fun p hp=>okP_sound (h.players p hp).1,by have:=h.few;omega,by have:=h.size;omega⟩
end Go.Proofs.YtaecchphjploaaaGreat
namespace Go.Proofs.YtaecchphjploaaaGreat
open Go Go.RowKit Eng
theorem spec_blob {b : List Int} (hb : okU8 b) {most : Nat} (hm : most < 2 * 128 ^ 9) : Spec b (blobR b most) (fun l=>uintL l.length ++ l) (fun l=>l.length ≤ most):=by
 refine ⟨fun s h=>?_,fun s x r hs hx hd=>?_,fun s hp h=>?_⟩
 · unfold blobR
   rw [if_pos (by rw [numR_bad h];exact h)]
 · rw [List.append_assoc] at hd
   obtain ⟨h1,h2⟩:=numR_write hs hd hx hm
   have hl:=congrArg List.length h2
   rw [List.length_drop,List.length_append] at hl
   unfold blobR
   rw [h1]
   dsimp only
   rw [if_neg (by simp),if_neg (by omega),h2,List.take_left,List.length_append,Nat.add_assoc]
 · unfold blobR at h ⊢
   by_cases c1 : (numR b most s).2.bad = true
   · rw [if_pos c1] at h;cases h
   · rw [if_neg c1] at h ⊢
     by_cases c2 : b.length - (numR b most s).2.pos < (numR b most s).1
     · rw [if_pos c2] at h;cases h
     · rw [if_neg c2]
       obtain ⟨a1,a2,a3,a4,a5,a6⟩:=numR_read hb (n:=(numR b most s).1) (s':=(numR b most s).2) hp rfl (by simpa using c1)
       have hlen : ((b.drop (numR b most s).2.pos).take (numR b most s).1).length = (numR b most s).1:=by rw [List.length_take,List.length_drop];omega
       dsimp only
       rw [hlen]
       refine ⟨a1,?_,?_,by omega,a2⟩
       · rw [a4,List.append_assoc,← List.drop_drop,List.take_append_drop]
       · rw [List.length_append,hlen,a5,Nat.add_assoc]
end Go.Proofs.YtaecchphjploaaaGreat
namespace Go.Proofs.YtaecchphjploaaaGreat
open Go Go.RowKit Eng
theorem spec_chunkB {b : List Int} (hb : okU8 b) {most : Nat} (hm : most < 2 * 128 ^ 9) : Spec b (chunkBR b most) (fun c=>uintL (bytesC c).length ++ bytesC c) (fun c=>rightB c = true ∧ (bytesC c).length ≤ most ∧ readC (bytesC c) = (c,0)):=by
 have hbl:=spec_blob hb hm
 refine ⟨fun s h=>?_,fun s x r hs hx hd=>?_,fun s hp h=>?_⟩
 · unfold chunkBR
   rw [if_pos (.inl (hbl.stays s h))]
 · have h1:=hbl.write s (bytesC x) r hs hx.2.1 hd
   unfold chunkBR
   rw [h1]
   dsimp only
   rw [hx.2.2,if_neg (by simp)]
 · unfold chunkBR at h ⊢
   by_cases c1 : (blobR b most s).2.bad = true ∨ ¬ (readC (blobR b most s).1).2 = 0
   · rw [if_pos c1] at h;cases h
   · rw [if_neg c1] at h ⊢
     obtain ⟨a1,a2,a3,a4,a5⟩:=hbl.read s hp h
     have hz : (readC (blobR b most s).1).2 = 0:=Decidable.not_not.1 fun e=>c1 (.inr e)
     have h8 : okU8 (blobR b most s).1:=fun i hi=>by
       have : i ∈ b.drop s.pos:=by rw [a2];exact List.mem_append_left _ (List.mem_append_right _ hi)
       exact hb i (List.mem_of_mem_drop this)
     obtain ⟨e1,e2⟩:=bytes_readC h8 hz
     dsimp only
     rw [e1]
     refine ⟨a1,a2,a3,a4,e2,a5,?_⟩
     exact Prod.ext rfl hz
end Go.Proofs.YtaecchphjploaaaGreat
namespace Go.Proofs.YtaecchphjploaaaGreat
open Go Go.RowKit Eng
theorem numI_write {b : List Int} {s : Rd} {z : Int} {most : Nat} {r : List Int} (hs : s.bad = false) (hd : b.drop s.pos = uintL z.toNat ++ r) (hz : 0 ≤ z ∧ z ≤ most) (hm : most < 2 * 128 ^ 9) : numI b most s = (z,⟨s.pos + (uintL z.toNat).length,false⟩):=by
 obtain ⟨h1,_⟩:=numR_write hs hd (show z.toNat ≤ most by omega) hm
 unfold numI
 rw [h1]
 show (((z.toNat : Nat) : Int),_) = _
 rw [Int.toNat_of_nonneg hz.1]
theorem put_cons (z : Int) (l : List Int) : putY (z :: l) = uintL z.toNat ++ putY l:=rfl
end Go.Proofs.YtaecchphjploaaaGreat
namespace Go.Proofs.YtaecchphjploaaaGreat
open Go Go.RowKit Eng
theorem numI_stays {b : List Int} {most : Nat} {s : Rd} (h : s.bad = true) : (numI b most s).2.bad = true:=by rw [numI_bad h];exact h
end Go.Proofs.YtaecchphjploaaaGreat
namespace Go.Proofs.YtaecchphjploaaaGreat
open Go Go.RowKit Eng
theorem le40 {z : Int} (h : z ≤ 1099511627776) : z ≤ (B40 : Nat):=h
end Go.Proofs.YtaecchphjploaaaGreat
namespace Go.Proofs.YtaecchphjploaaaGreat
open Go Go.RowKit Eng
theorem u8_putB {l : List Int} (h : ∀ z ∈ l,z ≤ 1099511627777) : okU8 (putY l):=fun i hi=>by
 obtain ⟨z,hz,hi⟩:=List.mem_flatMap.1 hi
 exact u8_uintF 9 z.toNat (Nat.lt_of_le_of_lt (show z.toNat ≤ 1099511627777 by have:=h z hz;omega) (by decide)) i hi
end Go.Proofs.YtaecchphjploaaaGreat
namespace Go.Proofs.YtaecchphjploaaaGreat
open Go Go.RowKit Eng
theorem at_next {b e r : List Int} {s : Rd} (h : At b (e ++ r) s) : At b r ⟨s.pos + e.length,false⟩:=by
 refine ⟨rfl,?_,drop_app h.ahead⟩
 have h1:=congrArg List.length h.ahead
 rw [List.length_drop,List.length_append] at h1
 have:=h.le
 show s.pos + e.length ≤ b.length
 omega
theorem at_end {b : List Int} {s : Rd} (h : At b [] s) : s.bad = false ∧ s.pos = b.length:=by
 have h1:=congrArg List.length h.ahead
 rw [List.length_drop,List.length_nil] at h1
 have:=h.le
 exact ⟨h.good,by omega⟩
theorem numI_at {b r : List Int} {s : Rd} {z : Int} {most : Nat} (h : At b (uintL z.toNat ++ r) s) (hz : 0 ≤ z ∧ z ≤ most) (hm : most < 2 * 128 ^ 9) : (numI b most s).1 = z ∧ At b r (numI b most s).2:=by
 rw [numI_write h.good h.ahead hz hm]
 exact ⟨rfl,at_next h⟩
end Go.Proofs.YtaecchphjploaaaGreat
namespace Go.Proofs.YtaecchphjploaaaGreat
open Go Go.RowKit Eng
theorem all_write8 {b : List Int} (h8 : okU8 b) {l : List Slot} (hl : l.length = 8) (ho : bagGood l) {s : Rd} {r : List Int} (hs : s.bad = false) (hd : b.drop s.pos = l.flatMap slotL ++ r) : allR (slotR b) 8 s = (l,⟨s.pos + (l.flatMap slotL).length,false⟩):=by
 have h1:=many_write (spec_slot h8) l s r hs ho hd
 rw [hl] at h1
 have h2:=many_all (spec_slot h8) 8 s (by rw [h1])
 rw [h2,h1]
theorem all_read8 {b : List Int} (h8 : okU8 b) {s : Rd} (hp : s.pos ≤ b.length) (h : (allR (slotR b) 8 s).2.bad = false) : s.bad = false ∧ (allR (slotR b) 8 s).1.length = 8 ∧ b.drop s.pos = (allR (slotR b) 8 s).1.flatMap slotL ++ b.drop (allR (slotR b) 8 s).2.pos ∧ (allR (slotR b) 8 s).2.pos = s.pos + ((allR (slotR b) 8 s).1.flatMap slotL).length ∧ (allR (slotR b) 8 s).2.pos ≤ b.length ∧ bagGood (allR (slotR b) 8 s).1:=by
 have e:=all_many (spec_slot h8) 8 s h
 rw [e] at h ⊢
 exact many_read (spec_slot h8) 8 s hp h
end Go.Proofs.YtaecchphjploaaaGreat
namespace Go.Proofs.YtaecchphjploaaaGreat
open Go Go.RowKit Eng
theorem agI_dec {z : Int} (h : 0 ≤ z ∧ z ≤ (1 : Nat)) : agI (decide (z = 1)) = z:=by
 unfold agI
 by_cases h1 : z = 1
 · rw [if_pos (decide_eq_true h1)];exact h1.symm
 · rw [if_neg (by rw [decide_eq_true_eq];exact h1)];omega
theorem dec_agI (g : Bool) : decide (agI g = 1) = g:=by cases g<;>rfl
theorem off_stays {b : List Int} (h8 : okU8 b) {w : Int} {s : Rd} (h : s.bad = true) : (offR b w s).2.bad = true:=by
 unfold offR
 split
 · exact all_stays (spec_slot h8) 8 s h
 · exact h
theorem spec_player {b : List Int} (h8 : okU8 b) : Spec b (plR b) plY GoodP:=by
 have st : ∀ {most : Nat} {s : Rd},s.bad = true → (numI b most s).2.bad = true:=fun h=>numI_stays h
 refine ⟨fun s h=>off_stays h8 (st (st (all_stays (spec_slot h8) 8 _ (st (st (st h)))))),fun s p r hs hp hd=>?_,fun s hp h=>?_⟩
 · have q0 : b.drop s.pos = uintL p.id.toNat ++ (uintL p.x.toNat ++ (uintL p.y.toNat ++ (p.bag.flatMap slotL ++ (uintL (p.wth + 1).toNat ++ (uintL (agI p.agrees).toNat ++ (p.offer.flatMap slotL ++ r)))))):=by
     rw [hd]
     unfold plY
     simp only [put_cons,show putY [] = [] from rfl,List.append_nil,List.append_assoc]
   have hlen : s.pos + (plY p).length = s.pos + (uintL p.id.toNat).length + (uintL p.x.toNat).length + (uintL p.y.toNat).length + (p.bag.flatMap slotL).length + (uintL (p.wth + 1).toNat).length + (uintL (agI p.agrees).toNat).length + (p.offer.flatMap slotL).length:=by
     unfold plY
     simp only [put_cons,show putY [] = [] from rfl,List.append_nil,List.length_append]
     omega
   have w0:=hp.w
   have a1:=numI_write (most:=1073741824) hs q0 hp.id (by decide)
   have q1:=drop_app q0
   have a2:=numI_write (b:=b) (s:=⟨s.pos + (uintL p.id.toNat).length,false⟩) (most:=1000) rfl q1 hp.x (by decide)
   have q2:=drop_app q1
   have a3:=numI_write (b:=b) (s:=⟨s.pos + (uintL p.id.toNat).length + (uintL p.x.toNat).length,false⟩) (most:=1000) rfl q2 hp.y (by decide)
   have q3:=drop_app q2
   have a4:=all_write8 h8 (s:=⟨s.pos + (uintL p.id.toNat).length + (uintL p.x.toNat).length + (uintL p.y.toNat).length,false⟩) hp.bag hp.bagS rfl q3
   have q4:=drop_app q3
   have a5:=numI_write (b:=b) (s:=⟨s.pos + (uintL p.id.toNat).length + (uintL p.x.toNat).length + (uintL p.y.toNat).length + (p.bag.flatMap slotL).length,false⟩) (z:=p.wth + 1) (most:=1073741825) rfl q4 ⟨by omega,by show p.wth + 1 ≤ 1073741825;omega⟩ (by decide)
   have q5:=drop_app q4
   have a6:=numI_write (b:=b) (s:=⟨s.pos + (uintL p.id.toNat).length + (uintL p.x.toNat).length + (uintL p.y.toNat).length + (p.bag.flatMap slotL).length + (uintL (p.wth + 1).toNat).length,false⟩) (most:=1) rfl q5 (agI_bd _) (by decide)
   have q6:=drop_app q5
   have a7 : offR b (p.wth + 1) ⟨s.pos + (uintL p.id.toNat).length + (uintL p.x.toNat).length + (uintL p.y.toNat).length + (p.bag.flatMap slotL).length + (uintL (p.wth + 1).toNat).length + (uintL (agI p.agrees).toNat).length,false⟩ = (p.offer,⟨s.pos + (plY p).length,false⟩):=by
     unfold offR
     rw [hlen]
     rcases hp.off with ⟨o1,o2⟩|⟨o1,o2⟩
     · rw [if_neg (by omega),o2];rfl
     · rw [if_pos (by omega)]
       exact all_write8 h8 o2 hp.offS rfl q6
   unfold plR
   dsimp only
   rw [a1];dsimp only
   rw [a2];dsimp only
   rw [a3];dsimp only
   rw [a4];dsimp only
   rw [a5];dsimp only
   rw [a6];dsimp only
   rw [a7]
   dsimp only
   rw [dec_agI,show p.wth + 1 - 1 = p.wth by omega]
 · have hA : ∀ (f : Rd → Rd),(∀ s,s.bad = true → (f s).bad = true) → ∀ s,(f s).bad = false → s.bad = false:=fun f hf s h=>by
     cases hx : s.bad with
     | false=>rfl
     | true=>rw [hf s hx] at h;cases h
   have h7 : (numI b 1 (numI b 1073741825 (allR (slotR b) 8 (numI b 1000 (numI b 1000 (numI b 1073741824 s).2).2).2).2).2).2.bad = false:=hA (fun t=>(offR b (numI b 1073741825 (allR (slotR b) 8 (numI b 1000 (numI b 1000 (numI b 1073741824 s).2).2).2).2).1 t).2) (fun t ht=>off_stays h8 ht) _ h
   have n1:=spec_num h8 (most:=1) (by decide)
   have n2:=spec_num h8 (most:=1000) (by decide)
   have n3:=spec_num h8 (most:=1073741824) (by decide)
   have n4:=spec_num h8 (most:=1073741825) (by decide)
   have h6:=hA (fun t=>(numI b 1 t).2) (fun t ht=>n1.stays t ht) _ h7
   have h5:=hA (fun t=>(numI b 1073741825 t).2) (fun t ht=>n4.stays t ht) _ h6
   have h4:=hA (fun t=>(allR (slotR b) 8 t).2) (fun t ht=>all_stays (spec_slot h8) 8 t ht) _ h5
   have h3:=hA (fun t=>(numI b 1000 t).2) (fun t ht=>n2.stays t ht) _ h4
   have h2:=hA (fun t=>(numI b 1000 t).2) (fun t ht=>n2.stays t ht) _ h3
   obtain ⟨b0,c1,c2,c3,c4⟩:=n3.read s hp h2
   obtain ⟨_,d1,d2,d3,d4⟩:=n2.read _ c3 h3
   obtain ⟨_,e1,e2,e3,e4⟩:=n2.read _ d3 h4
   obtain ⟨_,f0,f1,f2,f3,f4⟩:=all_read8 h8 e3 h5
   obtain ⟨_,g1,g2,g3,g4⟩:=n4.read _ f3 h6
   obtain ⟨_,k1,k2,k3,k4⟩:=n1.read _ g3 h7
   have hoff : (plR b s).1.wth = (numI b 1073741825 (allR (slotR b) 8 (numI b 1000 (numI b 1000 (numI b 1073741824 s).2).2).2).2).1 - 1:=rfl
   have ho : b.drop (numI b 1 (numI b 1073741825 (allR (slotR b) 8 (numI b 1000 (numI b 1000 (numI b 1073741824 s).2).2).2).2).2).2.pos = (plR b s).1.offer.flatMap slotL ++ b.drop (plR b s).2.pos ∧ (plR b s).2.pos = (numI b 1 (numI b 1073741825 (allR (slotR b) 8 (numI b 1000 (numI b 1000 (numI b 1073741824 s).2).2).2).2).2).2.pos + ((plR b s).1.offer.flatMap slotL).length ∧ (plR b s).2.pos ≤ b.length ∧ (((plR b s).1.wth = -1 ∧ (plR b s).1.offer = []) ∨ (0 ≤ (plR b s).1.wth ∧ (plR b s).1.offer.length = 8)) ∧ bagGood (plR b s).1.offer:=by
     have eo : ((plR b s).1.offer,(plR b s).2) = offR b (numI b 1073741825 (allR (slotR b) 8 (numI b 1000 (numI b 1000 (numI b 1073741824 s).2).2).2).2).1 (numI b 1 (numI b 1073741825 (allR (slotR b) 8 (numI b 1000 (numI b 1000 (numI b 1073741824 s).2).2).2).2).2).2:=rfl
     rw [hoff]
     generalize (plR b s).1.offer = O at *
     generalize (plR b s).2 = S2 at *
     unfold offR at eo
     by_cases hw : 0 ≤ (numI b 1073741825 (allR (slotR b) 8 (numI b 1000 (numI b 1000 (numI b 1073741824 s).2).2).2).2).1 - 1
     · rw [if_pos hw] at eo
       have eo1:=congrArg Prod.fst eo
       have eo2:=congrArg Prod.snd eo
       dsimp only at eo1 eo2
       have hb2 : (allR (slotR b) 8 (numI b 1 (numI b 1073741825 (allR (slotR b) 8 (numI b 1000 (numI b 1000 (numI b 1073741824 s).2).2).2).2).2).2).2.bad = false:=by rw [← eo2];exact h
       obtain ⟨_,z0,z1,z2,z3,z4⟩:=all_read8 h8 k3 hb2
       rw [eo1,eo2]
       exact ⟨z1,z2,z3,.inr ⟨hw,z0⟩,z4⟩
     · rw [if_neg hw] at eo
       have eo1:=congrArg Prod.fst eo
       have eo2:=congrArg Prod.snd eo
       dsimp only at eo1 eo2
       rw [eo1,eo2]
       exact ⟨rfl,rfl,k3,.inl ⟨by omega,rfl⟩,fun x hx=>by cases hx⟩
   obtain ⟨o1,o2,o3,o4,o5⟩:=ho
   have hag : agI (plR b s).1.agrees = (numI b 1 (numI b 1073741825 (allR (slotR b) 8 (numI b 1000 (numI b 1000 (numI b 1073741824 s).2).2).2).2).2).1:=agI_dec k4
   have hw1 : (plR b s).1.wth + 1 = (numI b 1073741825 (allR (slotR b) 8 (numI b 1000 (numI b 1000 (numI b 1073741824 s).2).2).2).2).1:=by rw [hoff];omega
   have eY : plY (plR b s).1 = uintL (numI b 1073741824 s).1.toNat ++ (uintL (numI b 1000 (numI b 1073741824 s).2).1.toNat ++ (uintL (numI b 1000 (numI b 1000 (numI b 1073741824 s).2).2).1.toNat ++ ((allR (slotR b) 8 (numI b 1000 (numI b 1000 (numI b 1073741824 s).2).2).2).1.flatMap slotL ++ (uintL (numI b 1073741825 (allR (slotR b) 8 (numI b 1000 (numI b 1000 (numI b 1073741824 s).2).2).2).2).1.toNat ++ (uintL (numI b 1 (numI b 1073741825 (allR (slotR b) 8 (numI b 1000 (numI b 1000 (numI b 1073741824 s).2).2).2).2).2).1.toNat ++ (plR b s).1.offer.flatMap slotL))))):=by
     unfold plY
     rw [hw1,hag]
     simp only [put_cons,show putY [] = [] from rfl,List.append_nil,List.append_assoc]
     rfl
   rw [eY]
   refine ⟨b0,?_,?_,o3,⟨c4,d4,e4,f0,f4,?_,o4,o5⟩⟩
   · rw [c1,d1,e1,f1,g1,k1,o1]
     simp only [List.append_assoc]
   · simp only [List.length_append]
     omega
   · rw [hoff]
     have:=g4.1
     have:=g4.2
     exact ⟨by omega,by omega⟩
end Go.Proofs.YtaecchphjploaaaGreat
namespace Go.Proofs.YtaecchphjploaaaGreat
open Go Go.RowKit Eng
theorem u8_blobY {c : Chunk} (h : GoodC c) : okU8 (blobY c):=u8_app (u8_uintF 9 _ (Nat.lt_of_le_of_lt h.le.1 (by decide))) (u8_bytesC h.right h.cells h.items h.bags)
theorem u8_slots {l : List Slot} (h : bagGood l) : okU8 (l.flatMap slotL):=u8_flat fun s hs=>u8_putB (by have:=h s hs;simp;omega)
theorem u8_plY {p : Player} (h : GoodP p) : okU8 (plY p):=by
 have h1:=h.id;have h2:=h.x;have h3:=h.y;have h4:=h.w
 have h5:=agI_bd p.agrees
 unfold plY
 exact u8_app (u8_putB (by simp;omega)) (u8_app (u8_slots h.bagS) (u8_app (u8_putB (by simp;omega)) (u8_slots h.offS)))
end Go.Proofs.YtaecchphjploaaaGreat
namespace Go.Proofs.YtaecchphjploaaaGreat
open Go Go.RowKit Eng
theorem u8_bytesW {w : Wld} (h : GoodW w) : okU8 (bytesW w):=by
 obtain ⟨h1,h2,h3⟩:=h.sz
 have h4:=h.seed
 have h5:=h.right.few
 unfold bytesW
 refine u8_app (u8_app (u8_app (u8_app (u8_app (u8_putB (by simp;omega)) (u8_uintF 9 _ (by show w.seed.toNat < 18446744073709551616;omega))) (u8_putB (by simp;omega))) (u8_flat fun c hc=>u8_blobY (h.ch hc))) (u8_putB (by simp;omega))) (u8_flat fun p hp=>u8_plY (h.pl hp))
theorem readW_bytes {w : Wld} (h : GoodW w) : readW (bytesW w) = (w,0):=by
 obtain ⟨h1,h2,h3⟩:=h.sz
 have h4:=h.seed
 have h5:=h.right.few
 have h8:=u8_bytesW h
 have e0 : bytesW w = uintL w.size.toNat ++ (uintL w.seed.toNat ++ (uintL w.tick.toNat ++ (uintL (w.chunks.length : Int).toNat ++ (w.chunks.flatMap blobY ++ (uintL (w.players.length : Int).toNat ++ (w.players.flatMap plY ++ [])))))):=by
   unfold bytesW
   simp only [put_cons,show putY [] = [] from rfl,List.append_nil,List.append_assoc]
 generalize bytesW w = b at *
 have q0 : At b (uintL w.size.toNat ++ (uintL w.seed.toNat ++ (uintL w.tick.toNat ++ (uintL (w.chunks.length : Int).toNat ++ (w.chunks.flatMap blobY ++ (uintL (w.players.length : Int).toNat ++ (w.players.flatMap plY ++ []))))))) ⟨0,false⟩:=⟨rfl,Nat.zero_le _,(List.drop_zero (l:=b)).trans e0⟩
 obtain ⟨a1,q1⟩:=numI_at (most:=16) q0 (by omega) (by decide)
 obtain ⟨a2,q2⟩:=numI_at (most:=B64) q1 ⟨h4.1,h4.2⟩ (by decide)
 obtain ⟨a3,q3⟩:=numI_at (most:=B40) q2 ⟨h2.1,le40 h2.2⟩ (by decide)
 obtain ⟨a4,q4⟩:=numI_at (most:=256) q3 (by omega) (by decide)
 have c5:=many_write (spec_chunkB h8 (most:=5000) (by decide)) w.chunks (wrK b).nc.2 _ q4.good (fun c hc=>⟨(h.ch hc).right,(h.ch hc).le.1,(h.ch hc).read⟩) q4.ahead
 have e5 : (wrK b).cs = manyR (chunkBR b 5000) w.chunks.length (wrK b).nc.2:=by
   show manyR (chunkBR b 5000) (wrK b).nc.1.toNat (wrK b).nc.2 = _
   rw [show (wrK b).nc.1 = (w.chunks.length : Int) from a4,Int.toNat_natCast]
 rw [← e5] at c5
 have q5 : At b (uintL (w.players.length : Int).toNat ++ (w.players.flatMap plY ++ [])) (wrK b).cs.2:=by
   rw [c5];exact at_next (e:=w.chunks.flatMap blobY) q4
 obtain ⟨a6,q6⟩:=numI_at (most:=32) q5 (by omega) (by decide)
 have c7:=many_write (spec_player h8) w.players (wrK b).np.2 [] q6.good (fun p hp=>h.pl hp) q6.ahead
 have e7 : (wrK b).ps = manyR (plR b) w.players.length (wrK b).np.2:=by
   show manyR (plR b) (wrK b).np.1.toNat (wrK b).np.2 = _
   rw [show (wrK b).np.1 = (w.players.length : Int) from a6,Int.toNat_natCast]
 rw [← e7] at c7
 have q7:=at_end (at_next (e:=w.players.flatMap plY) q6)
 have hk : wldK b = w:=by
   unfold wldK
   rw [show (wrK b).sz.1 = w.size from a1,show (wrK b).sd.1 = w.seed from a2,show (wrK b).tk.1 = w.tick from a3,c5,c7]
 unfold readW
 rw [hk,if_neg]
 rw [c7]
 rintro (x|x|x)
 · cases x
 · exact x q7.2
 · rw [rightW_iff.2 h.right] at x;cases x
theorem bytes_readW {b : List Int} (h8 : okU8 b) (h : (readW b).2 = 0) : bytesW (readW b).1 = b ∧ rightW (readW b).1 = true ∧ (0 ≤ (readW b).1.seed ∧ (readW b).1.seed ≤ 18446744073709551615):=by
 unfold readW at h ⊢
 by_cases c : (wrK b).ps.2.bad = true ∨ ¬ (wrK b).ps.2.pos = b.length ∨ rightW (wldK b) = false
 · rw [if_pos c] at h;cases h
 · rw [if_neg c]
   dsimp only
   rw [not_or,not_or] at c
   obtain ⟨c1,c2,c3⟩:=c
   have c3 : rightW (wldK b) = true:=by simpa using c3
   have c2 : (wrK b).ps.2.pos = b.length:=Decidable.not_not.1 c2
   have hps : (wrK b).ps.2.bad = false:=by simpa using c1
   have hA : ∀ (f : Rd → Rd),(∀ s,s.bad = true → (f s).bad = true) → ∀ s,(f s).bad = false → s.bad = false:=fun f hf s h=>by
     cases hx : s.bad with
     | false=>rfl
     | true=>rw [hf s hx] at h;cases h
   have ms : ∀ {α : Type} {f : Rd → α × Rd} (n : Nat) (s : Rd),s.bad = true → (manyR f n s).2.bad = true:=fun n s hs=>by rw [many_stays n s hs];exact hs
   have hnp : (wrK b).np.2.bad = false:=hA (fun t=>(manyR (plR b) (wrK b).np.1.toNat t).2) (fun t ht=>ms _ t ht) _ hps
   have hcs : (wrK b).cs.2.bad = false:=hA (fun t=>(numI b 32 t).2) (fun t ht=>numI_stays ht) _ hnp
   have hnc : (wrK b).nc.2.bad = false:=hA (fun t=>(manyR (chunkBR b 5000) (wrK b).nc.1.toNat t).2) (fun t ht=>ms _ t ht) _ hcs
   have htk : (wrK b).tk.2.bad = false:=hA (fun t=>(numI b 256 t).2) (fun t ht=>numI_stays ht) _ hnc
   have hsd : (wrK b).sd.2.bad = false:=hA (fun t=>(numI b B40 t).2) (fun t ht=>numI_stays ht) _ htk
   have hsz : (wrK b).sz.2.bad = false:=hA (fun t=>(numI b B64 t).2) (fun t ht=>numI_stays ht) _ hsd
   obtain ⟨_,x1,x2,x3,x4⟩:=(spec_num h8 (most:=16) (by decide)).read ⟨0,false⟩ (Nat.zero_le _) hsz
   obtain ⟨_,y1,y2,y3,y4⟩:=(spec_num h8 (most:=B64) (by decide)).read (wrK b).sz.2 x3 hsd
   obtain ⟨_,z1,z2,z3,z4⟩:=(spec_num h8 (most:=B40) (by decide)).read (wrK b).sd.2 y3 htk
   obtain ⟨_,n1,n2,n3,n4⟩:=(spec_num h8 (most:=256) (by decide)).read (wrK b).tk.2 z3 hnc
   obtain ⟨_,m0,m1,m2,m3,m4⟩:=many_read (spec_chunkB h8 (most:=5000) (by decide)) (wrK b).nc.1.toNat (wrK b).nc.2 n3 hcs
   obtain ⟨_,p1,p2,p3,p4⟩:=(spec_num h8 (most:=32) (by decide)).read (wrK b).cs.2 m3 hnp
   obtain ⟨_,r0,r1,r2,r3,r4⟩:=many_read (spec_player h8) (wrK b).np.1.toNat (wrK b).np.2 p3 hps
   have hn : ((wrK b).cs.1.length : Int) = (wrK b).nc.1:=by
     have h9 : (wrK b).cs.1.length = (wrK b).nc.1.toNat:=m0
     have h7 : 0 ≤ (wrK b).nc.1:=n4.1
     omega
   have hm : ((wrK b).ps.1.length : Int) = (wrK b).np.1:=by
     have h9 : (wrK b).ps.1.length = (wrK b).np.1.toNat:=r0
     have h7 : 0 ≤ (wrK b).np.1:=p4.1
     omega
   refine ⟨?_,c3,y4⟩
   have z1' : b = uintL (wrK b).sz.1.toNat ++ b.drop (wrK b).sz.2.pos:=(List.drop_zero (l:=b)).symm.trans x1
   have z2' : b.drop (wrK b).sz.2.pos = uintL (wrK b).sd.1.toNat ++ b.drop (wrK b).sd.2.pos:=y1
   have z3' : b.drop (wrK b).sd.2.pos = uintL (wrK b).tk.1.toNat ++ b.drop (wrK b).tk.2.pos:=z1
   have z4' : b.drop (wrK b).tk.2.pos = uintL (wrK b).nc.1.toNat ++ b.drop (wrK b).nc.2.pos:=n1
   have z5' : b.drop (wrK b).nc.2.pos = (wrK b).cs.1.flatMap blobY ++ b.drop (wrK b).cs.2.pos:=m1
   have z6' : b.drop (wrK b).cs.2.pos = uintL (wrK b).np.1.toNat ++ b.drop (wrK b).np.2.pos:=p1
   have z7' : b.drop (wrK b).np.2.pos = (wrK b).ps.1.flatMap plY ++ b.drop (wrK b).ps.2.pos:=r1
   have z8' : b.drop (wrK b).ps.2.pos = []:=by rw [c2];exact List.drop_length
   rw [z8'] at z7'
   rw [z7'] at z6'
   rw [z6'] at z5'
   rw [z5'] at z4'
   rw [z4'] at z3'
   rw [z3'] at z2'
   have e0:=z1'.trans (congrArg _ z2')
   unfold bytesW wldK
   dsimp only
   rw [hn,hm]
   refine Eq.trans ?_ e0.symm
   simp only [put_cons,show putY [] = [] from rfl,List.append_nil,List.append_assoc]
end Go.Proofs.YtaecchphjploaaaGreat
namespace Go.Proofs.YtaecchphjploaaaGreat
open Go Go.RowKit Eng
theorem risesK_adj {α : Type} {key : α → Int} : ∀ {l : List α},(∀ i a b,l[i]? = some a → l[i + 1]? = some b → key a < key b) → risesK key l
 | [],_=>trivial
 | [a],_=>⟨by simp,trivial⟩
 | a :: b :: r,h=>by
   have ih:=risesK_adj (l:=b :: r) fun i x y hx hy=>h (i + 1) x y (by simpa using hx) (by simpa using hy)
   refine ⟨fun x hx=>?_,ih⟩
   have h0:=h 0 a b rfl rfl
   rcases List.mem_cons.1 hx with rfl|hx
   · exact h0
   · have:=ih.1 x hx;omega
theorem chunkW_get {w : Wld} (hR : RW w) {x y : Int} (h0 : 0 ≤ x) (h1 : x < w.size) (h2 : 0 ≤ y) (h3 : y < w.size) : chunkW w x y = ((getK keyC w.chunks (16 * y + x)).getD (genC w.seed x y),true):=by
 have hs:=hR.size
 obtain ⟨e1,e2⟩:=bsC_rises hR.rc hR.xy (x:=x) (y:=y) h0 (by omega)
 have hk : keyC (atC x y) = 16 * y + x:=rfl
 rw [hk] at e1 e2
 have hin : insideW w.size x y = true:=by simp only [insideW,Bool.and_eq_true,decide_eq_true_eq];omega
 unfold chunkW
 rw [if_neg (by rw [hin,rightW_iff.2 hR];simp)]
 rw [e2]
 cases hg : getK keyC w.chunks (16 * y + x) with
 | none=>rw [if_neg (by simp)];rfl
 | some c =>
   rw [if_pos (by simp),e1]
   obtain ⟨h4,h5⟩:=lbK_lt hR.rc hg
   have h6:=elt_get .chunk w.chunks _ h4
   rw [h5] at h6
   rw [← Option.some.inj h6];rfl
theorem chunkW_out {w : Wld} {x y : Int} (h : rightW w = false ∨ ¬ (0 ≤ x ∧ x < w.size ∧ 0 ≤ y ∧ y < w.size)) : chunkW w x y = (atC 0 0,false):=by
 unfold chunkW
 rw [if_pos]
 rcases h with h|h
 · exact .inr h
 · left
   simp only [insideW,Bool.and_eq_false_iff,decide_eq_false_iff_not]
   omega
structure SeenC (w : Wld) (k : Nat) : Prop where
 le : k ≤ w.chunks.length
 right : ∀ i < k,rightB (elt .chunk w.chunks i) = true ∧ (elt .chunk w.chunks i).x < w.size ∧ (elt .chunk w.chunks i).y < w.size
 up : ∀ i,i + 1 < k → keyC (elt .chunk w.chunks i) < keyC (elt .chunk w.chunks (i + 1))
structure SeenP (w : Wld) (k : Nat) : Prop where
 le : k ≤ w.players.length
 right : ∀ i < k,soundB (elt .player w.players i) = true ∧ withinW w.size (elt .player w.players i).x (elt .player w.players i).y = true
 up : ∀ i,i + 1 < k → (elt .player w.players i).id < (elt .player w.players (i + 1)).id
theorem SeenC.rises {w : Wld} (h : SeenC w w.chunks.length) : risesK keyC w.chunks:=risesK_adj fun i a b ha hb=>by
 have hlt:=(List.getElem?_eq_some_iff.1 hb).1
 have e1:=elt_get .chunk w.chunks i (by omega)
 have e2:=elt_get .chunk w.chunks (i + 1) hlt
 rw [ha] at e1
 rw [hb] at e2
 have:=h.up i hlt
 rw [← Option.some.inj e1,← Option.some.inj e2] at this
 exact this
theorem SeenP.rises {w : Wld} (h : SeenP w w.players.length) : risesK pid w.players:=risesK_adj fun i a b ha hb=>by
 have hlt:=(List.getElem?_eq_some_iff.1 hb).1
 have e1:=elt_get .player w.players i (by omega)
 have e2:=elt_get .player w.players (i + 1) hlt
 rw [ha] at e1
 rw [hb] at e2
 have:=h.up i hlt
 rw [← Option.some.inj e1,← Option.some.inj e2] at this
 exact this
open Go Go.RowKit Eng
def sumF {α : Type} (f : α → Int) : List α → Int
 | []=>0
 | a :: r=>f a + sumF f r
def bc (i : Int) (b : Box) : Int:=countS b.bag i
def cc (i : Int) (c : Chunk) : Int:=countS (c.heaps.map (·.slot)) i + sumF (bc i) c.boxes
theorem plain_eq {seed : Int} {k : Chunk} (hk : rightB k = true) (h : plainW seed k = true) : k = genC seed k.x k.y:=by
 unfold plainW eqI at h
 rw [Bool.and_eq_true,decide_eq_true_eq,decide_eq_true_eq] at h
 have hh : k.heaps = []:=List.length_eq_zero_iff.1 (by omega)
 have hb : k.boxes = []:=by
   refine List.eq_nil_iff_forall_not_mem.2 fun b hb=>?_
   have hf:=right_fits hk
   have h1:=hf.bags b hb
   have hl:=right_len hk
   have h2:=(hf.chest b.cell.toNat (by omega)).2 (by
     rw [show ((0 : Nat) : Int) + (b.cell.toNat : Nat) = b.cell by omega,getB_of_mem hf.up hb];rfl)
   rw [h.2,List.getD_eq_getElem?_getD] at h2
   have hlt : b.cell.toNat < (gl seed k.x k.y 64).length:=by rw [gl_len];omega
   rw [List.getElem?_eq_getElem hlt] at h2
   have hm : (gl seed k.x k.y 64)[b.cell.toNat] ∈ gl seed k.x k.y 64:=List.getElem_mem hlt
   unfold gl at hm
   rw [List.mem_map] at hm
   obtain ⟨j,_,hj⟩:=hm
   have h3:=(cellI_ok seed (k.x * 8 + (j % 8 : Nat)) (k.y * 8 + (j / 8 : Nat))).2
   rw [hj] at h3
   exact h3 h2
 obtain ⟨x,y,cs,hs,bs⟩:=k
 dsimp only at hh hb h
 rw [hh,hb,h.2]
 rfl
open Go Go.RowKit Eng
theorem put_told {w : Wld} {c : Chunk} (h : (putW w c).2 = 0) (x y : Int) : rightW (putW w c).1 = true ∧ chunkW (putW w c).1 c.x c.y = (c,true) ∧ ((chunkW w x y).2 = true → (¬ x = c.x ∨ ¬ y = c.y) → (chunkW (putW w c).1 x y).1 = (chunkW w x y).1):=by
 obtain ⟨hR,hB,hM,hE⟩:=put_good h
 rw [hE]
 have hU:=rw_put hR hB hM
 have hs:=hR.size
 have hp:=rightB_pos hB
 have hc : chunkW (withCs w (putL w.seed w.chunks c)) c.x c.y = (c,true):=by
   rw [chunkW_get hU (by omega) (by show c.x < w.size;omega) (by omega) (by show c.y < w.size;omega)]
   show ((getK keyC (putL w.seed w.chunks c) (keyC c)).getD (genC w.seed c.x c.y),true) = _
   rw [getK_putL hR.rc,if_pos rfl]
   by_cases hpl : plainW w.seed c = true
   · rw [if_pos hpl]
     show (genC w.seed c.x c.y,true) = _
     rw [← plain_eq hB hpl]
   · rw [if_neg hpl];rfl
 refine ⟨rightW_iff.2 hU,hc,fun h1 h2=>?_⟩
 by_cases hin : 0 ≤ x ∧ x < w.size ∧ 0 ≤ y ∧ y < w.size
 · rw [chunkW_get hU hin.1 (by show x < w.size;omega) hin.2.2.1 (by show y < w.size;omega),chunkW_get hR hin.1 hin.2.1 hin.2.2.1 hin.2.2.2]
   show (getK keyC (putL w.seed w.chunks c) (16 * y + x)).getD (genC w.seed x y) = _
   rw [getK_putL hR.rc,if_neg]
   intro he
   have he : 16 * y + x = 16 * c.y + c.x:=he
   omega
 · rw [chunkW_out (.inr hin)] at h1;cases h1
theorem set_told {w : Wld} {p : Player} (h : (setW w p).2 = 0) : rightW (setW w p).1 = true ∧ playerW (setW w p).1 p.id = (p,true) ∧ w.players.length ≤ (setW w p).1.players.length:=by
 obtain ⟨hO,hE⟩:=set_good h
 rw [hE]
 have hU:=rw_set hO
 have hr:=rightW_iff.2 hU
 have hR : RW w:=hO.1
 refine ⟨hr,?_,?_⟩
 · unfold playerW
   rw [if_neg (by rw [hr];simp)]
   show (match getK pid (setL w.players p) p.id with|some p=>(p,true)|none=>(zeroP,false)) = _
   rw [getK_setL hR.rp,if_pos rfl]
 · show w.players.length ≤ (setL w.players p).length
   rw [setL_length hR.rp]
   split<;>omega
theorem put_no {w : Wld} {c : Chunk} (h : ¬ (putW w c).2 = 0) : (putW w c).1 = w:=by
 rcases put_err w c with h1|h1
 · exact absurd h1.2.2.2 h
 · exact h1.1
theorem set_no {w : Wld} {p : Player} (h : ¬ (setW w p).2 = 0) : (setW w p).1 = w:=by
 rcases set_err w p with h1|h1
 · exact absurd h1.2 h
 · exact h1.1
theorem bytesW_le {w : Wld} (h : GoodW w) : (bytesW w).length ≤ 1000000000000:=by
 obtain ⟨z1,z2,z3⟩:=h.sz
 have z4:=h.right.few
 have h1:=putY_len [w.size]
 have h2:=putY_len [w.tick,(w.chunks.length : Int)]
 have h3:=putY_len [(w.players.length : Int)]
 have h4 : (uintL w.seed.toNat).length ≤ 10:=uintF_len 9 _
 have h5:=flatMap_len blobY 5010 w.chunks (fun c hc=>blobY_le (h.ch hc))
 have h6:=flatMap_len plY 400 w.players (fun p hp=>plY_le (h.pl hp))
 simp only [List.length_cons,List.length_nil] at h1 h2 h3
 unfold bytesW
 simp only [List.length_append]
 omega
theorem chunk_okC {w : Wld} (hR : RW w) {x y : Int} (h : (chunkW w x y).2 = true) : OkC (chunkW w x y).1:=by
 by_cases hin : 0 ≤ x ∧ x < w.size ∧ 0 ≤ y ∧ y < w.size
 · exact okC_right (chunk_right hR ⟨hin.1,hin.2.1⟩ ⟨hin.2.2.1,hin.2.2.2⟩)
 · rw [chunkW_out (.inr hin)] at h;cases h
theorem okW_right {w : Wld} (h : rightW w = true) : OkW w:=okW_rw (rightW_iff.1 h)
open Go Go.RowKit Eng
abbrev caseV (X Y : Int) (c : Chunk) (p : Player) (b : List (El .u8)) : AV:=.agg [i64 X,i64 Y,i64 c.x,i64 c.y,.vec .u8 c.cells,.vec .heap c.heaps,.vec .box c.boxes,i64 p.id,i64 p.x,i64 p.y,.vec .slot p.bag,i64 p.wth,.vec .slot p.offer,bol p.agrees,.vec .u8 b]
theorem wbackNo_api (w : Wld) (X Y : Int) (c : Chunk) (p : Player) (b : List (El .u8)) (hw : OkW w) (hc : OkC c) (hg : greatW w = true ∨ greatB c = true ∨ 300 < p.bag.length ∨ 300 < p.offer.length ∨ 20000 < b.length) : Api Tryz.prog 4 [wldV w,caseV X Y c p b] (bol true):=by
 have haw:=awake13_api
 have hgr:=greatW_api w hw
 have hgc:=great_api c hc
 generalize greatW w = g1 at *
 generalize greatB c = g2 at *
 cases g1
 · cases g2
   · have hg : 300 < p.bag.length ∨ 300 < p.offer.length ∨ 20000 < b.length:=by simpa using hg
     refine Api.of_fin cfg_ok Tryz.func4 rfl (nt:=237) rfl rfl ?_
     ((repeat (first|(with_reducible refine evCut fun N hN hE hT=>?_)|(with_reducible refine evBlk fun N hN hE hT=>?_)));(try with_reducible refine evCnd fun X Y hX hY=>?_);(conv=>whnf))
     repeat' (first|exact trivial|((first|((first|refine hT _ _ ?_|refine hE _ _ _ ?_|refine hN _ _ ?_);clear hN hE hT)|((first|refine hX ?_|refine hY ?_);clear hX hY)|refine kL ?_|(refine ⟨fun hb=>?_,fun hb=>?_⟩<;>(try simp only [nrm] at hb)<;>(try (first|(exfalso;omega)|contradiction|exact kB hb)))|refine kA hgr ?_|refine kD hgr ?_|refine kA hgc ?_|refine kD hgc ?_|refine kA haw ?_|refine kD haw ?_|refine kW cfg_ok ?_|refine kC ?_|refine bdA ?_|refine bd2 ?_|refine bdR ?_|refine bdL ?_)<;>((repeat (first|(with_reducible refine evCut fun N hN hE hT=>?_)|(with_reducible refine evBlk fun N hN hE hT=>?_)));(try with_reducible refine evCnd fun X Y hX hY=>?_);(conv=>whnf)))|(refine And.intro ?_ ?_;rotate_left;(conv=>whnf);rotate_right))
   · clear hg
     refine Api.of_fin cfg_ok Tryz.func4 rfl (nt:=237) rfl rfl ?_
     ((repeat (first|(with_reducible refine evCut fun N hN hE hT=>?_)|(with_reducible refine evBlk fun N hN hE hT=>?_)));(try with_reducible refine evCnd fun X Y hX hY=>?_);(conv=>whnf))
     repeat' (first|exact trivial|((first|((first|refine hT _ _ ?_|refine hE _ _ _ ?_|refine hN _ _ ?_);clear hN hE hT)|((first|refine hX ?_|refine hY ?_);clear hX hY)|refine kL ?_|(refine ⟨fun hb=>?_,fun hb=>?_⟩<;>(try simp only [nrm] at hb)<;>(try (first|(exfalso;omega)|contradiction|exact kB hb)))|refine kA hgr ?_|refine kD hgr ?_|refine kA hgc ?_|refine kD hgc ?_|refine kA haw ?_|refine kD haw ?_|refine kW cfg_ok ?_|refine kC ?_|refine bdA ?_|refine bd2 ?_|refine bdR ?_|refine bdL ?_)<;>((repeat (first|(with_reducible refine evCut fun N hN hE hT=>?_)|(with_reducible refine evBlk fun N hN hE hT=>?_)));(try with_reducible refine evCnd fun X Y hX hY=>?_);(conv=>whnf)))|(refine And.intro ?_ ?_;rotate_left;(conv=>whnf);rotate_right))
 · clear hg
   refine Api.of_fin cfg_ok Tryz.func4 rfl (nt:=237) rfl rfl ?_
   ((repeat (first|(with_reducible refine evCut fun N hN hE hT=>?_)|(with_reducible refine evBlk fun N hN hE hT=>?_)));(try with_reducible refine evCnd fun X Y hX hY=>?_);(conv=>whnf))
   repeat' (first|exact trivial|((first|((first|refine hT _ _ ?_|refine hE _ _ _ ?_|refine hN _ _ ?_);clear hN hE hT)|((first|refine hX ?_|refine hY ?_);clear hX hY)|refine kL ?_|(refine ⟨fun hb=>?_,fun hb=>?_⟩<;>(try simp only [nrm] at hb)<;>(try (first|(exfalso;omega)|contradiction|exact kB hb)))|refine kA hgr ?_|refine kD hgr ?_|refine kA hgc ?_|refine kD hgc ?_|refine kA haw ?_|refine kD haw ?_|refine kW cfg_ok ?_|refine kC ?_|refine bdA ?_|refine bd2 ?_|refine bdR ?_|refine bdL ?_)<;>((repeat (first|(with_reducible refine evCut fun N hN hE hT=>?_)|(with_reducible refine evBlk fun N hN hE hT=>?_)));(try with_reducible refine evCnd fun X Y hX hY=>?_);(conv=>whnf)))|(refine And.intro ?_ ?_;rotate_left;(conv=>whnf);rotate_right))
theorem wbackR_api (w : Wld) (X Y : Int) (c : Chunk) (p : Player) (b : List (El .u8)) (hw : OkW w) (hs : 0 ≤ w.seed ∧ w.seed ≤ 18446744073709551615) (hc : OkC c) (fc : FitC c) (hp : OkP p) (h8 : okU8 b) (hl : b.length ≤ 20000) (hg1 : greatW w = false) (hg2 : greatB c = false) (hb1 : p.bag.length ≤ 300) (hb2 : p.offer.length ≤ 300) (h0 : (readW b).2 = 0) : Api Tryz.prog 4 [wldV w,caseV X Y c p b] (bol true):=by
 have haw:=awake13_api
 have hgr:=greatW_api w hw
 have hgc:=great_api c hc
 rw [hg1] at hgr
 rw [hg2] at hgc
 have q1:=wread_api b h8 (by omega) _ rfl
 obtain ⟨r1,r2,r3⟩:=bytes_readW h8 h0
 have q2:=wbytes_api (readW b).1 (okW_right r2) r3
 rw [show bytesWE (readW b).1 = (b,0) by unfold bytesWE;rw [r2,r1];rfl] at q2
 have q3:=equal_api b b h8 h8
 rw [show eqL b b = true from decide_eq_true rfl] at q3
 clear r1 r2 r3
 generalize readW b = R at *
 obtain ⟨RW0,Re⟩:=R
 dsimp only at *
 subst h0
 have q4:=wbytes_api w hw hs
 have q5:=rightW_api w hw
 cases hr : rightW w with
 | false =>
   rw [show bytesWE w = ([],113) by unfold bytesWE;rw [hr];rfl] at q4
   rw [hr] at q5
   clear hg1 hg2 hw hs hc fc hp h8 hr
   refine Api.of_fin cfg_ok Tryz.func4 rfl (nt:=237) rfl rfl ?_
   ((repeat (first|(with_reducible refine evCut fun N hN hE hT=>?_)|(with_reducible refine evBlk fun N hN hE hT=>?_)));(try with_reducible refine evCnd fun X Y hX hY=>?_);(conv=>whnf))
   repeat' (first|exact trivial|((first|((first|refine hT _ _ ?_|refine hE _ _ _ ?_|refine hN _ _ ?_);clear hN hE hT)|((first|refine hX ?_|refine hY ?_);clear hX hY)|refine kL ?_|(refine ⟨fun hb=>?_,fun hb=>?_⟩<;>(try simp only [nrm] at hb)<;>(try (first|(exfalso;omega)|contradiction|exact kB hb)))|refine kA hgr ?_|refine kD hgr ?_|refine kA hgc ?_|refine kD hgc ?_|refine kA q1 ?_|refine kD q1 ?_|refine kA q2 ?_|refine kD q2 ?_|refine kA q3 ?_|refine kD q3 ?_|refine kA q4 ?_|refine kD q4 ?_|refine kA q5 ?_|refine kD q5 ?_|refine kA haw ?_|refine kD haw ?_|refine kW cfg_ok ?_|refine kC ?_|refine bdA ?_|refine bd2 ?_|refine bdR ?_|refine bdL ?_)<;>((repeat (first|(with_reducible refine evCut fun N hN hE hT=>?_)|(with_reducible refine evBlk fun N hN hE hT=>?_)));(try with_reducible refine evCnd fun X Y hX hY=>?_);(conv=>whnf)))|(refine And.intro ?_ ?_;rotate_left;(conv=>whnf);rotate_right))
 | true =>
 have hG : GoodW w:=⟨rightW_iff.1 hr,hs⟩
 rw [show bytesWE w = (bytesW w,0) by unfold bytesWE;rw [hr];rfl] at q4
 have q6:=wread_api (bytesW w) (u8_bytesW hG) (bytesW_le hG) _ rfl
 rw [readW_bytes hG] at q6
 have q7:=sameW_api w w hw
 rw [eqv_self] at q7
 have q8:=wchunk_api w X Y hw
 have q9:=worldPut_api w c hw hc fc
 have q16:=set_world w p hw hp
 have hC0 : (chunkW w X Y).2 = true → OkC (chunkW w X Y).1:=fun h=>chunk_okC hG.right h
 generalize bytesW w = B at *
 by_cases c1 : (putW w c).2 = 0
 · obtain ⟨u1,u2,u3⟩:=put_told c1 X Y
   have hU:=okW_right u1
   have q10:=wchunk_api (putW w c).1 c.x c.y hU
   rw [u2] at q10
   have q11:=same_api c c hc
   rw [eqv_self] at q11
   have q12:=rightW_api (putW w c).1 hU
   rw [u1] at q12
   have q13:=wchunk_api (putW w c).1 X Y hU
   have q14 : (chunkW w X Y).2 = true → Api Tryz.prog 21 [chunkV (chunkW w X Y).1,chunkV (chunkW (putW w c).1 X Y).1] (bol (eqv (chunkW w X Y).1 (chunkW (putW w c).1 X Y).1)):=fun h=>same_api _ _ (hC0 h)
   have q15 : (chunkW w X Y).2 = true → (¬ X = c.x ∨ ¬ Y = c.y) → eqv (chunkW w X Y).1 (chunkW (putW w c).1 X Y).1 = true:=fun h h2=>eqv_iff.2 (u3 h h2).symm
   clear u1 u2 u3 hU hC0
   generalize chunkW (putW w c).1 X Y = C1 at *
   generalize chunkW w X Y = C0 at *
   generalize putW w c = U at *
   obtain ⟨C0,t0⟩:=C0
   obtain ⟨C1,t1⟩:=C1
   obtain ⟨U,e⟩:=U
   dsimp only at *
   subst c1
   by_cases c2 : (setW w p).2 = 0
   · obtain ⟨v1,v2,v3⟩:=set_told c2
     have hV:=okW_right v1
     have q17:=wplayer_api (setW w p).1 p.id hV
     rw [v2] at q17
     have q18:=sameP_api p p hp
     rw [eqv_self] at q18
     have q19:=rightW_api (setW w p).1 hV
     rw [v1] at q19
     clear v1 v2 hV
     generalize setW w p = V at *
     obtain ⟨V,f⟩:=V
     dsimp only at *
     subst c2
     cases t0 with
     | false =>
       clear q14 q15 hG hg1 hg2 hw hs hc fc hp h8 hr
       refine Api.of_fin cfg_ok Tryz.func4 rfl (nt:=237) rfl rfl ?_
       ((repeat (first|(with_reducible refine evCut fun N hN hE hT=>?_)|(with_reducible refine evBlk fun N hN hE hT=>?_)));(try with_reducible refine evCnd fun X Y hX hY=>?_);(conv=>whnf))
       repeat' (first|exact trivial|((first|((first|refine hT _ _ ?_|refine hE _ _ _ ?_|refine hN _ _ ?_);clear hN hE hT)|((first|refine hX ?_|refine hY ?_);clear hX hY)|refine kL ?_|(refine ⟨fun hb=>?_,fun hb=>?_⟩<;>(try simp only [nrm] at hb)<;>(try (first|(exfalso;omega)|contradiction|exact kB hb)))|refine kA hgr ?_|refine kD hgr ?_|refine kA hgc ?_|refine kD hgc ?_|refine kA q1 ?_|refine kD q1 ?_|refine kA q2 ?_|refine kD q2 ?_|refine kA q3 ?_|refine kD q3 ?_|refine kA q4 ?_|refine kD q4 ?_|refine kA q6 ?_|refine kD q6 ?_|refine kA q7 ?_|refine kD q7 ?_|refine kA q8 ?_|refine kD q8 ?_|refine kA q9 ?_|refine kD q9 ?_|refine kA q10 ?_|refine kD q10 ?_|refine kA q11 ?_|refine kD q11 ?_|refine kA q12 ?_|refine kD q12 ?_|refine kA q13 ?_|refine kD q13 ?_|refine kA q16 ?_|refine kD q16 ?_|refine kA q17 ?_|refine kD q17 ?_|refine kA q18 ?_|refine kD q18 ?_|refine kA q19 ?_|refine kD q19 ?_|refine kA haw ?_|refine kD haw ?_|refine kW cfg_ok ?_|refine kC ?_|refine bdA ?_|refine bd2 ?_|refine bdR ?_|refine bdL ?_)<;>((repeat (first|(with_reducible refine evCut fun N hN hE hT=>?_)|(with_reducible refine evBlk fun N hN hE hT=>?_)));(try with_reducible refine evCnd fun X Y hX hY=>?_);(conv=>whnf)))|(refine And.intro ?_ ?_;rotate_left;(conv=>whnf);rotate_right))
     | true =>
       have q14:=q14 rfl
       have q15:=q15 rfl
       clear hG hg1 hg2 hw hs hc fc hp h8 hr
       by_cases c3 : X = c.x ∧ Y = c.y
       · obtain ⟨d1,d2⟩:=c3
         clear q15
         refine Api.of_fin cfg_ok Tryz.func4 rfl (nt:=237) rfl rfl ?_
         ((repeat (first|(with_reducible refine evCut fun N hN hE hT=>?_)|(with_reducible refine evBlk fun N hN hE hT=>?_)));(try with_reducible refine evCnd fun X Y hX hY=>?_);(conv=>whnf))
         repeat' (first|exact trivial|((first|((first|refine hT _ _ ?_|refine hE _ _ _ ?_|refine hN _ _ ?_);clear hN hE hT)|((first|refine hX ?_|refine hY ?_);clear hX hY)|refine kL ?_|(refine ⟨fun hb=>?_,fun hb=>?_⟩<;>(try simp only [nrm] at hb)<;>(try (first|(exfalso;omega)|contradiction|exact kB hb)))|refine kA hgr ?_|refine kD hgr ?_|refine kA hgc ?_|refine kD hgc ?_|refine kA q1 ?_|refine kD q1 ?_|refine kA q2 ?_|refine kD q2 ?_|refine kA q3 ?_|refine kD q3 ?_|refine kA q4 ?_|refine kD q4 ?_|refine kA q6 ?_|refine kD q6 ?_|refine kA q7 ?_|refine kD q7 ?_|refine kA q8 ?_|refine kD q8 ?_|refine kA q9 ?_|refine kD q9 ?_|refine kA q10 ?_|refine kD q10 ?_|refine kA q11 ?_|refine kD q11 ?_|refine kA q12 ?_|refine kD q12 ?_|refine kA q13 ?_|refine kD q13 ?_|refine kA q16 ?_|refine kD q16 ?_|refine kA q17 ?_|refine kD q17 ?_|refine kA q18 ?_|refine kD q18 ?_|refine kA q19 ?_|refine kD q19 ?_|refine kA haw ?_|refine kD haw ?_|refine kW cfg_ok ?_|refine kC ?_|refine bdA ?_|refine bd2 ?_|refine bdR ?_|refine bdL ?_)<;>((repeat (first|(with_reducible refine evCut fun N hN hE hT=>?_)|(with_reducible refine evBlk fun N hN hE hT=>?_)));(try with_reducible refine evCnd fun X Y hX hY=>?_);(conv=>whnf)))|(refine And.intro ?_ ?_;rotate_left;(conv=>whnf);rotate_right))
       · rw [q15 (by omega)] at q14
         clear q15
         refine Api.of_fin cfg_ok Tryz.func4 rfl (nt:=237) rfl rfl ?_
         ((repeat (first|(with_reducible refine evCut fun N hN hE hT=>?_)|(with_reducible refine evBlk fun N hN hE hT=>?_)));(try with_reducible refine evCnd fun X Y hX hY=>?_);(conv=>whnf))
         repeat' (first|exact trivial|((first|((first|refine hT _ _ ?_|refine hE _ _ _ ?_|refine hN _ _ ?_);clear hN hE hT)|((first|refine hX ?_|refine hY ?_);clear hX hY)|refine kL ?_|(refine ⟨fun hb=>?_,fun hb=>?_⟩<;>(try simp only [nrm] at hb)<;>(try (first|(exfalso;omega)|contradiction|exact kB hb)))|refine kA hgr ?_|refine kD hgr ?_|refine kA hgc ?_|refine kD hgc ?_|refine kA q1 ?_|refine kD q1 ?_|refine kA q2 ?_|refine kD q2 ?_|refine kA q3 ?_|refine kD q3 ?_|refine kA q4 ?_|refine kD q4 ?_|refine kA q6 ?_|refine kD q6 ?_|refine kA q7 ?_|refine kD q7 ?_|refine kA q8 ?_|refine kD q8 ?_|refine kA q9 ?_|refine kD q9 ?_|refine kA q10 ?_|refine kD q10 ?_|refine kA q11 ?_|refine kD q11 ?_|refine kA q12 ?_|refine kD q12 ?_|refine kA q13 ?_|refine kD q13 ?_|refine kA q14 ?_|refine kD q14 ?_|refine kA q16 ?_|refine kD q16 ?_|refine kA q17 ?_|refine kD q17 ?_|refine kA q18 ?_|refine kD q18 ?_|refine kA q19 ?_|refine kD q19 ?_|refine kA haw ?_|refine kD haw ?_|refine kW cfg_ok ?_|refine kC ?_|refine bdA ?_|refine bd2 ?_|refine bdR ?_|refine bdL ?_)<;>((repeat (first|(with_reducible refine evCut fun N hN hE hT=>?_)|(with_reducible refine evBlk fun N hN hE hT=>?_)));(try with_reducible refine evCnd fun X Y hX hY=>?_);(conv=>whnf)))|(refine And.intro ?_ ?_;rotate_left;(conv=>whnf);rotate_right))
   · have v1:=set_no c2
     generalize setW w p = V at *
     obtain ⟨V,f⟩:=V
     dsimp only at *
     subst v1
     cases t0 with
     | false =>
       clear q14 q15 hG hg1 hg2 hw hs hc fc hp h8 hr
       refine Api.of_fin cfg_ok Tryz.func4 rfl (nt:=237) rfl rfl ?_
       ((repeat (first|(with_reducible refine evCut fun N hN hE hT=>?_)|(with_reducible refine evBlk fun N hN hE hT=>?_)));(try with_reducible refine evCnd fun X Y hX hY=>?_);(conv=>whnf))
       repeat' (first|exact trivial|((first|((first|refine hT _ _ ?_|refine hE _ _ _ ?_|refine hN _ _ ?_);clear hN hE hT)|((first|refine hX ?_|refine hY ?_);clear hX hY)|refine kL ?_|(refine ⟨fun hb=>?_,fun hb=>?_⟩<;>(try simp only [nrm] at hb)<;>(try (first|(exfalso;omega)|contradiction|exact kB hb)))|refine kA hgr ?_|refine kD hgr ?_|refine kA hgc ?_|refine kD hgc ?_|refine kA q1 ?_|refine kD q1 ?_|refine kA q2 ?_|refine kD q2 ?_|refine kA q3 ?_|refine kD q3 ?_|refine kA q4 ?_|refine kD q4 ?_|refine kA q6 ?_|refine kD q6 ?_|refine kA q7 ?_|refine kD q7 ?_|refine kA q8 ?_|refine kD q8 ?_|refine kA q9 ?_|refine kD q9 ?_|refine kA q10 ?_|refine kD q10 ?_|refine kA q11 ?_|refine kD q11 ?_|refine kA q12 ?_|refine kD q12 ?_|refine kA q13 ?_|refine kD q13 ?_|refine kA q16 ?_|refine kD q16 ?_|refine kA haw ?_|refine kD haw ?_|refine kW cfg_ok ?_|refine kC ?_|refine bdA ?_|refine bd2 ?_|refine bdR ?_|refine bdL ?_)<;>((repeat (first|(with_reducible refine evCut fun N hN hE hT=>?_)|(with_reducible refine evBlk fun N hN hE hT=>?_)));(try with_reducible refine evCnd fun X Y hX hY=>?_);(conv=>whnf)))|(refine And.intro ?_ ?_;rotate_left;(conv=>whnf);rotate_right))
     | true =>
       have q14:=q14 rfl
       have q15:=q15 rfl
       clear hG hg1 hg2 hw hs hc fc hp h8 hr
       by_cases c3 : X = c.x ∧ Y = c.y
       · obtain ⟨d1,d2⟩:=c3
         clear q15
         refine Api.of_fin cfg_ok Tryz.func4 rfl (nt:=237) rfl rfl ?_
         ((repeat (first|(with_reducible refine evCut fun N hN hE hT=>?_)|(with_reducible refine evBlk fun N hN hE hT=>?_)));(try with_reducible refine evCnd fun X Y hX hY=>?_);(conv=>whnf))
         repeat' (first|exact trivial|((first|((first|refine hT _ _ ?_|refine hE _ _ _ ?_|refine hN _ _ ?_);clear hN hE hT)|((first|refine hX ?_|refine hY ?_);clear hX hY)|refine kL ?_|(refine ⟨fun hb=>?_,fun hb=>?_⟩<;>(try simp only [nrm] at hb)<;>(try (first|(exfalso;omega)|contradiction|exact kB hb)))|refine kA hgr ?_|refine kD hgr ?_|refine kA hgc ?_|refine kD hgc ?_|refine kA q1 ?_|refine kD q1 ?_|refine kA q2 ?_|refine kD q2 ?_|refine kA q3 ?_|refine kD q3 ?_|refine kA q4 ?_|refine kD q4 ?_|refine kA q6 ?_|refine kD q6 ?_|refine kA q7 ?_|refine kD q7 ?_|refine kA q8 ?_|refine kD q8 ?_|refine kA q9 ?_|refine kD q9 ?_|refine kA q10 ?_|refine kD q10 ?_|refine kA q11 ?_|refine kD q11 ?_|refine kA q12 ?_|refine kD q12 ?_|refine kA q13 ?_|refine kD q13 ?_|refine kA q16 ?_|refine kD q16 ?_|refine kA haw ?_|refine kD haw ?_|refine kW cfg_ok ?_|refine kC ?_|refine bdA ?_|refine bd2 ?_|refine bdR ?_|refine bdL ?_)<;>((repeat (first|(with_reducible refine evCut fun N hN hE hT=>?_)|(with_reducible refine evBlk fun N hN hE hT=>?_)));(try with_reducible refine evCnd fun X Y hX hY=>?_);(conv=>whnf)))|(refine And.intro ?_ ?_;rotate_left;(conv=>whnf);rotate_right))
       · rw [q15 (by omega)] at q14
         clear q15
         refine Api.of_fin cfg_ok Tryz.func4 rfl (nt:=237) rfl rfl ?_
         ((repeat (first|(with_reducible refine evCut fun N hN hE hT=>?_)|(with_reducible refine evBlk fun N hN hE hT=>?_)));(try with_reducible refine evCnd fun X Y hX hY=>?_);(conv=>whnf))
         repeat' (first|exact trivial|((first|((first|refine hT _ _ ?_|refine hE _ _ _ ?_|refine hN _ _ ?_);clear hN hE hT)|((first|refine hX ?_|refine hY ?_);clear hX hY)|refine kL ?_|(refine ⟨fun hb=>?_,fun hb=>?_⟩<;>(try simp only [nrm] at hb)<;>(try (first|(exfalso;omega)|contradiction|exact kB hb)))|refine kA hgr ?_|refine kD hgr ?_|refine kA hgc ?_|refine kD hgc ?_|refine kA q1 ?_|refine kD q1 ?_|refine kA q2 ?_|refine kD q2 ?_|refine kA q3 ?_|refine kD q3 ?_|refine kA q4 ?_|refine kD q4 ?_|refine kA q6 ?_|refine kD q6 ?_|refine kA q7 ?_|refine kD q7 ?_|refine kA q8 ?_|refine kD q8 ?_|refine kA q9 ?_|refine kD q9 ?_|refine kA q10 ?_|refine kD q10 ?_|refine kA q11 ?_|refine kD q11 ?_|refine kA q12 ?_|refine kD q12 ?_|refine kA q13 ?_|refine kD q13 ?_|refine kA q14 ?_|refine kD q14 ?_|refine kA q16 ?_|refine kD q16 ?_|refine kA haw ?_|refine kD haw ?_|refine kW cfg_ok ?_|refine kC ?_|refine bdA ?_|refine bd2 ?_|refine bdR ?_|refine bdL ?_)<;>((repeat (first|(with_reducible refine evCut fun N hN hE hT=>?_)|(with_reducible refine evBlk fun N hN hE hT=>?_)));(try with_reducible refine evCnd fun X Y hX hY=>?_);(conv=>whnf)))|(refine And.intro ?_ ?_;rotate_left;(conv=>whnf);rotate_right))
 · have u1:=put_no c1
   generalize chunkW w X Y = C0 at *
   generalize putW w c = U at *
   obtain ⟨C0,t0⟩:=C0
   obtain ⟨U,e⟩:=U
   dsimp only at *
   subst u1
   clear hC0
   by_cases c2 : (setW U p).2 = 0
   · obtain ⟨v1,v2,v3⟩:=set_told c2
     have hV:=okW_right v1
     have q17:=wplayer_api (setW U p).1 p.id hV
     rw [v2] at q17
     have q18:=sameP_api p p hp
     rw [eqv_self] at q18
     have q19:=rightW_api (setW U p).1 hV
     rw [v1] at q19
     clear v1 v2 hV
     generalize setW U p = V at *
     obtain ⟨V,f⟩:=V
     dsimp only at *
     subst c2
     clear hG hg1 hg2 hw hs hc fc hp h8 hr
     refine Api.of_fin cfg_ok Tryz.func4 rfl (nt:=237) rfl rfl ?_
     ((repeat (first|(with_reducible refine evCut fun N hN hE hT=>?_)|(with_reducible refine evBlk fun N hN hE hT=>?_)));(try with_reducible refine evCnd fun X Y hX hY=>?_);(conv=>whnf))
     repeat' (first|exact trivial|((first|((first|refine hT _ _ ?_|refine hE _ _ _ ?_|refine hN _ _ ?_);clear hN hE hT)|((first|refine hX ?_|refine hY ?_);clear hX hY)|refine kL ?_|(refine ⟨fun hb=>?_,fun hb=>?_⟩<;>(try simp only [nrm] at hb)<;>(try (first|(exfalso;omega)|contradiction|exact kB hb)))|refine kA hgr ?_|refine kD hgr ?_|refine kA hgc ?_|refine kD hgc ?_|refine kA q1 ?_|refine kD q1 ?_|refine kA q2 ?_|refine kD q2 ?_|refine kA q3 ?_|refine kD q3 ?_|refine kA q4 ?_|refine kD q4 ?_|refine kA q6 ?_|refine kD q6 ?_|refine kA q7 ?_|refine kD q7 ?_|refine kA q8 ?_|refine kD q8 ?_|refine kA q9 ?_|refine kD q9 ?_|refine kA q16 ?_|refine kD q16 ?_|refine kA q17 ?_|refine kD q17 ?_|refine kA q18 ?_|refine kD q18 ?_|refine kA q19 ?_|refine kD q19 ?_|refine kA haw ?_|refine kD haw ?_|refine kW cfg_ok ?_|refine kC ?_|refine bdA ?_|refine bd2 ?_|refine bdR ?_|refine bdL ?_)<;>((repeat (first|(with_reducible refine evCut fun N hN hE hT=>?_)|(with_reducible refine evBlk fun N hN hE hT=>?_)));(try with_reducible refine evCnd fun X Y hX hY=>?_);(conv=>whnf)))|(refine And.intro ?_ ?_;rotate_left;(conv=>whnf);rotate_right))
   · have v1:=set_no c2
     generalize setW U p = V at *
     obtain ⟨V,f⟩:=V
     dsimp only at *
     subst v1
     clear hG hg1 hg2 hw hs hc fc hp h8 hr
     refine Api.of_fin cfg_ok Tryz.func4 rfl (nt:=237) rfl rfl ?_
     ((repeat (first|(with_reducible refine evCut fun N hN hE hT=>?_)|(with_reducible refine evBlk fun N hN hE hT=>?_)));(try with_reducible refine evCnd fun X Y hX hY=>?_);(conv=>whnf))
     repeat' (first|exact trivial|((first|((first|refine hT _ _ ?_|refine hE _ _ _ ?_|refine hN _ _ ?_);clear hN hE hT)|((first|refine hX ?_|refine hY ?_);clear hX hY)|refine kL ?_|(refine ⟨fun hb=>?_,fun hb=>?_⟩<;>(try simp only [nrm] at hb)<;>(try (first|(exfalso;omega)|contradiction|exact kB hb)))|refine kA hgr ?_|refine kD hgr ?_|refine kA hgc ?_|refine kD hgc ?_|refine kA q1 ?_|refine kD q1 ?_|refine kA q2 ?_|refine kD q2 ?_|refine kA q3 ?_|refine kD q3 ?_|refine kA q4 ?_|refine kD q4 ?_|refine kA q6 ?_|refine kD q6 ?_|refine kA q7 ?_|refine kD q7 ?_|refine kA q8 ?_|refine kD q8 ?_|refine kA q9 ?_|refine kD q9 ?_|refine kA q16 ?_|refine kD q16 ?_|refine kA haw ?_|refine kD haw ?_|refine kW cfg_ok ?_|refine kC ?_|refine bdA ?_|refine bd2 ?_|refine bdR ?_|refine bdL ?_)<;>((repeat (first|(with_reducible refine evCut fun N hN hE hT=>?_)|(with_reducible refine evBlk fun N hN hE hT=>?_)));(try with_reducible refine evCnd fun X Y hX hY=>?_);(conv=>whnf)))|(refine And.intro ?_ ?_;rotate_left;(conv=>whnf);rotate_right))
theorem wbackN_api (w : Wld) (X Y : Int) (c : Chunk) (p : Player) (b : List (El .u8)) (hw : OkW w) (hs : 0 ≤ w.seed ∧ w.seed ≤ 18446744073709551615) (hc : OkC c) (fc : FitC c) (hp : OkP p) (h8 : okU8 b) (hl : b.length ≤ 20000) (hg1 : greatW w = false) (hg2 : greatB c = false) (hb1 : p.bag.length ≤ 300) (hb2 : p.offer.length ≤ 300) (h0 : ¬ (readW b).2 = 0) : Api Tryz.prog 4 [wldV w,caseV X Y c p b] (bol true):=by
 have haw:=awake13_api
 have hgr:=greatW_api w hw
 have hgc:=great_api c hc
 rw [hg1] at hgr
 rw [hg2] at hgc
 have q1:=wread_api b h8 (by omega) _ rfl
 generalize readW b = R at *
 obtain ⟨RW0,Re⟩:=R
 dsimp only at *
 skip
 have q4:=wbytes_api w hw hs
 have q5:=rightW_api w hw
 cases hr : rightW w with
 | false =>
   rw [show bytesWE w = ([],113) by unfold bytesWE;rw [hr];rfl] at q4
   rw [hr] at q5
   clear hg1 hg2 hw hs hc fc hp h8 hr
   refine Api.of_fin cfg_ok Tryz.func4 rfl (nt:=237) rfl rfl ?_
   ((repeat (first|(with_reducible refine evCut fun N hN hE hT=>?_)|(with_reducible refine evBlk fun N hN hE hT=>?_)));(try with_reducible refine evCnd fun X Y hX hY=>?_);(conv=>whnf))
   repeat' (first|exact trivial|((first|((first|refine hT _ _ ?_|refine hE _ _ _ ?_|refine hN _ _ ?_);clear hN hE hT)|((first|refine hX ?_|refine hY ?_);clear hX hY)|refine kL ?_|(refine ⟨fun hb=>?_,fun hb=>?_⟩<;>(try simp only [nrm] at hb)<;>(try (first|(exfalso;omega)|contradiction|exact kB hb)))|refine kA hgr ?_|refine kD hgr ?_|refine kA hgc ?_|refine kD hgc ?_|refine kA q1 ?_|refine kD q1 ?_|refine kA q4 ?_|refine kD q4 ?_|refine kA q5 ?_|refine kD q5 ?_|refine kA haw ?_|refine kD haw ?_|refine kW cfg_ok ?_|refine kC ?_|refine bdA ?_|refine bd2 ?_|refine bdR ?_|refine bdL ?_)<;>((repeat (first|(with_reducible refine evCut fun N hN hE hT=>?_)|(with_reducible refine evBlk fun N hN hE hT=>?_)));(try with_reducible refine evCnd fun X Y hX hY=>?_);(conv=>whnf)))|(refine And.intro ?_ ?_;rotate_left;(conv=>whnf);rotate_right))
 | true =>
 have hG : GoodW w:=⟨rightW_iff.1 hr,hs⟩
 rw [show bytesWE w = (bytesW w,0) by unfold bytesWE;rw [hr];rfl] at q4
 have q6:=wread_api (bytesW w) (u8_bytesW hG) (bytesW_le hG) _ rfl
 rw [readW_bytes hG] at q6
 have q7:=sameW_api w w hw
 rw [eqv_self] at q7
 have q8:=wchunk_api w X Y hw
 have q9:=worldPut_api w c hw hc fc
 have q16:=set_world w p hw hp
 have hC0 : (chunkW w X Y).2 = true → OkC (chunkW w X Y).1:=fun h=>chunk_okC hG.right h
 generalize bytesW w = B at *
 by_cases c1 : (putW w c).2 = 0
 · obtain ⟨u1,u2,u3⟩:=put_told c1 X Y
   have hU:=okW_right u1
   have q10:=wchunk_api (putW w c).1 c.x c.y hU
   rw [u2] at q10
   have q11:=same_api c c hc
   rw [eqv_self] at q11
   have q12:=rightW_api (putW w c).1 hU
   rw [u1] at q12
   have q13:=wchunk_api (putW w c).1 X Y hU
   have q14 : (chunkW w X Y).2 = true → Api Tryz.prog 21 [chunkV (chunkW w X Y).1,chunkV (chunkW (putW w c).1 X Y).1] (bol (eqv (chunkW w X Y).1 (chunkW (putW w c).1 X Y).1)):=fun h=>same_api _ _ (hC0 h)
   have q15 : (chunkW w X Y).2 = true → (¬ X = c.x ∨ ¬ Y = c.y) → eqv (chunkW w X Y).1 (chunkW (putW w c).1 X Y).1 = true:=fun h h2=>eqv_iff.2 (u3 h h2).symm
   clear u1 u2 u3 hU hC0
   generalize chunkW (putW w c).1 X Y = C1 at *
   generalize chunkW w X Y = C0 at *
   generalize putW w c = U at *
   obtain ⟨C0,t0⟩:=C0
   obtain ⟨C1,t1⟩:=C1
   obtain ⟨U,e⟩:=U
   dsimp only at *
   subst c1
   by_cases c2 : (setW w p).2 = 0
   · obtain ⟨v1,v2,v3⟩:=set_told c2
     have hV:=okW_right v1
     have q17:=wplayer_api (setW w p).1 p.id hV
     rw [v2] at q17
     have q18:=sameP_api p p hp
     rw [eqv_self] at q18
     have q19:=rightW_api (setW w p).1 hV
     rw [v1] at q19
     clear v1 v2 hV
     generalize setW w p = V at *
     obtain ⟨V,f⟩:=V
     dsimp only at *
     subst c2
     cases t0 with
     | false =>
       clear q14 q15 hG hg1 hg2 hw hs hc fc hp h8 hr
       refine Api.of_fin cfg_ok Tryz.func4 rfl (nt:=237) rfl rfl ?_
       ((repeat (first|(with_reducible refine evCut fun N hN hE hT=>?_)|(with_reducible refine evBlk fun N hN hE hT=>?_)));(try with_reducible refine evCnd fun X Y hX hY=>?_);(conv=>whnf))
       repeat' (first|exact trivial|((first|((first|refine hT _ _ ?_|refine hE _ _ _ ?_|refine hN _ _ ?_);clear hN hE hT)|((first|refine hX ?_|refine hY ?_);clear hX hY)|refine kL ?_|(refine ⟨fun hb=>?_,fun hb=>?_⟩<;>(try simp only [nrm] at hb)<;>(try (first|(exfalso;omega)|contradiction|exact kB hb)))|refine kA hgr ?_|refine kD hgr ?_|refine kA hgc ?_|refine kD hgc ?_|refine kA q1 ?_|refine kD q1 ?_|refine kA q4 ?_|refine kD q4 ?_|refine kA q6 ?_|refine kD q6 ?_|refine kA q7 ?_|refine kD q7 ?_|refine kA q8 ?_|refine kD q8 ?_|refine kA q9 ?_|refine kD q9 ?_|refine kA q10 ?_|refine kD q10 ?_|refine kA q11 ?_|refine kD q11 ?_|refine kA q12 ?_|refine kD q12 ?_|refine kA q13 ?_|refine kD q13 ?_|refine kA q16 ?_|refine kD q16 ?_|refine kA q17 ?_|refine kD q17 ?_|refine kA q18 ?_|refine kD q18 ?_|refine kA q19 ?_|refine kD q19 ?_|refine kA haw ?_|refine kD haw ?_|refine kW cfg_ok ?_|refine kC ?_|refine bdA ?_|refine bd2 ?_|refine bdR ?_|refine bdL ?_)<;>((repeat (first|(with_reducible refine evCut fun N hN hE hT=>?_)|(with_reducible refine evBlk fun N hN hE hT=>?_)));(try with_reducible refine evCnd fun X Y hX hY=>?_);(conv=>whnf)))|(refine And.intro ?_ ?_;rotate_left;(conv=>whnf);rotate_right))
     | true =>
       have q14:=q14 rfl
       have q15:=q15 rfl
       clear hG hg1 hg2 hw hs hc fc hp h8 hr
       by_cases c3 : X = c.x ∧ Y = c.y
       · obtain ⟨d1,d2⟩:=c3
         clear q15
         refine Api.of_fin cfg_ok Tryz.func4 rfl (nt:=237) rfl rfl ?_
         ((repeat (first|(with_reducible refine evCut fun N hN hE hT=>?_)|(with_reducible refine evBlk fun N hN hE hT=>?_)));(try with_reducible refine evCnd fun X Y hX hY=>?_);(conv=>whnf))
         repeat' (first|exact trivial|((first|((first|refine hT _ _ ?_|refine hE _ _ _ ?_|refine hN _ _ ?_);clear hN hE hT)|((first|refine hX ?_|refine hY ?_);clear hX hY)|refine kL ?_|(refine ⟨fun hb=>?_,fun hb=>?_⟩<;>(try simp only [nrm] at hb)<;>(try (first|(exfalso;omega)|contradiction|exact kB hb)))|refine kA hgr ?_|refine kD hgr ?_|refine kA hgc ?_|refine kD hgc ?_|refine kA q1 ?_|refine kD q1 ?_|refine kA q4 ?_|refine kD q4 ?_|refine kA q6 ?_|refine kD q6 ?_|refine kA q7 ?_|refine kD q7 ?_|refine kA q8 ?_|refine kD q8 ?_|refine kA q9 ?_|refine kD q9 ?_|refine kA q10 ?_|refine kD q10 ?_|refine kA q11 ?_|refine kD q11 ?_|refine kA q12 ?_|refine kD q12 ?_|refine kA q13 ?_|refine kD q13 ?_|refine kA q16 ?_|refine kD q16 ?_|refine kA q17 ?_|refine kD q17 ?_|refine kA q18 ?_|refine kD q18 ?_|refine kA q19 ?_|refine kD q19 ?_|refine kA haw ?_|refine kD haw ?_|refine kW cfg_ok ?_|refine kC ?_|refine bdA ?_|refine bd2 ?_|refine bdR ?_|refine bdL ?_)<;>((repeat (first|(with_reducible refine evCut fun N hN hE hT=>?_)|(with_reducible refine evBlk fun N hN hE hT=>?_)));(try with_reducible refine evCnd fun X Y hX hY=>?_);(conv=>whnf)))|(refine And.intro ?_ ?_;rotate_left;(conv=>whnf);rotate_right))
       · rw [q15 (by omega)] at q14
         clear q15
         refine Api.of_fin cfg_ok Tryz.func4 rfl (nt:=237) rfl rfl ?_
         ((repeat (first|(with_reducible refine evCut fun N hN hE hT=>?_)|(with_reducible refine evBlk fun N hN hE hT=>?_)));(try with_reducible refine evCnd fun X Y hX hY=>?_);(conv=>whnf))
         repeat' (first|exact trivial|((first|((first|refine hT _ _ ?_|refine hE _ _ _ ?_|refine hN _ _ ?_);clear hN hE hT)|((first|refine hX ?_|refine hY ?_);clear hX hY)|refine kL ?_|(refine ⟨fun hb=>?_,fun hb=>?_⟩<;>(try simp only [nrm] at hb)<;>(try (first|(exfalso;omega)|contradiction|exact kB hb)))|refine kA hgr ?_|refine kD hgr ?_|refine kA hgc ?_|refine kD hgc ?_|refine kA q1 ?_|refine kD q1 ?_|refine kA q4 ?_|refine kD q4 ?_|refine kA q6 ?_|refine kD q6 ?_|refine kA q7 ?_|refine kD q7 ?_|refine kA q8 ?_|refine kD q8 ?_|refine kA q9 ?_|refine kD q9 ?_|refine kA q10 ?_|refine kD q10 ?_|refine kA q11 ?_|refine kD q11 ?_|refine kA q12 ?_|refine kD q12 ?_|refine kA q13 ?_|refine kD q13 ?_|refine kA q14 ?_|refine kD q14 ?_|refine kA q16 ?_|refine kD q16 ?_|refine kA q17 ?_|refine kD q17 ?_|refine kA q18 ?_|refine kD q18 ?_|refine kA q19 ?_|refine kD q19 ?_|refine kA haw ?_|refine kD haw ?_|refine kW cfg_ok ?_|refine kC ?_|refine bdA ?_|refine bd2 ?_|refine bdR ?_|refine bdL ?_)<;>((repeat (first|(with_reducible refine evCut fun N hN hE hT=>?_)|(with_reducible refine evBlk fun N hN hE hT=>?_)));(try with_reducible refine evCnd fun X Y hX hY=>?_);(conv=>whnf)))|(refine And.intro ?_ ?_;rotate_left;(conv=>whnf);rotate_right))
   · have v1:=set_no c2
     generalize setW w p = V at *
     obtain ⟨V,f⟩:=V
     dsimp only at *
     subst v1
     cases t0 with
     | false =>
       clear q14 q15 hG hg1 hg2 hw hs hc fc hp h8 hr
       refine Api.of_fin cfg_ok Tryz.func4 rfl (nt:=237) rfl rfl ?_
       ((repeat (first|(with_reducible refine evCut fun N hN hE hT=>?_)|(with_reducible refine evBlk fun N hN hE hT=>?_)));(try with_reducible refine evCnd fun X Y hX hY=>?_);(conv=>whnf))
       repeat' (first|exact trivial|((first|((first|refine hT _ _ ?_|refine hE _ _ _ ?_|refine hN _ _ ?_);clear hN hE hT)|((first|refine hX ?_|refine hY ?_);clear hX hY)|refine kL ?_|(refine ⟨fun hb=>?_,fun hb=>?_⟩<;>(try simp only [nrm] at hb)<;>(try (first|(exfalso;omega)|contradiction|exact kB hb)))|refine kA hgr ?_|refine kD hgr ?_|refine kA hgc ?_|refine kD hgc ?_|refine kA q1 ?_|refine kD q1 ?_|refine kA q4 ?_|refine kD q4 ?_|refine kA q6 ?_|refine kD q6 ?_|refine kA q7 ?_|refine kD q7 ?_|refine kA q8 ?_|refine kD q8 ?_|refine kA q9 ?_|refine kD q9 ?_|refine kA q10 ?_|refine kD q10 ?_|refine kA q11 ?_|refine kD q11 ?_|refine kA q12 ?_|refine kD q12 ?_|refine kA q13 ?_|refine kD q13 ?_|refine kA q16 ?_|refine kD q16 ?_|refine kA haw ?_|refine kD haw ?_|refine kW cfg_ok ?_|refine kC ?_|refine bdA ?_|refine bd2 ?_|refine bdR ?_|refine bdL ?_)<;>((repeat (first|(with_reducible refine evCut fun N hN hE hT=>?_)|(with_reducible refine evBlk fun N hN hE hT=>?_)));(try with_reducible refine evCnd fun X Y hX hY=>?_);(conv=>whnf)))|(refine And.intro ?_ ?_;rotate_left;(conv=>whnf);rotate_right))
     | true =>
       have q14:=q14 rfl
       have q15:=q15 rfl
       clear hG hg1 hg2 hw hs hc fc hp h8 hr
       by_cases c3 : X = c.x ∧ Y = c.y
       · obtain ⟨d1,d2⟩:=c3
         clear q15
         refine Api.of_fin cfg_ok Tryz.func4 rfl (nt:=237) rfl rfl ?_
         ((repeat (first|(with_reducible refine evCut fun N hN hE hT=>?_)|(with_reducible refine evBlk fun N hN hE hT=>?_)));(try with_reducible refine evCnd fun X Y hX hY=>?_);(conv=>whnf))
         repeat' (first|exact trivial|((first|((first|refine hT _ _ ?_|refine hE _ _ _ ?_|refine hN _ _ ?_);clear hN hE hT)|((first|refine hX ?_|refine hY ?_);clear hX hY)|refine kL ?_|(refine ⟨fun hb=>?_,fun hb=>?_⟩<;>(try simp only [nrm] at hb)<;>(try (first|(exfalso;omega)|contradiction|exact kB hb)))|refine kA hgr ?_|refine kD hgr ?_|refine kA hgc ?_|refine kD hgc ?_|refine kA q1 ?_|refine kD q1 ?_|refine kA q4 ?_|refine kD q4 ?_|refine kA q6 ?_|refine kD q6 ?_|refine kA q7 ?_|refine kD q7 ?_|refine kA q8 ?_|refine kD q8 ?_|refine kA q9 ?_|refine kD q9 ?_|refine kA q10 ?_|refine kD q10 ?_|refine kA q11 ?_|refine kD q11 ?_|refine kA q12 ?_|refine kD q12 ?_|refine kA q13 ?_|refine kD q13 ?_|refine kA q16 ?_|refine kD q16 ?_|refine kA haw ?_|refine kD haw ?_|refine kW cfg_ok ?_|refine kC ?_|refine bdA ?_|refine bd2 ?_|refine bdR ?_|refine bdL ?_)<;>((repeat (first|(with_reducible refine evCut fun N hN hE hT=>?_)|(with_reducible refine evBlk fun N hN hE hT=>?_)));(try with_reducible refine evCnd fun X Y hX hY=>?_);(conv=>whnf)))|(refine And.intro ?_ ?_;rotate_left;(conv=>whnf);rotate_right))
       · rw [q15 (by omega)] at q14
         clear q15
         refine Api.of_fin cfg_ok Tryz.func4 rfl (nt:=237) rfl rfl ?_
         ((repeat (first|(with_reducible refine evCut fun N hN hE hT=>?_)|(with_reducible refine evBlk fun N hN hE hT=>?_)));(try with_reducible refine evCnd fun X Y hX hY=>?_);(conv=>whnf))
         repeat' (first|exact trivial|((first|((first|refine hT _ _ ?_|refine hE _ _ _ ?_|refine hN _ _ ?_);clear hN hE hT)|((first|refine hX ?_|refine hY ?_);clear hX hY)|refine kL ?_|(refine ⟨fun hb=>?_,fun hb=>?_⟩<;>(try simp only [nrm] at hb)<;>(try (first|(exfalso;omega)|contradiction|exact kB hb)))|refine kA hgr ?_|refine kD hgr ?_|refine kA hgc ?_|refine kD hgc ?_|refine kA q1 ?_|refine kD q1 ?_|refine kA q4 ?_|refine kD q4 ?_|refine kA q6 ?_|refine kD q6 ?_|refine kA q7 ?_|refine kD q7 ?_|refine kA q8 ?_|refine kD q8 ?_|refine kA q9 ?_|refine kD q9 ?_|refine kA q10 ?_|refine kD q10 ?_|refine kA q11 ?_|refine kD q11 ?_|refine kA q12 ?_|refine kD q12 ?_|refine kA q13 ?_|refine kD q13 ?_|refine kA q14 ?_|refine kD q14 ?_|refine kA q16 ?_|refine kD q16 ?_|refine kA haw ?_|refine kD haw ?_|refine kW cfg_ok ?_|refine kC ?_|refine bdA ?_|refine bd2 ?_|refine bdR ?_|refine bdL ?_)<;>((repeat (first|(with_reducible refine evCut fun N hN hE hT=>?_)|(with_reducible refine evBlk fun N hN hE hT=>?_)));(try with_reducible refine evCnd fun X Y hX hY=>?_);(conv=>whnf)))|(refine And.intro ?_ ?_;rotate_left;(conv=>whnf);rotate_right))
 · have u1:=put_no c1
   generalize chunkW w X Y = C0 at *
   generalize putW w c = U at *
   obtain ⟨C0,t0⟩:=C0
   obtain ⟨U,e⟩:=U
   dsimp only at *
   subst u1
   clear hC0
   by_cases c2 : (setW U p).2 = 0
   · obtain ⟨v1,v2,v3⟩:=set_told c2
     have hV:=okW_right v1
     have q17:=wplayer_api (setW U p).1 p.id hV
     rw [v2] at q17
     have q18:=sameP_api p p hp
     rw [eqv_self] at q18
     have q19:=rightW_api (setW U p).1 hV
     rw [v1] at q19
     clear v1 v2 hV
     generalize setW U p = V at *
     obtain ⟨V,f⟩:=V
     dsimp only at *
     subst c2
     clear hG hg1 hg2 hw hs hc fc hp h8 hr
     refine Api.of_fin cfg_ok Tryz.func4 rfl (nt:=237) rfl rfl ?_
     ((repeat (first|(with_reducible refine evCut fun N hN hE hT=>?_)|(with_reducible refine evBlk fun N hN hE hT=>?_)));(try with_reducible refine evCnd fun X Y hX hY=>?_);(conv=>whnf))
     repeat' (first|exact trivial|((first|((first|refine hT _ _ ?_|refine hE _ _ _ ?_|refine hN _ _ ?_);clear hN hE hT)|((first|refine hX ?_|refine hY ?_);clear hX hY)|refine kL ?_|(refine ⟨fun hb=>?_,fun hb=>?_⟩<;>(try simp only [nrm] at hb)<;>(try (first|(exfalso;omega)|contradiction|exact kB hb)))|refine kA hgr ?_|refine kD hgr ?_|refine kA hgc ?_|refine kD hgc ?_|refine kA q1 ?_|refine kD q1 ?_|refine kA q4 ?_|refine kD q4 ?_|refine kA q6 ?_|refine kD q6 ?_|refine kA q7 ?_|refine kD q7 ?_|refine kA q8 ?_|refine kD q8 ?_|refine kA q9 ?_|refine kD q9 ?_|refine kA q16 ?_|refine kD q16 ?_|refine kA q17 ?_|refine kD q17 ?_|refine kA q18 ?_|refine kD q18 ?_|refine kA q19 ?_|refine kD q19 ?_|refine kA haw ?_|refine kD haw ?_|refine kW cfg_ok ?_|refine kC ?_|refine bdA ?_|refine bd2 ?_|refine bdR ?_|refine bdL ?_)<;>((repeat (first|(with_reducible refine evCut fun N hN hE hT=>?_)|(with_reducible refine evBlk fun N hN hE hT=>?_)));(try with_reducible refine evCnd fun X Y hX hY=>?_);(conv=>whnf)))|(refine And.intro ?_ ?_;rotate_left;(conv=>whnf);rotate_right))
   · have v1:=set_no c2
     generalize setW U p = V at *
     obtain ⟨V,f⟩:=V
     dsimp only at *
     subst v1
     clear hG hg1 hg2 hw hs hc fc hp h8 hr
     refine Api.of_fin cfg_ok Tryz.func4 rfl (nt:=237) rfl rfl ?_
     ((repeat (first|(with_reducible refine evCut fun N hN hE hT=>?_)|(with_reducible refine evBlk fun N hN hE hT=>?_)));(try with_reducible refine evCnd fun X Y hX hY=>?_);(conv=>whnf))
     repeat' (first|exact trivial|((first|((first|refine hT _ _ ?_|refine hE _ _ _ ?_|refine hN _ _ ?_);clear hN hE hT)|((first|refine hX ?_|refine hY ?_);clear hX hY)|refine kL ?_|(refine ⟨fun hb=>?_,fun hb=>?_⟩<;>(try simp only [nrm] at hb)<;>(try (first|(exfalso;omega)|contradiction|exact kB hb)))|refine kA hgr ?_|refine kD hgr ?_|refine kA hgc ?_|refine kD hgc ?_|refine kA q1 ?_|refine kD q1 ?_|refine kA q4 ?_|refine kD q4 ?_|refine kA q6 ?_|refine kD q6 ?_|refine kA q7 ?_|refine kD q7 ?_|refine kA q8 ?_|refine kD q8 ?_|refine kA q9 ?_|refine kD q9 ?_|refine kA q16 ?_|refine kD q16 ?_|refine kA haw ?_|refine kD haw ?_|refine kW cfg_ok ?_|refine kC ?_|refine bdA ?_|refine bd2 ?_|refine bdR ?_|refine bdL ?_)<;>((repeat (first|(with_reducible refine evCut fun N hN hE hT=>?_)|(with_reducible refine evBlk fun N hN hE hT=>?_)));(try with_reducible refine evCnd fun X Y hX hY=>?_);(conv=>whnf)))|(refine And.intro ?_ ?_;rotate_left;(conv=>whnf);rotate_right))
theorem wback_api (w : Wld) (X Y : Int) (c : Chunk) (p : Player) (b : List (El .u8)) (hw : OkW w) (hs : 0 ≤ w.seed ∧ w.seed ≤ 18446744073709551615) (hc : OkC c) (fc : FitC c) (hp : OkP p) (h8 : okU8 b) : Api Tryz.prog 4 [wldV w,caseV X Y c p b] (bol true):=by
 by_cases hg : greatW w = true ∨ greatB c = true ∨ 300 < p.bag.length ∨ 300 < p.offer.length ∨ 20000 < b.length
 · exact wbackNo_api w X Y c p b hw hc hg
 · rw [not_or,not_or,not_or,not_or] at hg
   obtain ⟨a1,a2,a3,a4,a5⟩:=hg
   have a1 : greatW w = false:=by simpa using a1
   have a2 : greatB c = false:=by simpa using a2
   by_cases h0 : (readW b).2 = 0
   · exact wbackR_api w X Y c p b hw hs hc fc hp h8 (by omega) a1 a2 (by omega) (by omega) h0
   · exact wbackN_api w X Y c p b hw hs hc fc hp h8 (by omega) a1 a2 (by omega) (by omega) h0
end Go.Proofs.YtaecchphjploaaaGreat
