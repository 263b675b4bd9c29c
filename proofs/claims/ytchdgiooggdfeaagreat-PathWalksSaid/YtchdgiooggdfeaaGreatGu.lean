/- Contracts of rules. -/
import Derived.Test.YtchdgiooggdfeaaGreatGi
import Derived.Test.YtchdgiooggdfeaaGreatGc
import Derived.Test.YtchdgiooggdfeaaGreatGe
set_option linter.unusedSimpArgs false
set_option linter.unusedVariables false
set_option maxRecDepth 100000
set_option maxHeartbeats 16000000
namespace Go.Proofs.YtchdgiooggdfeaaGreat
open Go Go.RowKit Eng
theorem rightD_hi {c : Cmd} (h : 14 ≤ c.dol) : rightD c = false:=by
 unfold rightD
 (repeat' split)<;>first|omega|rfl
theorem cright_hi (c : Cmd) (h0 : 14 ≤ c.dol) (h1 : c.dol ≤ 255) : Api Tryz.prog 29 [cmdV c] (bol false):=by
 have hs:=shape_hi c.dol h0 h1
 refine Api.of_fin cfg_ok Tryz.func29 rfl (nt:=32) rfl rfl ?_
 ((try with_reducible refine evCut fun N hN hE hT=>?_);(conv=>whnf))
 repeat' (first|exact trivial|((first|((first|refine hT _ _ ?_|refine hE _ _ _ ?_|refine hN _ _ ?_);clear hN hE hT)|refine kL ?_|(refine ⟨fun hb=>?_,fun hb=>?_⟩<;>(try simp only [nrm] at hb)<;>(try (first|(exfalso;omega)|contradiction|exact kB hb)))|refine kA hs ?_|refine kD hs ?_|refine kW cfg_ok ?_|refine kC ?_|refine bdA ?_|refine bd2 ?_|refine bdR ?_|refine bdL ?_)<;>((try with_reducible refine evCut fun N hN hE hT=>?_);(conv=>whnf)))|(refine And.intro ?_ ?_;rotate_left;(conv=>whnf);rotate_right))
 all_goals first|rfl|(exact absurd rfl hb)|trace_state
theorem cright_0 (a b c n : Int) : Api Tryz.prog 29 [.agg [.lit (.int .u8 0),i64 a,i64 b,i64 c,i64 n]] (bol false):=by
 have hs : Api Tryz.prog 63 [.lit (.int .u8 0)] (.lit (.string ⟨#[]⟩)):=shape_lo 0 (by omega) (by omega)
 refine Api.of_fin cfg_ok Tryz.func29 rfl (nt:=32) rfl rfl ?_
 ((try with_reducible refine evCut fun N hN hE hT=>?_);(conv=>whnf))
 repeat' (first|exact trivial|((first|((first|refine hT _ _ ?_|refine hE _ _ _ ?_|refine hN _ _ ?_);clear hN hE hT)|refine kL ?_|(refine ⟨fun hb=>?_,fun hb=>?_⟩<;>(try simp only [nrm] at hb)<;>(try (first|(exfalso;omega)|contradiction|exact kB hb)))|refine kA hs ?_|refine kD hs ?_|refine kW cfg_ok ?_|refine kC ?_|refine bdA ?_|refine bd2 ?_|refine bdR ?_|refine bdL ?_)<;>((try with_reducible refine evCut fun N hN hE hT=>?_);(conv=>whnf)))|(refine And.intro ?_ ?_;rotate_left;(conv=>whnf);rotate_right))
 all_goals first|rfl|(exact absurd rfl hb)|trace_state
theorem zeroB_eq (n : Int) : zeroB n = mayK 45 n:=by
 show decide (n = 0) = (decide (0 ≤ n) && decide (n ≤ 0))
 rw [Bool.eq_iff_iff,Bool.and_eq_true,decide_eq_true_eq,decide_eq_true_eq,decide_eq_true_eq];omega
theorem loop_len (a : ByteArray) : ∀ (n i : Nat) (r : List UInt8),a.size - i = n → (ByteArray.toList.loop a i r).length = r.length + n:=by
 intro n
 induction n with
 | zero =>
   intro i r h
   unfold ByteArray.toList.loop
   rw [if_neg (by omega)];simp
 | succ n ih =>
   intro i r h
   unfold ByteArray.toList.loop
   rw [if_pos (by omega),ih (i + 1) _ (by omega)]
   simp;omega
theorem str_ne {l : List UInt8} (h : ¬ l.length = 0) : ¬ (⟨l.toArray⟩ : ByteArray).toList = (⟨#[]⟩ : ByteArray).toList:=by
 intro e
 have e2:=congrArg List.length e
 unfold ByteArray.toList at e2
 rw [loop_len _ _ _ _ rfl,loop_len _ _ _ _ rfl] at e2
 have e3 : (⟨l.toArray⟩ : ByteArray).size = l.length:=by show l.toArray.size = _;simp
 have e4 : (⟨#[]⟩ : ByteArray).size = 0:=rfl
 rw [e3,e4] at e2
 simp at e2
 exact h (by rw [e2];rfl)
def ltr (d : Int) (j : Nat) : Int:=((lettersL d)[j]?.map (fun b : UInt8=>(b.toNat : Int))).getD 0
theorem f0 {x y z u : Bool} (h : x = false) : (x && (y && (z && u))) = false:=by rw [h];rfl
theorem f1 {x y z u : Bool} (h : y = false) : (x && (y && (z && u))) = false:=by rw [h];simp
theorem f2 {x y z u : Bool} (h : z = false) : (x && (y && (z && u))) = false:=by rw [h];simp
theorem f3 {x y z u : Bool} (h : u = false) : (x && (y && (z && u))) = false:=by rw [h];simp
theorem cright_lo (d a b c n : Int) (h0 : 1 ≤ d) (h1 : d < 14) : Api Tryz.prog 29 [.agg [.lit (.int .u8 d),i64 a,i64 b,i64 c,i64 n]] (bol (mayK (ltr d 0) a && (mayK (ltr d 1) b && (mayK (ltr d 2) c && mayK (ltr d 3) n)))):=by
 have hs:=shape_lo d (by omega) h1
 have hl : ¬ (lettersL d).length = 0:=by
   rcases do_14 (by omega) h1 with rfl|rfl|rfl|rfl|rfl|rfl|rfl|rfl|rfl|rfl|rfl|rfl|rfl|rfl
   · omega
   all_goals decide
 have hne:=str_ne hl
 clear hl
 obtain ⟨D,hD⟩ : ∃ D,D = d:=⟨d,rfl⟩
 rcases do_14 (by omega) h1 with rfl|rfl|rfl|rfl|rfl|rfl|rfl|rfl|rfl|rfl|rfl|rfl|rfl|rfl
 · omega
 all_goals
   refine Api.of_fin cfg_ok Tryz.func29 rfl (nt:=32) rfl rfl ?_
   ((try with_reducible refine evCut fun N hN hE hT=>?_);(conv=>whnf))
   repeat' (first|exact trivial|((first|((first|refine hT _ _ ?_|refine hE _ _ _ ?_|refine hN _ _ ?_);clear hN hE hT)|refine kL ?_|(refine ⟨fun hb=>?_,fun hb=>?_⟩<;>(try simp only [nrm] at hb)<;>(try (first|(exfalso;omega)|contradiction|exact kB hb)))|refine kA hs ?_|refine kD hs ?_|refine kW cfg_ok ?_|refine kC ?_|refine bdA ?_|refine bd2 ?_|refine bdR ?_|refine bdL ?_)<;>((try with_reducible refine evCut fun N hN hE hT=>?_);(conv=>whnf)))|(refine And.intro ?_ ?_;rotate_left;(conv=>whnf);rotate_right))
   refine Runs.loopS cfg_ok (σ:=Nat) [3,4,20,21] (fun k=>[.lit (.string ⟨(lettersL D).toArray⟩),.lit (.func (.func 64) #[] #[]),.agg [i64 a,i64 b,i64 c,i64 n],i64 k]) (fun _=>[]) (fun k=>k ≤ 4 ∧ (0 < k → mayK (ltr D 0) a = true) ∧ (1 < k → mayK (ltr D 1) b = true) ∧ (2 < k → mayK (ltr D 2) c = true) ∧ (3 < k → mayK (ltr D 3) n = true)) (fun k=>4 - k) 0 (by omega) ?_ ?_
   · subst hD
     conv=>whnf
     repeat' (first|exact trivial|((first|((first|refine hT _ _ ?_|refine hE _ _ _ ?_|refine hN _ _ ?_);clear hN hE hT)|refine kL ?_|(refine ⟨fun hb=>?_,fun hb=>?_⟩<;>(try simp only [nrm] at hb)<;>(try (first|(exfalso;omega)|contradiction|exact kB hb)))|refine kW cfg_ok ?_|refine kC ?_|refine bdA ?_|refine bd2 ?_|refine bdR ?_|refine bdL ?_)<;>((try with_reducible refine evCut fun N hN hE hT=>?_);(conv=>whnf)))|(refine And.intro ?_ ?_;rotate_left;(conv=>whnf);rotate_right))
     all_goals first|rfl|trace_state
   · subst hD
     rintro k ⟨hk,i0,i1,i2,i3⟩
     rcases (by omega : k = 0 ∨ k = 1 ∨ k = 2 ∨ k = 3 ∨ k = 4) with rfl|rfl|rfl|rfl|rfl
     all_goals
       conv=>whnf
       repeat' (first|exact trivial|((first|((first|refine hT _ _ ?_|refine hE _ _ _ ?_|refine hN _ _ ?_);clear hN hE hT)|refine kL ?_|(refine ⟨fun hb=>?_,fun hb=>?_⟩<;>(try simp only [nrm] at hb)<;>(try (first|(exfalso;omega)|contradiction|exact kB hb)))|(refine isE 64 ?_;refine kA (cmay_api _ _) ?_)|(refine isD 64 ?_;refine kD (cmay_api _ _) ?_)|refine kW cfg_ok ?_|refine kC ?_|refine bdA ?_|refine bd2 ?_|refine bdR ?_|refine bdL ?_)<;>((try with_reducible refine evCut fun N hN hE hT=>?_);(conv=>whnf)))|(refine And.intro ?_ ?_;rotate_left;(conv=>whnf);rotate_right))
     all_goals first
       | (refine congrArg Value.bool ?_;rw [i0 (by omega),i1 (by omega),i2 (by omega),i3 (by omega)];rfl)
       | exact congrArg Value.bool (f0 hb)
       | exact congrArg Value.bool (f1 hb)
       | exact congrArg Value.bool (f2 hb)
       | exact congrArg Value.bool (f3 hb)
       | refine .to 1 ⟨by omega,fun _=>hb,fun h=>absurd h (by omega),fun h=>absurd h (by omega),fun h=>absurd h (by omega)⟩ (by omega) ?_
       | refine .to 2 ⟨by omega,fun _=>i0 (by omega),fun _=>hb,fun h=>absurd h (by omega),fun h=>absurd h (by omega)⟩ (by omega) ?_
       | refine .to 3 ⟨by omega,fun _=>i0 (by omega),fun _=>i1 (by omega),fun _=>hb,fun h=>absurd h (by omega)⟩ (by omega) ?_
       | refine .to 4 ⟨by omega,fun _=>i0 (by omega),fun _=>i1 (by omega),fun _=>i2 (by omega),fun _=>hb⟩ (by omega) ?_
       | trace_state
     all_goals
       conv=>whnf
       repeat' (first|exact trivial|((first|((first|refine hT _ _ ?_|refine hE _ _ _ ?_|refine hN _ _ ?_);clear hN hE hT)|refine kL ?_|(refine ⟨fun hb=>?_,fun hb=>?_⟩<;>(try simp only [nrm] at hb)<;>(try (first|(exfalso;omega)|contradiction|exact kB hb)))|refine kW cfg_ok ?_|refine kC ?_|refine bdA ?_|refine bd2 ?_|refine bdR ?_|refine bdL ?_)<;>((try with_reducible refine evCut fun N hN hE hT=>?_);(conv=>whnf)))|(refine And.intro ?_ ?_;rotate_left;(conv=>whnf);rotate_right))
     all_goals rfl
theorem rightD_lo {d : Int} (a b e n : Int) (h0 : 1 ≤ d) (h1 : d < 14) : rightD ⟨d,a,b,e,n⟩ = (mayK (ltr d 0) a && (mayK (ltr d 1) b && (mayK (ltr d 2) e && mayK (ltr d 3) n))):=by
 unfold rightD
 simp only [zeroB_eq]
 rcases do_14 (by omega) h1 with rfl|rfl|rfl|rfl|rfl|rfl|rfl|rfl|rfl|rfl|rfl|rfl|rfl|rfl
 · omega
 all_goals rfl
theorem cmdright_api (c : Cmd) (h0 : 0 ≤ c.dol) (h1 : c.dol ≤ 255) : Api Tryz.prog 29 [cmdV c] (bol (rightD c)):=by
 by_cases h : c.dol < 14
 · obtain ⟨d,a,b,e,n⟩:=c
   dsimp only at h h0
   by_cases hd : d = 0
   · subst hd;exact cright_0 a b e n
   · rw [rightD_lo a b e n (by omega) h]
     exact cright_lo d a b e n (by omega) h
 · rw [rightD_hi (by omega)]
   exact cright_hi c (by omega) h1
open Go Go.RowKit Eng
open Go Go.RowKit Eng
theorem aim_ev (w : Wld) (p : Player) (c : Cmd) (hw : OkW w) (hs : 1 ≤ w.size ∧ w.size ≤ 16) (hpx : 0 ≤ p.x ∧ p.x ≤ 1000) (hpy : 0 ≤ p.y ∧ p.y ≤ 1000) (ha : 0 ≤ c.a ∧ c.a ≤ 127) (hb1 : 0 ≤ c.b ∧ c.b ≤ 127) : Ev1 Tryz.prog 68 [.ptr 0 0] (actM w p c) (.tup [chunkV (if aimE w p c.a c.b = 0 then placeC w c.a c.b else ⟨0,0,[],[],[]⟩),i64 (if aimE w p c.a c.b = 0 then placeI c.a c.b else 0),i64 (aimE w p c.a c.b)]) (actM w p c):=by
 have hth:=there_ev w p c c.a c.b hs
 have hne:=near_ev w p c c.a c.b (by omega) (by omega) hpx hpy
 have hpl:=place_ev w p c c.a c.b hw (by omega) (by omega)
 cases h1 : withinW w.size c.a c.b with
 | false =>
   rw [h1] at hth
   rw [show aimE w p c.a c.b = 102 by unfold aimE;rw [if_pos h1],if_neg (by decide),if_neg (by decide)]
   refine Ev1.of_fin cfg_ok Tryz.func68 rfl (nt:=53) rfl rfl rfl ?_
   ((try with_reducible refine evCut fun N hN hE hT=>?_);(conv=>whnf))
   repeat' (first|exact trivial|((first|((first|refine hT _ _ ?_|refine hE _ _ _ ?_|refine hN _ _ ?_);clear hN hE hT)|refine kL ?_|(refine ⟨fun hb=>?_,fun hb=>?_⟩<;>(try simp only [nrm] at hb)<;>(try (first|(exfalso;omega)|contradiction|exact kB hb)))|refine kR hth [(0,0)] rfl ?_|refine kS hth [(0,0)] rfl ?_|refine kW cfg_ok ?_|refine kC ?_|refine bdA ?_|refine bd2 ?_|refine bdR ?_|refine bdL ?_)<;>((try with_reducible refine evCut fun N hN hE hT=>?_);(conv=>whnf)))|(refine And.intro ?_ ?_;rotate_left;(conv=>whnf);rotate_right))
   all_goals first|rfl|omega|trace_state
 | true =>
   rw [h1] at hth
   cases h2 : nearP p c.a c.b with
   | false =>
     rw [h2] at hne
     rw [show aimE w p c.a c.b = 106 by unfold aimE;rw [if_neg (by rw [h1];simp),if_pos h2],if_neg (by decide),if_neg (by decide)]
     refine Ev1.of_fin cfg_ok Tryz.func68 rfl (nt:=53) rfl rfl rfl ?_
     ((try with_reducible refine evCut fun N hN hE hT=>?_);(conv=>whnf))
     repeat' (first|exact trivial|((first|((first|refine hT _ _ ?_|refine hE _ _ _ ?_|refine hN _ _ ?_);clear hN hE hT)|refine kL ?_|(refine ⟨fun hb=>?_,fun hb=>?_⟩<;>(try simp only [nrm] at hb)<;>(try (first|(exfalso;omega)|contradiction|exact kB hb)))|refine kR hth [(0,0)] rfl ?_|refine kS hth [(0,0)] rfl ?_|refine kR hne [(0,0)] rfl ?_|refine kS hne [(0,0)] rfl ?_|refine kW cfg_ok ?_|refine kC ?_|refine bdA ?_|refine bd2 ?_|refine bdR ?_|refine bdL ?_)<;>((try with_reducible refine evCut fun N hN hE hT=>?_);(conv=>whnf)))|(refine And.intro ?_ ?_;rotate_left;(conv=>whnf);rotate_right))
     all_goals first|rfl|omega|trace_state
   | true =>
     rw [h2] at hne
     rw [show aimE w p c.a c.b = 0 by unfold aimE;rw [if_neg (by rw [h1];simp),if_neg (by rw [h2];simp)],if_pos rfl,if_pos rfl]
     generalize placeC w c.a c.b = K at *
     generalize placeI c.a c.b = I at *
     refine Ev1.of_fin cfg_ok Tryz.func68 rfl (nt:=53) rfl rfl rfl ?_
     ((try with_reducible refine evCut fun N hN hE hT=>?_);(conv=>whnf))
     repeat' (first|exact trivial|((first|((first|refine hT _ _ ?_|refine hE _ _ _ ?_|refine hN _ _ ?_);clear hN hE hT)|refine kL ?_|(refine ⟨fun hb=>?_,fun hb=>?_⟩<;>(try simp only [nrm] at hb)<;>(try (first|(exfalso;omega)|contradiction|exact kB hb)))|refine kR hth [(0,0)] rfl ?_|refine kS hth [(0,0)] rfl ?_|refine kR hne [(0,0)] rfl ?_|refine kS hne [(0,0)] rfl ?_|refine kR hpl [(0,0)] rfl ?_|refine kS hpl [(0,0)] rfl ?_|refine kW cfg_ok ?_|refine kC ?_|refine bdA ?_|refine bd2 ?_|refine bdR ?_|refine bdL ?_)<;>((try with_reducible refine evCut fun N hN hE hT=>?_);(conv=>whnf)))|(refine And.intro ?_ ?_;rotate_left;(conv=>whnf);rotate_right))
     all_goals first|rfl|omega|trace_state
open Go Go.RowKit Eng
abbrev aftO (w : Wld) : Mem:=[(0,.box [i64 w.size,.lit (.int .u64 w.seed),i64 w.tick,.vec .chunk w.chunks,.vec .player w.players,.top,.top,.top,.top,.top,.top,.top,.top,.top,.top,.top,.top])]
abbrev aftE : Mem:=[(0,.box [.top,.top,.top,.top,.top,.top,.top,.top,.top,.top,.top,.top,.top,.top,.top,.top,.top])]
def aftM (r : Wld × Int) : Mem:=if r.2 = 0 then aftO r.1 else aftE
theorem aftM_ok {r : Wld × Int} (h : r.2 = 0) : aftM r = aftO r.1:=if_pos h
theorem aftM_err {r : Wld × Int} (h : ¬ r.2 = 0) : aftM r = aftE:=if_neg h
theorem aftE_of {w : Wld} {e : Int} (h : ¬ e = 0) : aftM (w,e) = aftE:=if_neg h
theorem stay_ev (w : Wld) (p : Player) (c : Cmd) (hw : OkW w) (hp : OkP p) : Ev1 Tryz.prog 67 [.ptr 0 0] (actM w p c) (i64 (setW w p).2) (aftM (setW w p)):=by
 have hs:=set_world w p hw hp
 generalize setW w p = R at *
 by_cases hz : R.2 = 0
 · rw [aftM_ok hz]
   rw [hz] at hs ⊢
   refine Ev1.of_fin cfg_ok Tryz.func67 rfl (nt:=23) rfl rfl rfl ?_
   ((try with_reducible refine evCut fun N hN hE hT=>?_);(conv=>whnf))
   repeat' (first|exact trivial|((first|((first|refine hT _ _ ?_|refine hE _ _ _ ?_|refine hN _ _ ?_);clear hN hE hT)|refine kL ?_|(refine ⟨fun hb=>?_,fun hb=>?_⟩<;>(try simp only [nrm] at hb)<;>(try (first|(exfalso;omega)|contradiction|exact kB hb)))|refine kA hs ?_|refine kD hs ?_|refine kW cfg_ok ?_|refine kC ?_|refine bdA ?_|refine bd2 ?_|refine bdR ?_|refine bdL ?_)<;>((try with_reducible refine evCut fun N hN hE hT=>?_);(conv=>whnf)))|(refine And.intro ?_ ?_;rotate_left;(conv=>whnf);rotate_right))
   all_goals first|rfl|omega|trace_state
 · rw [aftM_err hz]
   refine Ev1.of_fin cfg_ok Tryz.func67 rfl (nt:=23) rfl rfl rfl ?_
   ((try with_reducible refine evCut fun N hN hE hT=>?_);(conv=>whnf))
   repeat' (first|exact trivial|((first|((first|refine hT _ _ ?_|refine hE _ _ _ ?_|refine hN _ _ ?_);clear hN hE hT)|refine kL ?_|(refine ⟨fun hb=>?_,fun hb=>?_⟩<;>(try simp only [nrm] at hb)<;>(try (first|(exfalso;omega)|contradiction|exact kB hb)))|refine kA hs ?_|refine kD hs ?_|refine kW cfg_ok ?_|refine kC ?_|refine bdA ?_|refine bd2 ?_|refine bdR ?_|refine bdL ?_)<;>((try with_reducible refine evCut fun N hN hE hT=>?_);(conv=>whnf)))|(refine And.intro ?_ ?_;rotate_left;(conv=>whnf);rotate_right))
   all_goals first|rfl|omega|trace_state
theorem keep_ev (w : Wld) (p : Player) (c : Cmd) (k : Chunk) (hw : OkW w) (hp : OkP p) (hk : OkC k) (hf : FitC k) : Ev1 Tryz.prog 72 [.ptr 0 0,chunkV k] (actM w p c) (i64 (keepA w k p).2) (aftM (keepA w k p)):=by
 have hp1:=worldPut_api w k hw hk hf
 have hst:=stay_ev (putW w k).1 p c (okW_put hw hk hf) hp
 unfold keepA
 by_cases h1 : (putW w k).2 = 0
 · rw [if_neg (not_not_intro h1)]
   rw [h1] at hp1
   generalize setW (putW w k).1 p = R at *
   generalize (putW w k).1 = U at *
   by_cases hz : R.2 = 0
   · rw [aftM_ok hz] at hst ⊢
     rw [hz] at hst ⊢
     refine Ev1.of_fin cfg_ok Tryz.func72 rfl (nt:=23) rfl rfl rfl ?_
     ((try with_reducible refine evCut fun N hN hE hT=>?_);(conv=>whnf))
     repeat' (first|exact trivial|((first|((first|refine hT _ _ ?_|refine hE _ _ _ ?_|refine hN _ _ ?_);clear hN hE hT)|refine kL ?_|(refine ⟨fun hb=>?_,fun hb=>?_⟩<;>(try simp only [nrm] at hb)<;>(try (first|(exfalso;omega)|contradiction|exact kB hb)))|refine kE hst [(0,0)] rfl ?_|refine kF hst [(0,0)] rfl ?_|refine kA hp1 ?_|refine kD hp1 ?_|refine kW cfg_ok ?_|refine kC ?_|refine bdA ?_|refine bd2 ?_|refine bdR ?_|refine bdL ?_)<;>((try with_reducible refine evCut fun N hN hE hT=>?_);(conv=>whnf)))|(refine And.intro ?_ ?_;rotate_left;(conv=>whnf);rotate_right))
     all_goals first|rfl|omega|trace_state
   · rw [aftM_err hz] at hst ⊢
     refine Ev1.of_fin cfg_ok Tryz.func72 rfl (nt:=23) rfl rfl rfl ?_
     ((try with_reducible refine evCut fun N hN hE hT=>?_);(conv=>whnf))
     repeat' (first|exact trivial|((first|((first|refine hT _ _ ?_|refine hE _ _ _ ?_|refine hN _ _ ?_);clear hN hE hT)|refine kL ?_|(refine ⟨fun hb=>?_,fun hb=>?_⟩<;>(try simp only [nrm] at hb)<;>(try (first|(exfalso;omega)|contradiction|exact kB hb)))|refine kE hst [(0,0)] rfl ?_|refine kF hst [(0,0)] rfl ?_|refine kA hp1 ?_|refine kD hp1 ?_|refine kW cfg_ok ?_|refine kC ?_|refine bdA ?_|refine bd2 ?_|refine bdR ?_|refine bdL ?_)<;>((try with_reducible refine evCut fun N hN hE hT=>?_);(conv=>whnf)))|(refine And.intro ?_ ?_;rotate_left;(conv=>whnf);rotate_right))
     all_goals first|rfl|omega|trace_state
 · rw [if_pos h1,aftE_of h1]
   generalize putW w k = U at *
   refine Ev1.of_fin cfg_ok Tryz.func72 rfl (nt:=23) rfl rfl rfl ?_
   ((try with_reducible refine evCut fun N hN hE hT=>?_);(conv=>whnf))
   repeat' (first|exact trivial|((first|((first|refine hT _ _ ?_|refine hE _ _ _ ?_|refine hN _ _ ?_);clear hN hE hT)|refine kL ?_|(refine ⟨fun hb=>?_,fun hb=>?_⟩<;>(try simp only [nrm] at hb)<;>(try (first|(exfalso;omega)|contradiction|exact kB hb)))|refine kA hp1 ?_|refine kD hp1 ?_|refine kW cfg_ok ?_|refine kC ?_|refine bdA ?_|refine bd2 ?_|refine bdR ?_|refine bdL ?_)<;>((try with_reducible refine evCut fun N hN hE hT=>?_);(conv=>whnf)))|(refine And.intro ?_ ?_;rotate_left;(conv=>whnf);rotate_right))
   all_goals first|rfl|omega|trace_state
open Go Go.RowKit Eng
theorem breaks_ev (w : Wld) (p : Player) (c : Cmd) (hR : RW w) (hp : soundB p = true) (hi : withinW w.size p.x p.y = true) (ha : 0 ≤ c.a ∧ c.a ≤ 127) (hb1 : 0 ≤ c.b ∧ c.b ≤ 127) : Ev1 Tryz.prog 33 [.ptr 0 0] (actM w p c) (i64 (breakA w p c).2) (aftM (breakA w p c)):=by
 have hw:=okW_rw hR
 have hP:=okP_sound hp
 have hxy:=(within_iff hR).1 hi
 have hs:=hR.size
 have hai:=aim_ev w p c hw (by omega) (by omega) (by omega) ha hb1
 unfold breakA
 by_cases hA : aimE w p c.a c.b = 0
 · rw [if_pos hA,if_pos hA,hA] at hai
   rw [if_neg (not_not_intro hA)]
   have hK:=(place_right hR (aim_in hA).1).1
   have hI:=placeI_bd c.a c.b
   generalize placeC w c.a c.b = K at *
   generalize placeI c.a c.b = I at *
   have hlen:=right_len hK
   have hcell : 0 ≤ cellA K I ∧ cellA K I ≤ 12:=itemOk_bd ((right_fits hK).items _ (elt_mem (t:=.u8) (by omega)))
   have hgb:=givesI_bd (cellA K I) hcell.1 (by omega)
   have hset:=set_api K I 0 (okC_right hK) (fitC_right hK) (by omega) (by omega)
   have hK1:=right_setC hK (i:=0) hI.1 hI.2
   have hgi:=gives_api (cellA K I) hcell.1 (by omega)
   have hput:=put_api p.bag (givesI (cellA K I)) 1 (by have:=hP.nb;omega) hP.bag hgb.1 hgb.2 (by omega)
   have hB1:=putS_ok (l:=p.bag) (i:=givesI (cellA K I)) (n:=1) hP.bag hgb
   have hB2:=putS_length p.bag (givesI (cellA K I)) 1
   by_cases h0 : cellA K I = 0
   · rw [if_pos h0,aftE_of (e:=107) (by decide)]
     refine Ev1.of_fin cfg_ok Tryz.func33 rfl (nt:=54) rfl rfl rfl ?_
     ((try with_reducible refine evCut fun N hN hE hT=>?_);(conv=>whnf))
     repeat' (first|exact trivial|((first|((first|refine hT _ _ ?_|refine hE _ _ _ ?_|refine hN _ _ ?_);clear hN hE hT)|refine kL ?_|(refine ⟨fun hb=>?_,fun hb=>?_⟩<;>(try simp only [nrm] at hb)<;>(try (first|(exfalso;omega)|contradiction|exact kB hb)))|refine kR hai [(0,0)] rfl ?_|refine kS hai [(0,0)] rfl ?_|refine kW cfg_ok ?_|refine kC ?_|refine bdA ?_|refine bd2 ?_|refine bdR ?_|refine bdL ?_)<;>((try with_reducible refine evCut fun N hN hE hT=>?_);(conv=>whnf)))|(refine And.intro ?_ ?_;rotate_left;(conv=>whnf);rotate_right))
     all_goals first|rfl|omega|trace_state
   · rw [if_neg h0]
     generalize setC K I 0 = S at *
     generalize putS p.bag (givesI (cellA K I)) 1 = B at *
     obtain ⟨S1,S2⟩:=S
     obtain ⟨B1,B2⟩:=B
     dsimp only at *
     by_cases h2 : S2 = 0
     · subst h2
       rw [if_neg (not_not_intro rfl)]
       by_cases h3 : 0 < B2
       · rw [if_pos h3,aftE_of (e:=104) (by decide)]
         refine Ev1.of_fin cfg_ok Tryz.func33 rfl (nt:=54) rfl rfl rfl ?_
         ((try with_reducible refine evCut fun N hN hE hT=>?_);(conv=>whnf))
         repeat' (first|exact trivial|((first|((first|refine hT _ _ ?_|refine hE _ _ _ ?_|refine hN _ _ ?_);clear hN hE hT)|refine kL ?_|(refine ⟨fun hb=>?_,fun hb=>?_⟩<;>(try simp only [nrm] at hb)<;>(try (first|(exfalso;omega)|contradiction|exact kB hb)))|refine kR hai [(0,0)] rfl ?_|refine kS hai [(0,0)] rfl ?_|refine kA hset ?_|refine kD hset ?_|refine kA hgi ?_|refine kD hgi ?_|refine kA hput ?_|refine kD hput ?_|refine kW cfg_ok ?_|refine kC ?_|refine bdA ?_|refine bd2 ?_|refine bdR ?_|refine bdL ?_)<;>((try with_reducible refine evCut fun N hN hE hT=>?_);(conv=>whnf)))|(refine And.intro ?_ ?_;rotate_left;(conv=>whnf);rotate_right))
         all_goals first|rfl|omega|trace_state
       · rw [if_neg h3]
         have hke:=keep_ev w { p with bag:=B1 } c S1 hw (okP_bag hP hB1 (by have:=hP.nb;omega)) (okC_right hK1) (fitC_right hK1)
         generalize keepA w S1 { p with bag:=B1 } = R at *
         by_cases hz : R.2 = 0
         · rw [aftM_ok hz] at hke ⊢
           rw [hz] at hke ⊢
           refine Ev1.of_fin cfg_ok Tryz.func33 rfl (nt:=54) rfl rfl rfl ?_
           ((try with_reducible refine evCut fun N hN hE hT=>?_);(conv=>whnf))
           repeat' (first|exact trivial|((first|((first|refine hT _ _ ?_|refine hE _ _ _ ?_|refine hN _ _ ?_);clear hN hE hT)|refine kL ?_|(refine ⟨fun hb=>?_,fun hb=>?_⟩<;>(try simp only [nrm] at hb)<;>(try (first|(exfalso;omega)|contradiction|exact kB hb)))|refine kR hai [(0,0)] rfl ?_|refine kS hai [(0,0)] rfl ?_|refine kE hke [(0,0)] rfl ?_|refine kF hke [(0,0)] rfl ?_|refine kA hset ?_|refine kD hset ?_|refine kA hgi ?_|refine kD hgi ?_|refine kA hput ?_|refine kD hput ?_|refine kW cfg_ok ?_|refine kC ?_|refine bdA ?_|refine bd2 ?_|refine bdR ?_|refine bdL ?_)<;>((try with_reducible refine evCut fun N hN hE hT=>?_);(conv=>whnf)))|(refine And.intro ?_ ?_;rotate_left;(conv=>whnf);rotate_right))
           all_goals first|rfl|omega|trace_state
         · rw [aftM_err hz] at hke ⊢
           refine Ev1.of_fin cfg_ok Tryz.func33 rfl (nt:=54) rfl rfl rfl ?_
           ((try with_reducible refine evCut fun N hN hE hT=>?_);(conv=>whnf))
           repeat' (first|exact trivial|((first|((first|refine hT _ _ ?_|refine hE _ _ _ ?_|refine hN _ _ ?_);clear hN hE hT)|refine kL ?_|(refine ⟨fun hb=>?_,fun hb=>?_⟩<;>(try simp only [nrm] at hb)<;>(try (first|(exfalso;omega)|contradiction|exact kB hb)))|refine kR hai [(0,0)] rfl ?_|refine kS hai [(0,0)] rfl ?_|refine kE hke [(0,0)] rfl ?_|refine kF hke [(0,0)] rfl ?_|refine kA hset ?_|refine kD hset ?_|refine kA hgi ?_|refine kD hgi ?_|refine kA hput ?_|refine kD hput ?_|refine kW cfg_ok ?_|refine kC ?_|refine bdA ?_|refine bd2 ?_|refine bdR ?_|refine bdL ?_)<;>((try with_reducible refine evCut fun N hN hE hT=>?_);(conv=>whnf)))|(refine And.intro ?_ ?_;rotate_left;(conv=>whnf);rotate_right))
           all_goals first|rfl|omega|trace_state
     · rw [if_pos h2,aftE_of h2]
       refine Ev1.of_fin cfg_ok Tryz.func33 rfl (nt:=54) rfl rfl rfl ?_
       ((try with_reducible refine evCut fun N hN hE hT=>?_);(conv=>whnf))
       repeat' (first|exact trivial|((first|((first|refine hT _ _ ?_|refine hE _ _ _ ?_|refine hN _ _ ?_);clear hN hE hT)|refine kL ?_|(refine ⟨fun hb=>?_,fun hb=>?_⟩<;>(try simp only [nrm] at hb)<;>(try (first|(exfalso;omega)|contradiction|exact kB hb)))|refine kR hai [(0,0)] rfl ?_|refine kS hai [(0,0)] rfl ?_|refine kA hset ?_|refine kD hset ?_|refine kA hgi ?_|refine kD hgi ?_|refine kA hput ?_|refine kD hput ?_|refine kW cfg_ok ?_|refine kC ?_|refine bdA ?_|refine bd2 ?_|refine bdR ?_|refine bdL ?_)<;>((try with_reducible refine evCut fun N hN hE hT=>?_);(conv=>whnf)))|(refine And.intro ?_ ?_;rotate_left;(conv=>whnf);rotate_right))
       all_goals first|rfl|omega|trace_state
 · rw [if_neg hA,if_neg hA] at hai
   rw [if_pos hA,aftE_of hA]
   generalize aimE w p c.a c.b = E at *
   refine Ev1.of_fin cfg_ok Tryz.func33 rfl (nt:=54) rfl rfl rfl ?_
   ((try with_reducible refine evCut fun N hN hE hT=>?_);(conv=>whnf))
   repeat' (first|exact trivial|((first|((first|refine hT _ _ ?_|refine hE _ _ _ ?_|refine hN _ _ ?_);clear hN hE hT)|refine kL ?_|(refine ⟨fun hb=>?_,fun hb=>?_⟩<;>(try simp only [nrm] at hb)<;>(try (first|(exfalso;omega)|contradiction|exact kB hb)))|refine kR hai [(0,0)] rfl ?_|refine kS hai [(0,0)] rfl ?_|refine kW cfg_ok ?_|refine kC ?_|refine bdA ?_|refine bd2 ?_|refine bdR ?_|refine bdL ?_)<;>((try with_reducible refine evCut fun N hN hE hT=>?_);(conv=>whnf)))|(refine And.intro ?_ ?_;rotate_left;(conv=>whnf);rotate_right))
   all_goals first|rfl|omega|trace_state
theorem drop_ev (w : Wld) (p : Player) (c : Cmd) (hR : RW w) (hp : soundB p = true) (hi : withinW w.size p.x p.y = true) : Ev1 Tryz.prog 36 [.ptr 0 0] (actM w p c) (i64 (dropA w p c).2) (aftM (dropA w p c)):=by
 have hw:=okW_rw hR
 have hP:=okP_sound hp
 have hxy:=(within_iff hR).1 hi
 have hs:=hR.size
 have hpl:=place_ev w p c p.x p.y hw (by omega) (by omega)
 have htk:=take_api p.bag c.c c.n (by have:=hP.nb;omega) hP.bag
 have hT:=takeS_ok (a:=c.c) (n:=c.n) hP.bag
 have hTl:=takeS_len p.bag c.c c.n
 have hK:=(place_right hR hi).1
 have hI:=placeI_bd p.x p.y
 unfold dropA
 generalize placeC w p.x p.y = K at *
 generalize placeI p.x p.y = I at *
 generalize takeS p.bag c.c c.n = T at *
 obtain ⟨T1,T2,T3⟩:=T
 dsimp only at *
 have hdr:=drop_api K I T2 (okC_right hK) (fitC_right hK) hT.1
 have hK1:=drop_right hK (s:=T2) hI
 generalize dropC K I T2 = S at *
 obtain ⟨S1,S2⟩:=S
 dsimp only at *
 by_cases h1 : T3 = 0
 · subst h1
   rw [if_neg (not_not_intro rfl)]
   by_cases h2 : S2 = 0
   · subst h2
     rw [if_neg (not_not_intro rfl)]
     have hke:=keep_ev w { p with bag:=T1 } c S1 hw (okP_bag hP hT.2 (by have:=hP.nb;omega)) (okC_right hK1) (fitC_right hK1)
     generalize keepA w S1 { p with bag:=T1 } = R at *
     by_cases hz : R.2 = 0
     · rw [aftM_ok hz] at hke ⊢
       rw [hz] at hke ⊢
       refine Ev1.of_fin cfg_ok Tryz.func36 rfl (nt:=63) rfl rfl rfl ?_
       ((try with_reducible refine evCut fun N hN hE hT=>?_);(conv=>whnf))
       repeat' (first|exact trivial|((first|((first|refine hT _ _ ?_|refine hE _ _ _ ?_|refine hN _ _ ?_);clear hN hE hT)|refine kL ?_|(refine ⟨fun hb=>?_,fun hb=>?_⟩<;>(try simp only [nrm] at hb)<;>(try (first|(exfalso;omega)|contradiction|exact kB hb)))|refine kR hpl [(0,0)] rfl ?_|refine kS hpl [(0,0)] rfl ?_|refine kE hke [(0,0)] rfl ?_|refine kF hke [(0,0)] rfl ?_|refine kA htk ?_|refine kD htk ?_|refine kA hdr ?_|refine kD hdr ?_|refine kW cfg_ok ?_|refine kC ?_|refine bdA ?_|refine bd2 ?_|refine bdR ?_|refine bdL ?_)<;>((try with_reducible refine evCut fun N hN hE hT=>?_);(conv=>whnf)))|(refine And.intro ?_ ?_;rotate_left;(conv=>whnf);rotate_right))
       all_goals first|rfl|omega|trace_state
     · rw [aftM_err hz] at hke ⊢
       refine Ev1.of_fin cfg_ok Tryz.func36 rfl (nt:=63) rfl rfl rfl ?_
       ((try with_reducible refine evCut fun N hN hE hT=>?_);(conv=>whnf))
       repeat' (first|exact trivial|((first|((first|refine hT _ _ ?_|refine hE _ _ _ ?_|refine hN _ _ ?_);clear hN hE hT)|refine kL ?_|(refine ⟨fun hb=>?_,fun hb=>?_⟩<;>(try simp only [nrm] at hb)<;>(try (first|(exfalso;omega)|contradiction|exact kB hb)))|refine kR hpl [(0,0)] rfl ?_|refine kS hpl [(0,0)] rfl ?_|refine kE hke [(0,0)] rfl ?_|refine kF hke [(0,0)] rfl ?_|refine kA htk ?_|refine kD htk ?_|refine kA hdr ?_|refine kD hdr ?_|refine kW cfg_ok ?_|refine kC ?_|refine bdA ?_|refine bd2 ?_|refine bdR ?_|refine bdL ?_)<;>((try with_reducible refine evCut fun N hN hE hT=>?_);(conv=>whnf)))|(refine And.intro ?_ ?_;rotate_left;(conv=>whnf);rotate_right))
       all_goals first|rfl|omega|trace_state
   · rw [if_pos h2,aftE_of h2]
     refine Ev1.of_fin cfg_ok Tryz.func36 rfl (nt:=63) rfl rfl rfl ?_
     ((try with_reducible refine evCut fun N hN hE hT=>?_);(conv=>whnf))
     repeat' (first|exact trivial|((first|((first|refine hT _ _ ?_|refine hE _ _ _ ?_|refine hN _ _ ?_);clear hN hE hT)|refine kL ?_|(refine ⟨fun hb=>?_,fun hb=>?_⟩<;>(try simp only [nrm] at hb)<;>(try (first|(exfalso;omega)|contradiction|exact kB hb)))|refine kR hpl [(0,0)] rfl ?_|refine kS hpl [(0,0)] rfl ?_|refine kA htk ?_|refine kD htk ?_|refine kA hdr ?_|refine kD hdr ?_|refine kW cfg_ok ?_|refine kC ?_|refine bdA ?_|refine bd2 ?_|refine bdR ?_|refine bdL ?_)<;>((try with_reducible refine evCut fun N hN hE hT=>?_);(conv=>whnf)))|(refine And.intro ?_ ?_;rotate_left;(conv=>whnf);rotate_right))
     all_goals first|rfl|omega|trace_state
 · rw [if_pos h1,aftE_of h1]
   refine Ev1.of_fin cfg_ok Tryz.func36 rfl (nt:=63) rfl rfl rfl ?_
   ((try with_reducible refine evCut fun N hN hE hT=>?_);(conv=>whnf))
   repeat' (first|exact trivial|((first|((first|refine hT _ _ ?_|refine hE _ _ _ ?_|refine hN _ _ ?_);clear hN hE hT)|refine kL ?_|(refine ⟨fun hb=>?_,fun hb=>?_⟩<;>(try simp only [nrm] at hb)<;>(try (first|(exfalso;omega)|contradiction|exact kB hb)))|refine kA htk ?_|refine kD htk ?_|refine kW cfg_ok ?_|refine kC ?_|refine bdA ?_|refine bd2 ?_|refine bdR ?_|refine bdL ?_)<;>((try with_reducible refine evCut fun N hN hE hT=>?_);(conv=>whnf)))|(refine And.intro ?_ ?_;rotate_left;(conv=>whnf);rotate_right))
   all_goals first|rfl|omega|trace_state
theorem move_ev (w : Wld) (p : Player) (c : Cmd) (hR : RW w) (hp : soundB p = true) (hi : withinW w.size p.x p.y = true) (ha : -1 ≤ c.a ∧ c.a ≤ 1) (hb1 : -1 ≤ c.b ∧ c.b ≤ 1) : Ev1 Tryz.prog 32 [.ptr 0 0] (actM w p c) (i64 (moveA w p c).2) (aftM (moveA w p c)):=by
 have hw:=okW_rw hR
 have hP:=okP_sound hp
 have hxy:=(within_iff hR).1 hi
 have hs:=hR.size
 have hth:=there_ev w p c (p.x + c.a) (p.y + c.b) (by omega)
 have hat:=at_api w (p.x + c.a) (p.y + c.b) hw (by omega) (by omega)
 have hst:=stay_ev w { p with x:=p.x + c.a,y:=p.y + c.b } c hw ⟨hP.bag,hP.offer,hP.nb,hP.no⟩
 unfold moveA
 generalize setW w { p with x:=p.x + c.a,y:=p.y + c.b } = R at *
 generalize atW w (p.x + c.a) (p.y + c.b) = B at *
 obtain ⟨B1,B2⟩:=B
 dsimp only at *
 cases h1 : withinW w.size (p.x + c.a) (p.y + c.b) with
 | false =>
   rw [h1] at hth
   rw [if_pos rfl,aftE_of (e:=102) (by decide)]
   refine Ev1.of_fin cfg_ok Tryz.func32 rfl (nt:=57) rfl rfl rfl ?_
   ((try with_reducible refine evCut fun N hN hE hT=>?_);(conv=>whnf))
   repeat' (first|exact trivial|((first|((first|refine hT _ _ ?_|refine hE _ _ _ ?_|refine hN _ _ ?_);clear hN hE hT)|refine kL ?_|(refine ⟨fun hb=>?_,fun hb=>?_⟩<;>(try simp only [nrm] at hb)<;>(try (first|(exfalso;omega)|contradiction|exact kB hb)))|refine kR hth [(0,0)] rfl ?_|refine kS hth [(0,0)] rfl ?_|refine kA hat ?_|refine kD hat ?_|refine kW cfg_ok ?_|refine kC ?_|refine bdA ?_|refine bd2 ?_|refine bdR ?_|refine bdL ?_)<;>((try with_reducible refine evCut fun N hN hE hT=>?_);(conv=>whnf)))|(refine And.intro ?_ ?_;rotate_left;(conv=>whnf);rotate_right))
   all_goals first|rfl|omega|trace_state
 | true =>
   rw [h1] at hth
   rw [if_neg (by simp)]
   by_cases h2 : B1 = 0
   · subst h2
     rw [if_neg (not_not_intro rfl)]
     by_cases hz : R.2 = 0
     · rw [aftM_ok hz] at hst ⊢
       rw [hz] at hst ⊢
       refine Ev1.of_fin cfg_ok Tryz.func32 rfl (nt:=57) rfl rfl rfl ?_
       ((try with_reducible refine evCut fun N hN hE hT=>?_);(conv=>whnf))
       repeat' (first|exact trivial|((first|((first|refine hT _ _ ?_|refine hE _ _ _ ?_|refine hN _ _ ?_);clear hN hE hT)|refine kL ?_|(refine ⟨fun hb=>?_,fun hb=>?_⟩<;>(try simp only [nrm] at hb)<;>(try (first|(exfalso;omega)|contradiction|exact kB hb)))|refine kR hth [(0,0)] rfl ?_|refine kS hth [(0,0)] rfl ?_|refine kE hst [(0,0)] rfl ?_|refine kF hst [(0,0)] rfl ?_|refine kA hat ?_|refine kD hat ?_|refine kW cfg_ok ?_|refine kC ?_|refine bdA ?_|refine bd2 ?_|refine bdR ?_|refine bdL ?_)<;>((try with_reducible refine evCut fun N hN hE hT=>?_);(conv=>whnf)))|(refine And.intro ?_ ?_;rotate_left;(conv=>whnf);rotate_right))
       all_goals first|rfl|omega|trace_state
     · rw [aftM_err hz] at hst ⊢
       refine Ev1.of_fin cfg_ok Tryz.func32 rfl (nt:=57) rfl rfl rfl ?_
       ((try with_reducible refine evCut fun N hN hE hT=>?_);(conv=>whnf))
       repeat' (first|exact trivial|((first|((first|refine hT _ _ ?_|refine hE _ _ _ ?_|refine hN _ _ ?_);clear hN hE hT)|refine kL ?_|(refine ⟨fun hb=>?_,fun hb=>?_⟩<;>(try simp only [nrm] at hb)<;>(try (first|(exfalso;omega)|contradiction|exact kB hb)))|refine kR hth [(0,0)] rfl ?_|refine kS hth [(0,0)] rfl ?_|refine kE hst [(0,0)] rfl ?_|refine kF hst [(0,0)] rfl ?_|refine kA hat ?_|refine kD hat ?_|refine kW cfg_ok ?_|refine kC ?_|refine bdA ?_|refine bd2 ?_|refine bdR ?_|refine bdL ?_)<;>((try with_reducible refine evCut fun N hN hE hT=>?_);(conv=>whnf)))|(refine And.intro ?_ ?_;rotate_left;(conv=>whnf);rotate_right))
       all_goals first|rfl|omega|trace_state
   · rw [if_pos h2,aftE_of (e:=107) (by decide)]
     refine Ev1.of_fin cfg_ok Tryz.func32 rfl (nt:=57) rfl rfl rfl ?_
     ((try with_reducible refine evCut fun N hN hE hT=>?_);(conv=>whnf))
     repeat' (first|exact trivial|((first|((first|refine hT _ _ ?_|refine hE _ _ _ ?_|refine hN _ _ ?_);clear hN hE hT)|refine kL ?_|(refine ⟨fun hb=>?_,fun hb=>?_⟩<;>(try simp only [nrm] at hb)<;>(try (first|(exfalso;omega)|contradiction|exact kB hb)))|refine kR hth [(0,0)] rfl ?_|refine kS hth [(0,0)] rfl ?_|refine kA hat ?_|refine kD hat ?_|refine kW cfg_ok ?_|refine kC ?_|refine bdA ?_|refine bd2 ?_|refine bdR ?_|refine bdL ?_)<;>((try with_reducible refine evCut fun N hN hE hT=>?_);(conv=>whnf)))|(refine And.intro ?_ ?_;rotate_left;(conv=>whnf);rotate_right))
     all_goals first|rfl|omega|trace_state
open Go Go.RowKit Eng
theorem moved_api (l m : List (El .slot)) (a n : Int) (hl : l.length * 16 ≤ 140737488351232) (hw : ∀ s ∈ l,okSlot s) (hm : m.length * 16 ≤ 140737488351232) (hv : ∀ s ∈ m,okSlot s) : Api Tryz.prog 79 [.vec .slot l,.vec .slot m,i64 a,i64 n] (.tup [.vec .slot (movedA l m a n).1,.vec .slot (movedA l m a n).2.1,i64 (movedA l m a n).2.2]):=by
 have htk:=take_api l a n (by omega) hw
 have hT:=takeS_ok (a:=a) (n:=n) hw
 have htn:=takeS_n (l:=l) (a:=a) (n:=n)
 unfold movedA
 by_cases h1 : (takeS l a n).2.2 = 0
 · rw [if_neg (not_not_intro h1)]
   obtain ⟨n1,n2,n3,_⟩:=htn h1
   have hpu:=put_api m (takeS l a n).2.1.item (takeS l a n).2.1.n (by omega) hv hT.1.1 hT.1.2 (by omega)
   rw [h1] at htk
   generalize putS m (takeS l a n).2.1.item (takeS l a n).2.1.n = B at *
   generalize takeS l a n = T at *
   obtain ⟨T1,T2,T3⟩:=T
   obtain ⟨B1,B2⟩:=B
   dsimp only at *
   by_cases h2 : 0 < B2
   · rw [if_pos h2]
     refine Api.of_fin cfg_ok Tryz.func79 rfl (nt:=34) rfl rfl ?_
     ((try with_reducible refine evCut fun N hN hE hT=>?_);(conv=>whnf))
     repeat' (first|exact trivial|((first|((first|refine hT _ _ ?_|refine hE _ _ _ ?_|refine hN _ _ ?_);clear hN hE hT)|refine kL ?_|(refine ⟨fun hb=>?_,fun hb=>?_⟩<;>(try simp only [nrm] at hb)<;>(try (first|(exfalso;omega)|contradiction|exact kB hb)))|refine kA htk ?_|refine kD htk ?_|refine kA hpu ?_|refine kD hpu ?_|refine kW cfg_ok ?_|refine kC ?_|refine bdA ?_|refine bd2 ?_|refine bdR ?_|refine bdL ?_)<;>((try with_reducible refine evCut fun N hN hE hT=>?_);(conv=>whnf)))|(refine And.intro ?_ ?_;rotate_left;(conv=>whnf);rotate_right))
     all_goals first|rfl|omega|trace_state
   · rw [if_neg h2]
     refine Api.of_fin cfg_ok Tryz.func79 rfl (nt:=34) rfl rfl ?_
     ((try with_reducible refine evCut fun N hN hE hT=>?_);(conv=>whnf))
     repeat' (first|exact trivial|((first|((first|refine hT _ _ ?_|refine hE _ _ _ ?_|refine hN _ _ ?_);clear hN hE hT)|refine kL ?_|(refine ⟨fun hb=>?_,fun hb=>?_⟩<;>(try simp only [nrm] at hb)<;>(try (first|(exfalso;omega)|contradiction|exact kB hb)))|refine kA htk ?_|refine kD htk ?_|refine kA hpu ?_|refine kD hpu ?_|refine kW cfg_ok ?_|refine kC ?_|refine bdA ?_|refine bd2 ?_|refine bdR ?_|refine bdL ?_)<;>((try with_reducible refine evCut fun N hN hE hT=>?_);(conv=>whnf)))|(refine And.intro ?_ ?_;rotate_left;(conv=>whnf);rotate_right))
     all_goals first|rfl|omega|trace_state
 · rw [if_pos h1]
   generalize takeS l a n = T at *
   obtain ⟨T1,T2,T3⟩:=T
   dsimp only at *
   refine Api.of_fin cfg_ok Tryz.func79 rfl (nt:=34) rfl rfl ?_
   ((try with_reducible refine evCut fun N hN hE hT=>?_);(conv=>whnf))
   repeat' (first|exact trivial|((first|((first|refine hT _ _ ?_|refine hE _ _ _ ?_|refine hN _ _ ?_);clear hN hE hT)|refine kL ?_|(refine ⟨fun hb=>?_,fun hb=>?_⟩<;>(try simp only [nrm] at hb)<;>(try (first|(exfalso;omega)|contradiction|exact kB hb)))|refine kA htk ?_|refine kD htk ?_|refine kW cfg_ok ?_|refine kC ?_|refine bdA ?_|refine bd2 ?_|refine bdR ?_|refine bdL ?_)<;>((try with_reducible refine evCut fun N hN hE hT=>?_);(conv=>whnf)))|(refine And.intro ?_ ?_;rotate_left;(conv=>whnf);rotate_right))
   all_goals first|rfl|omega|trace_state
theorem movedA_ok {l m : List Slot} {a n : Int} (hl : ∀ s ∈ l,okSlot s) (hm : ∀ s ∈ m,okSlot s) : (∀ s ∈ (movedA l m a n).1,okSlot s) ∧ (∀ s ∈ (movedA l m a n).2.1,okSlot s):=by
 have hT:=takeS_ok (a:=a) (n:=n) hl
 unfold movedA
 split
 · exact ⟨by simp,by simp⟩
 · split
   · exact ⟨by simp,by simp⟩
   · exact ⟨hT.2,putS_ok hm hT.1⟩
theorem movedA_len {l m : List Slot} {a n : Int} : (movedA l m a n).1.length ≤ l.length ∧ (movedA l m a n).2.1.length ≤ m.length:=by
 unfold movedA
 split
 · simp
 · split
   · simp
   · exact ⟨by rw [takeS_len];exact Nat.le_refl _,by rw [putS_length];exact Nat.le_refl _⟩
theorem store_ev (w : Wld) (p : Player) (c : Cmd) (hR : RW w) (hp : soundB p = true) (hi : withinW w.size p.x p.y = true) (ha : 0 ≤ c.a ∧ c.a ≤ 127) (hb1 : 0 ≤ c.b ∧ c.b ≤ 127) : Ev1 Tryz.prog 37 [.ptr 0 0] (actM w p c) (i64 (storeA w p c).2) (aftM (storeA w p c)):=by
 have hw:=okW_rw hR
 have hP:=okP_sound hp
 have hxy:=(within_iff hR).1 hi
 have hs:=hR.size
 have hai:=aim_ev w p c hw (by omega) (by omega) (by omega) ha hb1
 unfold storeA
 by_cases hA : aimE w p c.a c.b = 0
 · rw [if_pos hA,if_pos hA,hA] at hai
   rw [if_neg (not_not_intro hA)]
   have hK:=(place_right hR (aim_in hA).1).1
   have hI:=placeI_bd c.a c.b
   generalize placeC w c.a c.b = K at *
   generalize placeI c.a c.b = I at *
   have hbx:=box_api K I (okC_right hK) (fitC_right hK)
   cases hB : (boxC K I).2 with
   | false =>
     rw [if_pos rfl,aftE_of (e:=107) (by decide)]
     rw [hB] at hbx
     refine Ev1.of_fin cfg_ok Tryz.func37 rfl (nt:=96) rfl rfl rfl ?_
     ((try with_reducible refine evCut fun N hN hE hT=>?_);(conv=>whnf))
     repeat' (first|exact trivial|((first|((first|refine hT _ _ ?_|refine hE _ _ _ ?_|refine hN _ _ ?_);clear hN hE hT)|refine kL ?_|(refine ⟨fun hb=>?_,fun hb=>?_⟩<;>(try simp only [nrm] at hb)<;>(try (first|(exfalso;omega)|contradiction|exact kB hb)))|refine kR hai [(0,0)] rfl ?_|refine kS hai [(0,0)] rfl ?_|refine kA hbx ?_|refine kD hbx ?_|refine kW cfg_ok ?_|refine kC ?_|refine bdA ?_|refine bd2 ?_|refine bdR ?_|refine bdL ?_)<;>((try with_reducible refine evCut fun N hN hE hT=>?_);(conv=>whnf)))|(refine And.intro ?_ ?_;rotate_left;(conv=>whnf);rotate_right))
     all_goals first|rfl|omega|trace_state
   | true =>
     rw [if_neg (by simp)]
     rw [hB] at hbx
     obtain ⟨hx1,hx2⟩:=box_right hK hB
     have hx3:=bagOk_okSlot hx2
     generalize (boxC K I).1 = X at *
     dsimp only
     by_cases hd : c.dol = 7
     · rw [if_pos hd,if_pos hd,if_pos hd]
       have hmv:=moved_api p.bag X c.c c.n hP.nb hP.bag (by omega) hx3
       have hM1:=movedA_ok (a:=c.c) (n:=c.n) hP.bag hx3
       have hM2:=movedA_len (l:=p.bag) (m:=X) (a:=c.c) (n:=c.n)
       generalize movedA p.bag X c.c c.n = M at *
       obtain ⟨M1,M2,M3⟩:=M
       dsimp only at *
       by_cases h3 : M3 = 0
       · subst h3
         rw [if_neg (not_not_intro rfl)]
         have hfi:=fill_api K I M2 (okC_right hK) (fitC_right hK) (by omega) hM1.2
         have hK1:=fill_right hK I M2
         generalize fillC K I M2 = S at *
         obtain ⟨S1,S2⟩:=S
         dsimp only at *
         by_cases h2 : S2 = 0
         · subst h2
           rw [if_neg (not_not_intro rfl)]
           have hke:=keep_ev w { p with bag:=M1 } c S1 hw (okP_bag hP hM1.1 (by have:=hP.nb;omega)) (okC_right hK1) (fitC_right hK1)
           generalize keepA w S1 { p with bag:=M1 } = R at *
           by_cases hz : R.2 = 0
           · rw [aftM_ok hz] at hke ⊢
             rw [hz] at hke ⊢
             refine Ev1.of_fin cfg_ok Tryz.func37 rfl (nt:=96) rfl rfl rfl ?_
             ((try with_reducible refine evCut fun N hN hE hT=>?_);(conv=>whnf))
             repeat' (first|exact trivial|((first|((first|refine hT _ _ ?_|refine hE _ _ _ ?_|refine hN _ _ ?_);clear hN hE hT)|refine kL ?_|(refine ⟨fun hb=>?_,fun hb=>?_⟩<;>(try simp only [nrm] at hb)<;>(try (first|(exfalso;omega)|contradiction|exact kB hb)))|refine kR hai [(0,0)] rfl ?_|refine kS hai [(0,0)] rfl ?_|refine kE hke [(0,0)] rfl ?_|refine kF hke [(0,0)] rfl ?_|refine kA hbx ?_|refine kD hbx ?_|refine kA hmv ?_|refine kD hmv ?_|refine kA hfi ?_|refine kD hfi ?_|refine kW cfg_ok ?_|refine kC ?_|refine bdA ?_|refine bd2 ?_|refine bdR ?_|refine bdL ?_)<;>((try with_reducible refine evCut fun N hN hE hT=>?_);(conv=>whnf)))|(refine And.intro ?_ ?_;rotate_left;(conv=>whnf);rotate_right))
             all_goals first|rfl|omega|trace_state
           · rw [aftM_err hz] at hke ⊢
             refine Ev1.of_fin cfg_ok Tryz.func37 rfl (nt:=96) rfl rfl rfl ?_
             ((try with_reducible refine evCut fun N hN hE hT=>?_);(conv=>whnf))
             repeat' (first|exact trivial|((first|((first|refine hT _ _ ?_|refine hE _ _ _ ?_|refine hN _ _ ?_);clear hN hE hT)|refine kL ?_|(refine ⟨fun hb=>?_,fun hb=>?_⟩<;>(try simp only [nrm] at hb)<;>(try (first|(exfalso;omega)|contradiction|exact kB hb)))|refine kR hai [(0,0)] rfl ?_|refine kS hai [(0,0)] rfl ?_|refine kE hke [(0,0)] rfl ?_|refine kF hke [(0,0)] rfl ?_|refine kA hbx ?_|refine kD hbx ?_|refine kA hmv ?_|refine kD hmv ?_|refine kA hfi ?_|refine kD hfi ?_|refine kW cfg_ok ?_|refine kC ?_|refine bdA ?_|refine bd2 ?_|refine bdR ?_|refine bdL ?_)<;>((try with_reducible refine evCut fun N hN hE hT=>?_);(conv=>whnf)))|(refine And.intro ?_ ?_;rotate_left;(conv=>whnf);rotate_right))
             all_goals first|rfl|omega|trace_state
         · rw [if_pos h2,aftE_of h2]
           refine Ev1.of_fin cfg_ok Tryz.func37 rfl (nt:=96) rfl rfl rfl ?_
           ((try with_reducible refine evCut fun N hN hE hT=>?_);(conv=>whnf))
           repeat' (first|exact trivial|((first|((first|refine hT _ _ ?_|refine hE _ _ _ ?_|refine hN _ _ ?_);clear hN hE hT)|refine kL ?_|(refine ⟨fun hb=>?_,fun hb=>?_⟩<;>(try simp only [nrm] at hb)<;>(try (first|(exfalso;omega)|contradiction|exact kB hb)))|refine kR hai [(0,0)] rfl ?_|refine kS hai [(0,0)] rfl ?_|refine kA hbx ?_|refine kD hbx ?_|refine kA hmv ?_|refine kD hmv ?_|refine kA hfi ?_|refine kD hfi ?_|refine kW cfg_ok ?_|refine kC ?_|refine bdA ?_|refine bd2 ?_|refine bdR ?_|refine bdL ?_)<;>((try with_reducible refine evCut fun N hN hE hT=>?_);(conv=>whnf)))|(refine And.intro ?_ ?_;rotate_left;(conv=>whnf);rotate_right))
           all_goals first|rfl|omega|trace_state
       · rw [if_pos h3,aftE_of h3]
         refine Ev1.of_fin cfg_ok Tryz.func37 rfl (nt:=96) rfl rfl rfl ?_
         ((try with_reducible refine evCut fun N hN hE hT=>?_);(conv=>whnf))
         repeat' (first|exact trivial|((first|((first|refine hT _ _ ?_|refine hE _ _ _ ?_|refine hN _ _ ?_);clear hN hE hT)|refine kL ?_|(refine ⟨fun hb=>?_,fun hb=>?_⟩<;>(try simp only [nrm] at hb)<;>(try (first|(exfalso;omega)|contradiction|exact kB hb)))|refine kR hai [(0,0)] rfl ?_|refine kS hai [(0,0)] rfl ?_|refine kA hbx ?_|refine kD hbx ?_|refine kA hmv ?_|refine kD hmv ?_|refine kW cfg_ok ?_|refine kC ?_|refine bdA ?_|refine bd2 ?_|refine bdR ?_|refine bdL ?_)<;>((try with_reducible refine evCut fun N hN hE hT=>?_);(conv=>whnf)))|(refine And.intro ?_ ?_;rotate_left;(conv=>whnf);rotate_right))
         all_goals first|rfl|omega|trace_state
     · rw [if_neg hd,if_neg hd,if_neg hd]
       have hmv:=moved_api X p.bag c.c c.n (by omega) hx3 hP.nb hP.bag
       have hM1:=movedA_ok (a:=c.c) (n:=c.n) hx3 hP.bag
       have hM2:=movedA_len (l:=X) (m:=p.bag) (a:=c.c) (n:=c.n)
       generalize movedA X p.bag c.c c.n = M at *
       obtain ⟨M1,M2,M3⟩:=M
       dsimp only at *
       by_cases h3 : M3 = 0
       · subst h3
         rw [if_neg (not_not_intro rfl)]
         have hfi:=fill_api K I M1 (okC_right hK) (fitC_right hK) (by omega) hM1.1
         have hK1:=fill_right hK I M1
         generalize fillC K I M1 = S at *
         obtain ⟨S1,S2⟩:=S
         dsimp only at *
         by_cases h2 : S2 = 0
         · subst h2
           rw [if_neg (not_not_intro rfl)]
           have hke:=keep_ev w { p with bag:=M2 } c S1 hw (okP_bag hP hM1.2 (by have:=hP.nb;omega)) (okC_right hK1) (fitC_right hK1)
           generalize keepA w S1 { p with bag:=M2 } = R at *
           by_cases hz : R.2 = 0
           · rw [aftM_ok hz] at hke ⊢
             rw [hz] at hke ⊢
             refine Ev1.of_fin cfg_ok Tryz.func37 rfl (nt:=96) rfl rfl rfl ?_
             ((try with_reducible refine evCut fun N hN hE hT=>?_);(conv=>whnf))
             repeat' (first|exact trivial|((first|((first|refine hT _ _ ?_|refine hE _ _ _ ?_|refine hN _ _ ?_);clear hN hE hT)|refine kL ?_|(refine ⟨fun hb=>?_,fun hb=>?_⟩<;>(try simp only [nrm] at hb)<;>(try (first|(exfalso;omega)|contradiction|exact kB hb)))|refine kR hai [(0,0)] rfl ?_|refine kS hai [(0,0)] rfl ?_|refine kE hke [(0,0)] rfl ?_|refine kF hke [(0,0)] rfl ?_|refine kA hbx ?_|refine kD hbx ?_|refine kA hmv ?_|refine kD hmv ?_|refine kA hfi ?_|refine kD hfi ?_|refine kW cfg_ok ?_|refine kC ?_|refine bdA ?_|refine bd2 ?_|refine bdR ?_|refine bdL ?_)<;>((try with_reducible refine evCut fun N hN hE hT=>?_);(conv=>whnf)))|(refine And.intro ?_ ?_;rotate_left;(conv=>whnf);rotate_right))
             all_goals first|rfl|omega|trace_state
           · rw [aftM_err hz] at hke ⊢
             refine Ev1.of_fin cfg_ok Tryz.func37 rfl (nt:=96) rfl rfl rfl ?_
             ((try with_reducible refine evCut fun N hN hE hT=>?_);(conv=>whnf))
             repeat' (first|exact trivial|((first|((first|refine hT _ _ ?_|refine hE _ _ _ ?_|refine hN _ _ ?_);clear hN hE hT)|refine kL ?_|(refine ⟨fun hb=>?_,fun hb=>?_⟩<;>(try simp only [nrm] at hb)<;>(try (first|(exfalso;omega)|contradiction|exact kB hb)))|refine kR hai [(0,0)] rfl ?_|refine kS hai [(0,0)] rfl ?_|refine kE hke [(0,0)] rfl ?_|refine kF hke [(0,0)] rfl ?_|refine kA hbx ?_|refine kD hbx ?_|refine kA hmv ?_|refine kD hmv ?_|refine kA hfi ?_|refine kD hfi ?_|refine kW cfg_ok ?_|refine kC ?_|refine bdA ?_|refine bd2 ?_|refine bdR ?_|refine bdL ?_)<;>((try with_reducible refine evCut fun N hN hE hT=>?_);(conv=>whnf)))|(refine And.intro ?_ ?_;rotate_left;(conv=>whnf);rotate_right))
             all_goals first|rfl|omega|trace_state
         · rw [if_pos h2,aftE_of h2]
           refine Ev1.of_fin cfg_ok Tryz.func37 rfl (nt:=96) rfl rfl rfl ?_
           ((try with_reducible refine evCut fun N hN hE hT=>?_);(conv=>whnf))
           repeat' (first|exact trivial|((first|((first|refine hT _ _ ?_|refine hE _ _ _ ?_|refine hN _ _ ?_);clear hN hE hT)|refine kL ?_|(refine ⟨fun hb=>?_,fun hb=>?_⟩<;>(try simp only [nrm] at hb)<;>(try (first|(exfalso;omega)|contradiction|exact kB hb)))|refine kR hai [(0,0)] rfl ?_|refine kS hai [(0,0)] rfl ?_|refine kA hbx ?_|refine kD hbx ?_|refine kA hmv ?_|refine kD hmv ?_|refine kA hfi ?_|refine kD hfi ?_|refine kW cfg_ok ?_|refine kC ?_|refine bdA ?_|refine bd2 ?_|refine bdR ?_|refine bdL ?_)<;>((try with_reducible refine evCut fun N hN hE hT=>?_);(conv=>whnf)))|(refine And.intro ?_ ?_;rotate_left;(conv=>whnf);rotate_right))
           all_goals first|rfl|omega|trace_state
       · rw [if_pos h3,aftE_of h3]
         refine Ev1.of_fin cfg_ok Tryz.func37 rfl (nt:=96) rfl rfl rfl ?_
         ((try with_reducible refine evCut fun N hN hE hT=>?_);(conv=>whnf))
         repeat' (first|exact trivial|((first|((first|refine hT _ _ ?_|refine hE _ _ _ ?_|refine hN _ _ ?_);clear hN hE hT)|refine kL ?_|(refine ⟨fun hb=>?_,fun hb=>?_⟩<;>(try simp only [nrm] at hb)<;>(try (first|(exfalso;omega)|contradiction|exact kB hb)))|refine kR hai [(0,0)] rfl ?_|refine kS hai [(0,0)] rfl ?_|refine kA hbx ?_|refine kD hbx ?_|refine kA hmv ?_|refine kD hmv ?_|refine kW cfg_ok ?_|refine kC ?_|refine bdA ?_|refine bd2 ?_|refine bdR ?_|refine bdL ?_)<;>((try with_reducible refine evCut fun N hN hE hT=>?_);(conv=>whnf)))|(refine And.intro ?_ ?_;rotate_left;(conv=>whnf);rotate_right))
         all_goals first|rfl|omega|trace_state
 · rw [if_neg hA,if_neg hA] at hai
   rw [if_pos hA,aftE_of hA]
   generalize aimE w p c.a c.b = E at *
   refine Ev1.of_fin cfg_ok Tryz.func37 rfl (nt:=96) rfl rfl rfl ?_
   ((try with_reducible refine evCut fun N hN hE hT=>?_);(conv=>whnf))
   repeat' (first|exact trivial|((first|((first|refine hT _ _ ?_|refine hE _ _ _ ?_|refine hN _ _ ?_);clear hN hE hT)|refine kL ?_|(refine ⟨fun hb=>?_,fun hb=>?_⟩<;>(try simp only [nrm] at hb)<;>(try (first|(exfalso;omega)|contradiction|exact kB hb)))|refine kR hai [(0,0)] rfl ?_|refine kS hai [(0,0)] rfl ?_|refine kW cfg_ok ?_|refine kC ?_|refine bdA ?_|refine bd2 ?_|refine bdR ?_|refine bdL ?_)<;>((try with_reducible refine evCut fun N hN hE hT=>?_);(conv=>whnf)))|(refine And.intro ?_ ?_;rotate_left;(conv=>whnf);rotate_right))
   all_goals first|rfl|omega|trace_state
open Go Go.RowKit Eng
theorem playerW_in {w : Wld} (hR : RW w) {id : Int} (h : (playerW w id).2 = true) : getK pid w.players id = some (playerW w id).1 ∧ (playerW w id).1 ∈ w.players ∧ (playerW w id).1.id = id:=by
 have hr:=rightW_iff.2 hR
 have e : playerW w id = match getK pid w.players id with|some p=>(p,true)|none=>(zeroP,false):=by
   unfold playerW;rw [if_neg (by rw [hr];simp)];rfl
 cases hg : getK pid w.players id with
 | none=>rw [hg] at e;rw [e] at h;simp at h
 | some p =>
   rw [hg] at e
   rw [e]
   exact ⟨rfl,getK_mem hg⟩
theorem offerD_ev (w : Wld) (p : Player) (c : Cmd) (hR : RW w) (hp : soundB p = true) (hi : withinW w.size p.x p.y = true) (hd : c.dol = 11) : Ev1 Tryz.prog 40 [.ptr 0 0] (actM w p c) (i64 (dealA w p c).2) (aftM (dealA w p c)):=by
 have hw:=okW_rw hR
 have hP:=okP_sound hp
 have hpm:=mayB_in hR hp hi
 have hxy:=(within_iff hR).1 hi
 have hs:=hR.size
 obtain ⟨d,ca,cb,cc,cn⟩:=c
 dsimp only at hd
 subst hd
 have hpl:=wplayer_api w ca hw
 unfold dealA
 dsimp only
 rw [if_pos rfl,if_pos rfl,if_pos rfl]
 cases hB : (playerW w ca).2 with
 | false =>
   rw [hB] at hpl
   rw [if_pos rfl,aftE_of (e:=110) (by decide)]
   generalize (playerW w ca).1 = q at *
   refine Ev1.of_fin cfg_ok Tryz.func40 rfl (nt:=133) rfl rfl rfl ?_
   ((try with_reducible refine evCut fun N hN hE hT=>?_);(conv=>whnf))
   repeat' (first|exact trivial|((first|((first|refine hT _ _ ?_|refine hE _ _ _ ?_|refine hN _ _ ?_);clear hN hE hT)|refine kL ?_|(refine ⟨fun hb=>?_,fun hb=>?_⟩<;>(try simp only [nrm] at hb)<;>(try (first|(exfalso;omega)|contradiction|exact kB hb)))|refine kA hpl ?_|refine kD hpl ?_|refine kW cfg_ok ?_|refine kC ?_|refine bdA ?_|refine bd2 ?_|refine bdR ?_|refine bdL ?_)<;>((try with_reducible refine evCut fun N hN hE hT=>?_);(conv=>whnf)))|(refine And.intro ?_ ?_;rotate_left;(conv=>whnf);rotate_right))
   all_goals first|rfl|omega|trace_state
 | true =>
   rw [hB] at hpl
   rw [if_neg (by simp)]
   obtain ⟨_,hqm,_⟩:=playerW_in hR hB
   generalize (playerW w ca).1 = q at *
   have hqs:=hR.players q hqm
   have hqy:=(within_iff hR).1 hqs.2
   have hqM:=mayB_in hR hqs.1 hqs.2
   have hne:=near_ev w p ⟨11,ca,cb,cc,cn⟩ q.x q.y (by omega) (by omega) (by omega) (by omega)
   have hcl:=offer_api p q cc cn hP (okP_of hqM)
   have hmm:=offer_may hpm hqM cc cn
   cases hN : nearP p q.x q.y with
   | false =>
     rw [hN] at hne
     rw [if_pos ⟨by decide,rfl⟩,aftE_of (e:=106) (by decide)]
     refine Ev1.of_fin cfg_ok Tryz.func40 rfl (nt:=133) rfl rfl rfl ?_
     ((try with_reducible refine evCut fun N hN hE hT=>?_);(conv=>whnf))
     repeat' (first|exact trivial|((first|((first|refine hT _ _ ?_|refine hE _ _ _ ?_|refine hN _ _ ?_);clear hN hE hT)|refine kL ?_|(refine ⟨fun hb=>?_,fun hb=>?_⟩<;>(try simp only [nrm] at hb)<;>(try (first|(exfalso;omega)|contradiction|exact kB hb)))|refine kR hne [(0,0)] rfl ?_|refine kS hne [(0,0)] rfl ?_|refine kA hpl ?_|refine kD hpl ?_|refine kW cfg_ok ?_|refine kC ?_|refine bdA ?_|refine bd2 ?_|refine bdR ?_|refine bdL ?_)<;>((try with_reducible refine evCut fun N hN hE hT=>?_);(conv=>whnf)))|(refine And.intro ?_ ?_;rotate_left;(conv=>whnf);rotate_right))
     all_goals first|rfl|omega|trace_state
   | true =>
     rw [hN] at hne
     rw [if_neg (fun h=>by cases h.2)]
     generalize offerP p q cc cn = T at *
     obtain ⟨T1,T2,T3⟩:=T
     dsimp only at *
     by_cases h3 : T3 = 0
     · subst h3
       rw [if_neg (not_not_intro rfl)]
       have hq1:=set_world w T2 hw (okP_of hmm.2)
       have hst:=stay_ev (setW w T2).1 T1 ⟨11,ca,cb,cc,cn⟩ (okW_set hw (okP_of hmm.2)) (okP_of hmm.1)
       by_cases h4 : (setW w T2).2 = 0
       · rw [if_neg (not_not_intro h4)]
         rw [h4] at hq1
         generalize setW (setW w T2).1 T1 = R at *
         generalize (setW w T2).1 = U at *
         by_cases hz : R.2 = 0
         · rw [aftM_ok hz] at hst ⊢
           rw [hz] at hst ⊢
           refine Ev1.of_fin cfg_ok Tryz.func40 rfl (nt:=133) rfl rfl rfl ?_
           ((try with_reducible refine evCut fun N hN hE hT=>?_);(conv=>whnf))
           repeat' (first|exact trivial|((first|((first|refine hT _ _ ?_|refine hE _ _ _ ?_|refine hN _ _ ?_);clear hN hE hT)|refine kL ?_|(refine ⟨fun hb=>?_,fun hb=>?_⟩<;>(try simp only [nrm] at hb)<;>(try (first|(exfalso;omega)|contradiction|exact kB hb)))|refine kR hne [(0,0)] rfl ?_|refine kS hne [(0,0)] rfl ?_|refine kE hst [(0,0)] rfl ?_|refine kF hst [(0,0)] rfl ?_|refine kA hpl ?_|refine kD hpl ?_|refine kA hcl ?_|refine kD hcl ?_|refine kA hq1 ?_|refine kD hq1 ?_|refine kW cfg_ok ?_|refine kC ?_|refine bdA ?_|refine bd2 ?_|refine bdR ?_|refine bdL ?_)<;>((try with_reducible refine evCut fun N hN hE hT=>?_);(conv=>whnf)))|(refine And.intro ?_ ?_;rotate_left;(conv=>whnf);rotate_right))
           all_goals first|rfl|omega|trace_state
         · rw [aftM_err hz] at hst ⊢
           refine Ev1.of_fin cfg_ok Tryz.func40 rfl (nt:=133) rfl rfl rfl ?_
           ((try with_reducible refine evCut fun N hN hE hT=>?_);(conv=>whnf))
           repeat' (first|exact trivial|((first|((first|refine hT _ _ ?_|refine hE _ _ _ ?_|refine hN _ _ ?_);clear hN hE hT)|refine kL ?_|(refine ⟨fun hb=>?_,fun hb=>?_⟩<;>(try simp only [nrm] at hb)<;>(try (first|(exfalso;omega)|contradiction|exact kB hb)))|refine kR hne [(0,0)] rfl ?_|refine kS hne [(0,0)] rfl ?_|refine kE hst [(0,0)] rfl ?_|refine kF hst [(0,0)] rfl ?_|refine kA hpl ?_|refine kD hpl ?_|refine kA hcl ?_|refine kD hcl ?_|refine kA hq1 ?_|refine kD hq1 ?_|refine kW cfg_ok ?_|refine kC ?_|refine bdA ?_|refine bd2 ?_|refine bdR ?_|refine bdL ?_)<;>((try with_reducible refine evCut fun N hN hE hT=>?_);(conv=>whnf)))|(refine And.intro ?_ ?_;rotate_left;(conv=>whnf);rotate_right))
           all_goals first|rfl|omega|trace_state
       · rw [if_pos h4,aftE_of h4]
         clear hst
         generalize setW w T2 = U at *
         refine Ev1.of_fin cfg_ok Tryz.func40 rfl (nt:=133) rfl rfl rfl ?_
         ((try with_reducible refine evCut fun N hN hE hT=>?_);(conv=>whnf))
         repeat' (first|exact trivial|((first|((first|refine hT _ _ ?_|refine hE _ _ _ ?_|refine hN _ _ ?_);clear hN hE hT)|refine kL ?_|(refine ⟨fun hb=>?_,fun hb=>?_⟩<;>(try simp only [nrm] at hb)<;>(try (first|(exfalso;omega)|contradiction|exact kB hb)))|refine kR hne [(0,0)] rfl ?_|refine kS hne [(0,0)] rfl ?_|refine kA hpl ?_|refine kD hpl ?_|refine kA hcl ?_|refine kD hcl ?_|refine kA hq1 ?_|refine kD hq1 ?_|refine kW cfg_ok ?_|refine kC ?_|refine bdA ?_|refine bd2 ?_|refine bdR ?_|refine bdL ?_)<;>((try with_reducible refine evCut fun N hN hE hT=>?_);(conv=>whnf)))|(refine And.intro ?_ ?_;rotate_left;(conv=>whnf);rotate_right))
         all_goals first|rfl|omega|trace_state
     · rw [if_pos h3,aftE_of h3]
       refine Ev1.of_fin cfg_ok Tryz.func40 rfl (nt:=133) rfl rfl rfl ?_
       ((try with_reducible refine evCut fun N hN hE hT=>?_);(conv=>whnf))
       repeat' (first|exact trivial|((first|((first|refine hT _ _ ?_|refine hE _ _ _ ?_|refine hN _ _ ?_);clear hN hE hT)|refine kL ?_|(refine ⟨fun hb=>?_,fun hb=>?_⟩<;>(try simp only [nrm] at hb)<;>(try (first|(exfalso;omega)|contradiction|exact kB hb)))|refine kR hne [(0,0)] rfl ?_|refine kS hne [(0,0)] rfl ?_|refine kA hpl ?_|refine kD hpl ?_|refine kA hcl ?_|refine kD hcl ?_|refine kW cfg_ok ?_|refine kC ?_|refine bdA ?_|refine bd2 ?_|refine bdR ?_|refine bdL ?_)<;>((try with_reducible refine evCut fun N hN hE hT=>?_);(conv=>whnf)))|(refine And.intro ?_ ?_;rotate_left;(conv=>whnf);rotate_right))
       all_goals first|rfl|omega|trace_state
theorem agreeD_ev (w : Wld) (p : Player) (c : Cmd) (hR : RW w) (hp : soundB p = true) (hi : withinW w.size p.x p.y = true) (hd : c.dol = 12) : Ev1 Tryz.prog 40 [.ptr 0 0] (actM w p c) (i64 (dealA w p c).2) (aftM (dealA w p c)):=by
 have hw:=okW_rw hR
 have hP:=okP_sound hp
 have hpm:=mayB_in hR hp hi
 have hxy:=(within_iff hR).1 hi
 have hs:=hR.size
 obtain ⟨d,ca,cb,cc,cn⟩:=c
 dsimp only at hd
 subst hd
 have hpl:=wplayer_api w p.wth hw
 unfold dealA
 dsimp only
 simp only [show ¬ ((12 : Int) = 11) by decide,if_false,if_true]
 cases hB : (playerW w p.wth).2 with
 | false =>
   rw [hB] at hpl
   rw [if_pos rfl,aftE_of (e:=108) (by decide)]
   generalize (playerW w p.wth).1 = q at *
   refine Ev1.of_fin cfg_ok Tryz.func40 rfl (nt:=133) rfl rfl rfl ?_
   ((try with_reducible refine evCut fun N hN hE hT=>?_);(conv=>whnf))
   repeat' (first|exact trivial|((first|((first|refine hT _ _ ?_|refine hE _ _ _ ?_|refine hN _ _ ?_);clear hN hE hT)|refine kL ?_|(refine ⟨fun hb=>?_,fun hb=>?_⟩<;>(try simp only [nrm] at hb)<;>(try (first|(exfalso;omega)|contradiction|exact kB hb)))|refine kA hpl ?_|refine kD hpl ?_|refine kW cfg_ok ?_|refine kC ?_|refine bdA ?_|refine bd2 ?_|refine bdR ?_|refine bdL ?_)<;>((try with_reducible refine evCut fun N hN hE hT=>?_);(conv=>whnf)))|(refine And.intro ?_ ?_;rotate_left;(conv=>whnf);rotate_right))
   all_goals first|rfl|omega|trace_state
 | true =>
   rw [hB] at hpl
   rw [if_neg (by simp)]
   obtain ⟨_,hqm,_⟩:=playerW_in hR hB
   generalize (playerW w p.wth).1 = q at *
   have hqs:=hR.players q hqm
   have hqy:=(within_iff hR).1 hqs.2
   have hqM:=mayB_in hR hqs.1 hqs.2
   have hne:=near_ev w p ⟨12,ca,cb,cc,cn⟩ q.x q.y (by omega) (by omega) (by omega) (by omega)
   have hcl:=agree_api p q hP (okP_of hqM)
   have hmm:=agree_may hpm hqM
   cases hN : nearP p q.x q.y with
   | false =>
     rw [hN] at hne
     rw [if_pos ⟨by decide,rfl⟩,aftE_of (e:=106) (by decide)]
     refine Ev1.of_fin cfg_ok Tryz.func40 rfl (nt:=133) rfl rfl rfl ?_
     ((try with_reducible refine evCut fun N hN hE hT=>?_);(conv=>whnf))
     repeat' (first|exact trivial|((first|((first|refine hT _ _ ?_|refine hE _ _ _ ?_|refine hN _ _ ?_);clear hN hE hT)|refine kL ?_|(refine ⟨fun hb=>?_,fun hb=>?_⟩<;>(try simp only [nrm] at hb)<;>(try (first|(exfalso;omega)|contradiction|exact kB hb)))|refine kR hne [(0,0)] rfl ?_|refine kS hne [(0,0)] rfl ?_|refine kA hpl ?_|refine kD hpl ?_|refine kW cfg_ok ?_|refine kC ?_|refine bdA ?_|refine bd2 ?_|refine bdR ?_|refine bdL ?_)<;>((try with_reducible refine evCut fun N hN hE hT=>?_);(conv=>whnf)))|(refine And.intro ?_ ?_;rotate_left;(conv=>whnf);rotate_right))
     all_goals first|rfl|omega|trace_state
   | true =>
     rw [hN] at hne
     rw [if_neg (fun h=>by cases h.2)]
     generalize agreeP p q = T at *
     obtain ⟨T1,T2,T0,T3⟩:=T
     dsimp only at *
     by_cases h3 : T3 = 0
     · subst h3
       rw [if_neg (not_not_intro rfl)]
       have hq1:=set_world w T2 hw (okP_of hmm.2)
       have hst:=stay_ev (setW w T2).1 T1 ⟨12,ca,cb,cc,cn⟩ (okW_set hw (okP_of hmm.2)) (okP_of hmm.1)
       by_cases h4 : (setW w T2).2 = 0
       · rw [if_neg (not_not_intro h4)]
         rw [h4] at hq1
         generalize setW (setW w T2).1 T1 = R at *
         generalize (setW w T2).1 = U at *
         by_cases hz : R.2 = 0
         · rw [aftM_ok hz] at hst ⊢
           rw [hz] at hst ⊢
           refine Ev1.of_fin cfg_ok Tryz.func40 rfl (nt:=133) rfl rfl rfl ?_
           ((try with_reducible refine evCut fun N hN hE hT=>?_);(conv=>whnf))
           repeat' (first|exact trivial|((first|((first|refine hT _ _ ?_|refine hE _ _ _ ?_|refine hN _ _ ?_);clear hN hE hT)|refine kL ?_|(refine ⟨fun hb=>?_,fun hb=>?_⟩<;>(try simp only [nrm] at hb)<;>(try (first|(exfalso;omega)|contradiction|exact kB hb)))|refine kR hne [(0,0)] rfl ?_|refine kS hne [(0,0)] rfl ?_|refine kE hst [(0,0)] rfl ?_|refine kF hst [(0,0)] rfl ?_|refine kA hpl ?_|refine kD hpl ?_|refine kA hcl ?_|refine kD hcl ?_|refine kA hq1 ?_|refine kD hq1 ?_|refine kW cfg_ok ?_|refine kC ?_|refine bdA ?_|refine bd2 ?_|refine bdR ?_|refine bdL ?_)<;>((try with_reducible refine evCut fun N hN hE hT=>?_);(conv=>whnf)))|(refine And.intro ?_ ?_;rotate_left;(conv=>whnf);rotate_right))
           all_goals first|rfl|omega|trace_state
         · rw [aftM_err hz] at hst ⊢
           refine Ev1.of_fin cfg_ok Tryz.func40 rfl (nt:=133) rfl rfl rfl ?_
           ((try with_reducible refine evCut fun N hN hE hT=>?_);(conv=>whnf))
           repeat' (first|exact trivial|((first|((first|refine hT _ _ ?_|refine hE _ _ _ ?_|refine hN _ _ ?_);clear hN hE hT)|refine kL ?_|(refine ⟨fun hb=>?_,fun hb=>?_⟩<;>(try simp only [nrm] at hb)<;>(try (first|(exfalso;omega)|contradiction|exact kB hb)))|refine kR hne [(0,0)] rfl ?_|refine kS hne [(0,0)] rfl ?_|refine kE hst [(0,0)] rfl ?_|refine kF hst [(0,0)] rfl ?_|refine kA hpl ?_|refine kD hpl ?_|refine kA hcl ?_|refine kD hcl ?_|refine kA hq1 ?_|refine kD hq1 ?_|refine kW cfg_ok ?_|refine kC ?_|refine bdA ?_|refine bd2 ?_|refine bdR ?_|refine bdL ?_)<;>((try with_reducible refine evCut fun N hN hE hT=>?_);(conv=>whnf)))|(refine And.intro ?_ ?_;rotate_left;(conv=>whnf);rotate_right))
           all_goals first|rfl|omega|trace_state
       · rw [if_pos h4,aftE_of h4]
         clear hst
         generalize setW w T2 = U at *
         refine Ev1.of_fin cfg_ok Tryz.func40 rfl (nt:=133) rfl rfl rfl ?_
         ((try with_reducible refine evCut fun N hN hE hT=>?_);(conv=>whnf))
         repeat' (first|exact trivial|((first|((first|refine hT _ _ ?_|refine hE _ _ _ ?_|refine hN _ _ ?_);clear hN hE hT)|refine kL ?_|(refine ⟨fun hb=>?_,fun hb=>?_⟩<;>(try simp only [nrm] at hb)<;>(try (first|(exfalso;omega)|contradiction|exact kB hb)))|refine kR hne [(0,0)] rfl ?_|refine kS hne [(0,0)] rfl ?_|refine kA hpl ?_|refine kD hpl ?_|refine kA hcl ?_|refine kD hcl ?_|refine kA hq1 ?_|refine kD hq1 ?_|refine kW cfg_ok ?_|refine kC ?_|refine bdA ?_|refine bd2 ?_|refine bdR ?_|refine bdL ?_)<;>((try with_reducible refine evCut fun N hN hE hT=>?_);(conv=>whnf)))|(refine And.intro ?_ ?_;rotate_left;(conv=>whnf);rotate_right))
         all_goals first|rfl|omega|trace_state
     · rw [if_pos h3,aftE_of h3]
       refine Ev1.of_fin cfg_ok Tryz.func40 rfl (nt:=133) rfl rfl rfl ?_
       ((try with_reducible refine evCut fun N hN hE hT=>?_);(conv=>whnf))
       repeat' (first|exact trivial|((first|((first|refine hT _ _ ?_|refine hE _ _ _ ?_|refine hN _ _ ?_);clear hN hE hT)|refine kL ?_|(refine ⟨fun hb=>?_,fun hb=>?_⟩<;>(try simp only [nrm] at hb)<;>(try (first|(exfalso;omega)|contradiction|exact kB hb)))|refine kR hne [(0,0)] rfl ?_|refine kS hne [(0,0)] rfl ?_|refine kA hpl ?_|refine kD hpl ?_|refine kA hcl ?_|refine kD hcl ?_|refine kW cfg_ok ?_|refine kC ?_|refine bdA ?_|refine bd2 ?_|refine bdR ?_|refine bdL ?_)<;>((try with_reducible refine evCut fun N hN hE hT=>?_);(conv=>whnf)))|(refine And.intro ?_ ?_;rotate_left;(conv=>whnf);rotate_right))
       all_goals first|rfl|omega|trace_state
theorem cancelD_ev (w : Wld) (p : Player) (c : Cmd) (hR : RW w) (hp : soundB p = true) (hi : withinW w.size p.x p.y = true) (hd : c.dol = 13) : Ev1 Tryz.prog 40 [.ptr 0 0] (actM w p c) (i64 (dealA w p c).2) (aftM (dealA w p c)):=by
 have hw:=okW_rw hR
 have hP:=okP_sound hp
 have hpm:=mayB_in hR hp hi
 have hxy:=(within_iff hR).1 hi
 have hs:=hR.size
 obtain ⟨d,ca,cb,cc,cn⟩:=c
 dsimp only at hd
 subst hd
 have hpl:=wplayer_api w p.wth hw
 unfold dealA
 dsimp only
 simp only [show ¬ ((13 : Int) = 11) by decide,show ¬ ((13 : Int) = 12) by decide,if_false,if_true]
 cases hB : (playerW w p.wth).2 with
 | false =>
   rw [hB] at hpl
   rw [if_pos rfl,aftE_of (e:=108) (by decide)]
   generalize (playerW w p.wth).1 = q at *
   refine Ev1.of_fin cfg_ok Tryz.func40 rfl (nt:=133) rfl rfl rfl ?_
   ((try with_reducible refine evCut fun N hN hE hT=>?_);(conv=>whnf))
   repeat' (first|exact trivial|((first|((first|refine hT _ _ ?_|refine hE _ _ _ ?_|refine hN _ _ ?_);clear hN hE hT)|refine kL ?_|(refine ⟨fun hb=>?_,fun hb=>?_⟩<;>(try simp only [nrm] at hb)<;>(try (first|(exfalso;omega)|contradiction|exact kB hb)))|refine kA hpl ?_|refine kD hpl ?_|refine kW cfg_ok ?_|refine kC ?_|refine bdA ?_|refine bd2 ?_|refine bdR ?_|refine bdL ?_)<;>((try with_reducible refine evCut fun N hN hE hT=>?_);(conv=>whnf)))|(refine And.intro ?_ ?_;rotate_left;(conv=>whnf);rotate_right))
   all_goals first|rfl|omega|trace_state
 | true =>
   rw [hB] at hpl
   rw [if_neg (by simp)]
   obtain ⟨_,hqm,_⟩:=playerW_in hR hB
   generalize (playerW w p.wth).1 = q at *
   have hqs:=hR.players q hqm
   have hqy:=(within_iff hR).1 hqs.2
   have hqM:=mayB_in hR hqs.1 hqs.2
   have hne:=near_ev w p ⟨13,ca,cb,cc,cn⟩ q.x q.y (by omega) (by omega) (by omega) (by omega)
   have hcl:=cancel_api p q hP (okP_of hqM)
   have hmm:=cancel_may hpm hqM
   rw [if_neg (show ¬ (¬ True ∧ nearP p q.x q.y = false) from fun h=>h.1 trivial)]
   generalize cancelP p q = T at *
   obtain ⟨T1,T2,T3⟩:=T
   dsimp only at *
   by_cases h3 : T3 = 0
   · subst h3
     rw [if_neg (not_not_intro rfl)]
     have hq1:=set_world w T2 hw (okP_of hmm.2)
     have hst:=stay_ev (setW w T2).1 T1 ⟨13,ca,cb,cc,cn⟩ (okW_set hw (okP_of hmm.2)) (okP_of hmm.1)
     by_cases h4 : (setW w T2).2 = 0
     · rw [if_neg (not_not_intro h4)]
       rw [h4] at hq1
       generalize setW (setW w T2).1 T1 = R at *
       generalize (setW w T2).1 = U at *
       by_cases hz : R.2 = 0
       · rw [aftM_ok hz] at hst ⊢
         rw [hz] at hst ⊢
         refine Ev1.of_fin cfg_ok Tryz.func40 rfl (nt:=133) rfl rfl rfl ?_
         ((try with_reducible refine evCut fun N hN hE hT=>?_);(conv=>whnf))
         repeat' (first|exact trivial|((first|((first|refine hT _ _ ?_|refine hE _ _ _ ?_|refine hN _ _ ?_);clear hN hE hT)|refine kL ?_|(refine ⟨fun hb=>?_,fun hb=>?_⟩<;>(try simp only [nrm] at hb)<;>(try (first|(exfalso;omega)|contradiction|exact kB hb)))|refine kE hst [(0,0)] rfl ?_|refine kF hst [(0,0)] rfl ?_|refine kA hpl ?_|refine kD hpl ?_|refine kA hcl ?_|refine kD hcl ?_|refine kA hq1 ?_|refine kD hq1 ?_|refine kW cfg_ok ?_|refine kC ?_|refine bdA ?_|refine bd2 ?_|refine bdR ?_|refine bdL ?_)<;>((try with_reducible refine evCut fun N hN hE hT=>?_);(conv=>whnf)))|(refine And.intro ?_ ?_;rotate_left;(conv=>whnf);rotate_right))
         all_goals first|rfl|omega|trace_state
       · rw [aftM_err hz] at hst ⊢
         refine Ev1.of_fin cfg_ok Tryz.func40 rfl (nt:=133) rfl rfl rfl ?_
         ((try with_reducible refine evCut fun N hN hE hT=>?_);(conv=>whnf))
         repeat' (first|exact trivial|((first|((first|refine hT _ _ ?_|refine hE _ _ _ ?_|refine hN _ _ ?_);clear hN hE hT)|refine kL ?_|(refine ⟨fun hb=>?_,fun hb=>?_⟩<;>(try simp only [nrm] at hb)<;>(try (first|(exfalso;omega)|contradiction|exact kB hb)))|refine kE hst [(0,0)] rfl ?_|refine kF hst [(0,0)] rfl ?_|refine kA hpl ?_|refine kD hpl ?_|refine kA hcl ?_|refine kD hcl ?_|refine kA hq1 ?_|refine kD hq1 ?_|refine kW cfg_ok ?_|refine kC ?_|refine bdA ?_|refine bd2 ?_|refine bdR ?_|refine bdL ?_)<;>((try with_reducible refine evCut fun N hN hE hT=>?_);(conv=>whnf)))|(refine And.intro ?_ ?_;rotate_left;(conv=>whnf);rotate_right))
         all_goals first|rfl|omega|trace_state
     · rw [if_pos h4,aftE_of h4]
       clear hst
       generalize setW w T2 = U at *
       refine Ev1.of_fin cfg_ok Tryz.func40 rfl (nt:=133) rfl rfl rfl ?_
       ((try with_reducible refine evCut fun N hN hE hT=>?_);(conv=>whnf))
       repeat' (first|exact trivial|((first|((first|refine hT _ _ ?_|refine hE _ _ _ ?_|refine hN _ _ ?_);clear hN hE hT)|refine kL ?_|(refine ⟨fun hb=>?_,fun hb=>?_⟩<;>(try simp only [nrm] at hb)<;>(try (first|(exfalso;omega)|contradiction|exact kB hb)))|refine kA hpl ?_|refine kD hpl ?_|refine kA hcl ?_|refine kD hcl ?_|refine kA hq1 ?_|refine kD hq1 ?_|refine kW cfg_ok ?_|refine kC ?_|refine bdA ?_|refine bd2 ?_|refine bdR ?_|refine bdL ?_)<;>((try with_reducible refine evCut fun N hN hE hT=>?_);(conv=>whnf)))|(refine And.intro ?_ ?_;rotate_left;(conv=>whnf);rotate_right))
       all_goals first|rfl|omega|trace_state
   · rw [if_pos h3,aftE_of h3]
     refine Ev1.of_fin cfg_ok Tryz.func40 rfl (nt:=133) rfl rfl rfl ?_
     ((try with_reducible refine evCut fun N hN hE hT=>?_);(conv=>whnf))
     repeat' (first|exact trivial|((first|((first|refine hT _ _ ?_|refine hE _ _ _ ?_|refine hN _ _ ?_);clear hN hE hT)|refine kL ?_|(refine ⟨fun hb=>?_,fun hb=>?_⟩<;>(try simp only [nrm] at hb)<;>(try (first|(exfalso;omega)|contradiction|exact kB hb)))|refine kA hpl ?_|refine kD hpl ?_|refine kA hcl ?_|refine kD hcl ?_|refine kW cfg_ok ?_|refine kC ?_|refine bdA ?_|refine bd2 ?_|refine bdR ?_|refine bdL ?_)<;>((try with_reducible refine evCut fun N hN hE hT=>?_);(conv=>whnf)))|(refine And.intro ?_ ?_;rotate_left;(conv=>whnf);rotate_right))
     all_goals first|rfl|omega|trace_state
open Go Go.RowKit Eng
theorem puts1_ev (w : Wld) (p : Player) (c : Cmd) (q : Player) (hq : OkP q) : Ev1 Tryz.prog 74 [.agg (cells .player q),.ptr 2 0] ((2,.box [.ptr 0 0]) :: actM w p c) (bol (standsB c q)) ((2,.box [.ptr 0 0]) :: actM w p c):=by
 unfold standsB
 refine Ev1.of_fin cfg_ok Tryz.func74 rfl (nt:=20) rfl rfl rfl ?_
 ((try with_reducible refine evCut fun N hN hE hT=>?_);(conv=>whnf))
 repeat' (first|exact trivial|((first|((first|refine hT _ _ ?_|refine hE _ _ _ ?_|refine hN _ _ ?_);clear hN hE hT)|refine kL ?_|(refine ⟨fun hb=>?_,fun hb=>?_⟩<;>(try simp only [nrm] at hb)<;>(try (first|(exfalso;omega)|contradiction|exact kB hb)))|refine kW cfg_ok ?_|refine kC ?_|refine bdA ?_|refine bd2 ?_|refine bdR ?_|refine bdL ?_)<;>((try with_reducible refine evCut fun N hN hE hT=>?_);(conv=>whnf)))|(refine And.intro ?_ ?_;rotate_left;(conv=>whnf);rotate_right))
 all_goals first|rfl|(refine congrArg Value.bool ?_;rw [decide_eq_true hb,Bool.true_and];rfl)|(refine congrArg Value.bool ?_;rw [decide_eq_false hb,Bool.false_and])|(refine congrArg Value.bool ?_;simp_all;done)|trace_state
theorem idx_stands (w : Wld) (p : Player) (c : Cmd) (l : List (El .player)) (hl : l.length ≤ big) (hw : ∀ s ∈ l,OkP s) : Ev1 Tryz.prog 55 [.vec .player l,.clo (.func 74) [] [.ptr 2 0]] ((2,.box [.ptr 0 0]) :: actM w p c) (i64 (idxGo (standsB c) l 0)) ((2,.box [.ptr 0 0]) :: actM w p c):=by
 unfold big at hl
 refine Ev1.of_fin cfg_ok Tryz.func55 rfl (nt:=17) rfl rfl rfl ?_
 conv=>whnf
 refine Runs.loopS cfg_ok (σ:=Nat) [0,1,7,8] (fun k=>[.vec .player l,.clo (.func 74) [] [.ptr 2 0],i64 l.length,i64 k]) (fun _=>(2,.box [.ptr 0 0]) :: actM w p c) (fun k=>k ≤ l.length ∧ idxGo (standsB c) (l.drop k) k = idxGo (standsB c) l 0) (fun k=>l.length - k) 0 ⟨by omega,rfl⟩ ?_ ?_
 · conv=>whnf
   repeat' (first|exact trivial|((first|refine kL ?_|(refine ⟨fun hb=>?_,fun hb=>?_⟩<;>(try simp only [nrm] at hb)<;>(try (first|(exfalso;omega)|contradiction|exact kB hb)))|refine kW cfg_ok ?_|refine kC ?_|refine bdA ?_|refine bd2 ?_|refine bdR ?_|refine bdL ?_)<;>(conv=>whnf))|(refine And.intro ?_ ?_;rotate_left;(conv=>whnf);rotate_right))
 · intro k ⟨hk,he⟩
   by_cases hlt : k < l.length
   · rw [drop_elt hlt] at he
     simp only [idxGo] at he
     have hcl:=puts1_ev w p c _ (hw _ (elt_mem' (t:=.player) (i:=(k : Int)) (by omega) (by omega)))
     rw [Int.toNat_natCast] at hcl
     cases hP : (standsB c) (elt .player l k) with
     | true =>
       rw [hP] at he hcl
       conv=>whnf
       repeat' (first|exact trivial|((first|refine kL ?_|(refine ⟨fun hb=>?_,fun hb=>?_⟩<;>(try simp only [nrm] at hb)<;>(try (first|(exfalso;omega)|contradiction|exact kB hb)))|refine kE hcl [(0,0),(2,2)] rfl ?_|refine kF hcl [(0,0),(2,2)] rfl ?_|refine kW cfg_ok ?_|refine kC ?_|refine bdA ?_|refine bd2 ?_|refine bdR ?_|refine bdL ?_)<;>(conv=>whnf))|(refine And.intro ?_ ?_;rotate_left;(conv=>whnf);rotate_right))
       rw [← he];rfl
     | false =>
       rw [hP] at he hcl
       conv=>whnf
       repeat' (first|exact trivial|((first|refine kL ?_|(refine ⟨fun hb=>?_,fun hb=>?_⟩<;>(try simp only [nrm] at hb)<;>(try (first|(exfalso;omega)|contradiction|exact kB hb)))|refine kE hcl [(0,0),(2,2)] rfl ?_|refine kF hcl [(0,0),(2,2)] rfl ?_|refine kW cfg_ok ?_|refine kC ?_|refine bdA ?_|refine bd2 ?_|refine bdR ?_|refine bdL ?_)<;>(conv=>whnf))|(refine And.intro ?_ ?_;rotate_left;(conv=>whnf);rotate_right))
       refine .to (k + 1) ⟨hlt,?_⟩ (by omega) ?_
       · rw [← he];rfl
       · conv=>whnf
         repeat' (first|exact trivial|((first|refine kL ?_|(refine ⟨fun hb=>?_,fun hb=>?_⟩<;>(try simp only [nrm] at hb)<;>(try (first|(exfalso;omega)|contradiction|exact kB hb)))|refine kW cfg_ok ?_|refine kC ?_|refine bdA ?_|refine bd2 ?_|refine bdR ?_|refine bdL ?_)<;>(conv=>whnf))|(refine And.intro ?_ ?_;rotate_left;(conv=>whnf);rotate_right))
   · conv=>whnf
     repeat' (first|exact trivial|((first|refine kL ?_|(refine ⟨fun hb=>?_,fun hb=>?_⟩<;>(try simp only [nrm] at hb)<;>(try (first|(exfalso;omega)|contradiction|exact kB hb)))|refine kW cfg_ok ?_|refine kC ?_|refine bdA ?_|refine bd2 ?_|refine bdR ?_|refine bdL ?_)<;>(conv=>whnf))|(refine And.intro ?_ ?_;rotate_left;(conv=>whnf);rotate_right))
     have : k = l.length:=by omega
     subst this
     simp only [List.drop_length,idxGo] at he
     rw [← he]
theorem has_stands (w : Wld) (p : Player) (c : Cmd) (l : List (El .player)) (hl : l.length ≤ big) (hw : ∀ s ∈ l,OkP s) : Ev1 Tryz.prog 21 [.vec .player l,.clo (.func 74) [] [.ptr 2 0]] ((2,.box [.ptr 0 0]) :: actM w p c) (bol (l.any (standsB c))) ((2,.box [.ptr 0 0]) :: actM w p c):=by
 refine Ev1.of_fin cfg_ok Tryz.func21 rfl (nt:=7) rfl rfl rfl ?_
 conv=>whnf
 repeat' (first|exact trivial|((first|refine kL ?_|(refine ⟨fun hb=>?_,fun hb=>?_⟩<;>(try simp only [nrm] at hb)<;>(try (first|(exfalso;omega)|contradiction|exact kB hb)))|(refine isE 55 ?_;refine kE (idx_stands w p c l hl hw) [(0,0),(2,2)] rfl ?_)|(refine isD 55 ?_;refine kF (idx_stands w p c l hl hw) [(0,0),(2,2)] rfl ?_)|refine kW cfg_ok ?_|refine kC ?_|refine bdA ?_|refine bd2 ?_|refine bdR ?_|refine bdL ?_)<;>(conv=>whnf))|(refine And.intro ?_ ?_;rotate_left;(conv=>whnf);rotate_right))
 all_goals (first|rw [idxGo_any]|skip)
theorem puts_ev (w : Wld) (p : Player) (c : Cmd) (hR : RW w) (hp : soundB p = true) (hi : withinW w.size p.x p.y = true) (ha : 0 ≤ c.a ∧ c.a ≤ 127) (hb1 : 0 ≤ c.b ∧ c.b ≤ 127) : Ev1 Tryz.prog 34 [.ptr 0 0] (actM w p c) (i64 (placeA w p c).2) (aftM (placeA w p c)):=by
 have hw:=okW_rw hR
 have hP:=okP_sound hp
 have hxy:=(within_iff hR).1 hi
 have hs:=hR.size
 have hai:=aim_ev w p c hw (by omega) (by omega) (by omega) ha hb1
 have htk:=take_api p.bag c.c 1 (by have:=hP.nb;omega) hP.bag
 have hT:=takeS_ok (a:=c.c) (n:=1) hP.bag
 have hTl:=takeS_len p.bag c.c 1
 have hst:=has_stands w p c w.players (by have:=hw.np;unfold big;omega) hw.players
 unfold placeA
 by_cases hA : aimE w p c.a c.b = 0
 · rw [if_pos hA,if_pos hA,hA] at hai
   rw [if_neg (not_not_intro hA)]
   have hK:=(place_right hR (aim_in hA).1).1
   have hI:=placeI_bd c.a c.b
   generalize placeC w c.a c.b = K at *
   generalize placeI c.a c.b = I at *
   generalize takeS p.bag c.c 1 = T at *
   obtain ⟨T1,T2,T3⟩:=T
   dsimp only at *
   have hlen:=right_len hK
   have hset:=set_api K I T2.item (okC_right hK) (fitC_right hK) hT.1.1 hT.1.2
   have hK1:=right_setC hK (i:=T2.item) hI.1 hI.2
   have hbl:=block_api T2.item hT.1.1 hT.1.2
   by_cases h1 : T3 = 0
   · subst h1
     rw [if_neg (not_not_intro rfl)]
     cases hB : blockB T2.item with
     | false =>
       rw [hB] at hbl
       rw [if_pos rfl,aftE_of (e:=100) (by decide)]
       refine Ev1.of_fin cfg_ok Tryz.func34 rfl (nt:=76) rfl rfl rfl ?_
       ((try with_reducible refine evCut fun N hN hE hT=>?_);(conv=>whnf))
       repeat' (first|exact trivial|((first|((first|refine hT _ _ ?_|refine hE _ _ _ ?_|refine hN _ _ ?_);clear hN hE hT)|refine kL ?_|(refine ⟨fun hb=>?_,fun hb=>?_⟩<;>(try simp only [nrm] at hb)<;>(try (first|(exfalso;omega)|contradiction|exact kB hb)))|refine kR hai [(0,0)] rfl ?_|refine kS hai [(0,0)] rfl ?_|refine kA htk ?_|refine kD htk ?_|refine kA hbl ?_|refine kD hbl ?_|refine kW cfg_ok ?_|refine kC ?_|refine bdA ?_|refine bd2 ?_|refine bdR ?_|refine bdL ?_)<;>((try with_reducible refine evCut fun N hN hE hT=>?_);(conv=>whnf)))|(refine And.intro ?_ ?_;rotate_left;(conv=>whnf);rotate_right))
       all_goals first|rfl|omega|trace_state
     | true =>
       rw [hB] at hbl
       rw [if_neg (by simp)]
       by_cases h0 : cellA K I = 0
       · cases hS : w.players.any (standsB c) with
         | true =>
           rw [hS] at hst
           rw [if_pos (.inr rfl),aftE_of (e:=107) (by decide)]
           refine Ev1.of_fin cfg_ok Tryz.func34 rfl (nt:=76) rfl rfl rfl ?_
           ((try with_reducible refine evCut fun N hN hE hT=>?_);(conv=>whnf))
           repeat' (first|exact trivial|((first|((first|refine hT _ _ ?_|refine hE _ _ _ ?_|refine hN _ _ ?_);clear hN hE hT)|refine kL ?_|(refine ⟨fun hb=>?_,fun hb=>?_⟩<;>(try simp only [nrm] at hb)<;>(try (first|(exfalso;omega)|contradiction|exact kB hb)))|refine kR hai [(0,0)] rfl ?_|refine kS hai [(0,0)] rfl ?_|refine kR hst [(0,0),(2,200002)] rfl ?_|refine kS hst [(0,0),(2,200002)] rfl ?_|refine kA htk ?_|refine kD htk ?_|refine kA hbl ?_|refine kD hbl ?_|refine kW cfg_ok ?_|refine kC ?_|refine bdA ?_|refine bd2 ?_|refine bdR ?_|refine bdL ?_)<;>((try with_reducible refine evCut fun N hN hE hT=>?_);(conv=>whnf)))|(refine And.intro ?_ ?_;rotate_left;(conv=>whnf);rotate_right))
           all_goals first|rfl|omega|trace_state
         | false =>
           rw [hS] at hst
           rw [if_neg (by simp [h0])]
           generalize setC K I T2.item = S at *
           obtain ⟨S1,S2⟩:=S
           dsimp only at *
           by_cases h2 : S2 = 0
           · subst h2
             rw [if_neg (not_not_intro rfl)]
             have hke:=keep_ev w { p with bag:=T1 } c S1 hw (okP_bag hP hT.2 (by have:=hP.nb;omega)) (okC_right hK1) (fitC_right hK1)
             generalize keepA w S1 { p with bag:=T1 } = R at *
             by_cases hz : R.2 = 0
             · rw [aftM_ok hz] at hke ⊢
               rw [hz] at hke ⊢
               refine Ev1.of_fin cfg_ok Tryz.func34 rfl (nt:=76) rfl rfl rfl ?_
               ((try with_reducible refine evCut fun N hN hE hT=>?_);(conv=>whnf))
               repeat' (first|exact trivial|((first|((first|refine hT _ _ ?_|refine hE _ _ _ ?_|refine hN _ _ ?_);clear hN hE hT)|refine kL ?_|(refine ⟨fun hb=>?_,fun hb=>?_⟩<;>(try simp only [nrm] at hb)<;>(try (first|(exfalso;omega)|contradiction|exact kB hb)))|refine kR hai [(0,0)] rfl ?_|refine kS hai [(0,0)] rfl ?_|refine kR hst [(0,0),(2,200002)] rfl ?_|refine kS hst [(0,0),(2,200002)] rfl ?_|refine kE hke [(0,0)] rfl ?_|refine kF hke [(0,0)] rfl ?_|refine kA htk ?_|refine kD htk ?_|refine kA hbl ?_|refine kD hbl ?_|refine kA hset ?_|refine kD hset ?_|refine kW cfg_ok ?_|refine kC ?_|refine bdA ?_|refine bd2 ?_|refine bdR ?_|refine bdL ?_)<;>((try with_reducible refine evCut fun N hN hE hT=>?_);(conv=>whnf)))|(refine And.intro ?_ ?_;rotate_left;(conv=>whnf);rotate_right))
               all_goals first|rfl|omega|trace_state
             · rw [aftM_err hz] at hke ⊢
               refine Ev1.of_fin cfg_ok Tryz.func34 rfl (nt:=76) rfl rfl rfl ?_
               ((try with_reducible refine evCut fun N hN hE hT=>?_);(conv=>whnf))
               repeat' (first|exact trivial|((first|((first|refine hT _ _ ?_|refine hE _ _ _ ?_|refine hN _ _ ?_);clear hN hE hT)|refine kL ?_|(refine ⟨fun hb=>?_,fun hb=>?_⟩<;>(try simp only [nrm] at hb)<;>(try (first|(exfalso;omega)|contradiction|exact kB hb)))|refine kR hai [(0,0)] rfl ?_|refine kS hai [(0,0)] rfl ?_|refine kR hst [(0,0),(2,200002)] rfl ?_|refine kS hst [(0,0),(2,200002)] rfl ?_|refine kE hke [(0,0)] rfl ?_|refine kF hke [(0,0)] rfl ?_|refine kA htk ?_|refine kD htk ?_|refine kA hbl ?_|refine kD hbl ?_|refine kA hset ?_|refine kD hset ?_|refine kW cfg_ok ?_|refine kC ?_|refine bdA ?_|refine bd2 ?_|refine bdR ?_|refine bdL ?_)<;>((try with_reducible refine evCut fun N hN hE hT=>?_);(conv=>whnf)))|(refine And.intro ?_ ?_;rotate_left;(conv=>whnf);rotate_right))
               all_goals first|rfl|omega|trace_state
           · rw [if_pos h2,aftE_of h2]
             refine Ev1.of_fin cfg_ok Tryz.func34 rfl (nt:=76) rfl rfl rfl ?_
             ((try with_reducible refine evCut fun N hN hE hT=>?_);(conv=>whnf))
             repeat' (first|exact trivial|((first|((first|refine hT _ _ ?_|refine hE _ _ _ ?_|refine hN _ _ ?_);clear hN hE hT)|refine kL ?_|(refine ⟨fun hb=>?_,fun hb=>?_⟩<;>(try simp only [nrm] at hb)<;>(try (first|(exfalso;omega)|contradiction|exact kB hb)))|refine kR hai [(0,0)] rfl ?_|refine kS hai [(0,0)] rfl ?_|refine kR hst [(0,0),(2,200002)] rfl ?_|refine kS hst [(0,0),(2,200002)] rfl ?_|refine kA htk ?_|refine kD htk ?_|refine kA hbl ?_|refine kD hbl ?_|refine kA hset ?_|refine kD hset ?_|refine kW cfg_ok ?_|refine kC ?_|refine bdA ?_|refine bd2 ?_|refine bdR ?_|refine bdL ?_)<;>((try with_reducible refine evCut fun N hN hE hT=>?_);(conv=>whnf)))|(refine And.intro ?_ ?_;rotate_left;(conv=>whnf);rotate_right))
             all_goals first|rfl|omega|trace_state
       · rw [if_pos (.inl h0),aftE_of (e:=107) (by decide)]
         refine Ev1.of_fin cfg_ok Tryz.func34 rfl (nt:=76) rfl rfl rfl ?_
         ((try with_reducible refine evCut fun N hN hE hT=>?_);(conv=>whnf))
         repeat' (first|exact trivial|((first|((first|refine hT _ _ ?_|refine hE _ _ _ ?_|refine hN _ _ ?_);clear hN hE hT)|refine kL ?_|(refine ⟨fun hb=>?_,fun hb=>?_⟩<;>(try simp only [nrm] at hb)<;>(try (first|(exfalso;omega)|contradiction|exact kB hb)))|refine kR hai [(0,0)] rfl ?_|refine kS hai [(0,0)] rfl ?_|refine kR hst [(0,0),(2,200002)] rfl ?_|refine kS hst [(0,0),(2,200002)] rfl ?_|refine kA htk ?_|refine kD htk ?_|refine kA hbl ?_|refine kD hbl ?_|refine kW cfg_ok ?_|refine kC ?_|refine bdA ?_|refine bd2 ?_|refine bdR ?_|refine bdL ?_)<;>((try with_reducible refine evCut fun N hN hE hT=>?_);(conv=>whnf)))|(refine And.intro ?_ ?_;rotate_left;(conv=>whnf);rotate_right))
         all_goals first|rfl|omega|trace_state
   · rw [if_pos h1,aftE_of h1]
     refine Ev1.of_fin cfg_ok Tryz.func34 rfl (nt:=76) rfl rfl rfl ?_
     ((try with_reducible refine evCut fun N hN hE hT=>?_);(conv=>whnf))
     repeat' (first|exact trivial|((first|((first|refine hT _ _ ?_|refine hE _ _ _ ?_|refine hN _ _ ?_);clear hN hE hT)|refine kL ?_|(refine ⟨fun hb=>?_,fun hb=>?_⟩<;>(try simp only [nrm] at hb)<;>(try (first|(exfalso;omega)|contradiction|exact kB hb)))|refine kR hai [(0,0)] rfl ?_|refine kS hai [(0,0)] rfl ?_|refine kA htk ?_|refine kD htk ?_|refine kW cfg_ok ?_|refine kC ?_|refine bdA ?_|refine bd2 ?_|refine bdR ?_|refine bdL ?_)<;>((try with_reducible refine evCut fun N hN hE hT=>?_);(conv=>whnf)))|(refine And.intro ?_ ?_;rotate_left;(conv=>whnf);rotate_right))
     all_goals first|rfl|omega|trace_state
 · rw [if_neg hA,if_neg hA] at hai
   rw [if_pos hA,aftE_of hA]
   generalize aimE w p c.a c.b = E at *
   refine Ev1.of_fin cfg_ok Tryz.func34 rfl (nt:=76) rfl rfl rfl ?_
   ((try with_reducible refine evCut fun N hN hE hT=>?_);(conv=>whnf))
   repeat' (first|exact trivial|((first|((first|refine hT _ _ ?_|refine hE _ _ _ ?_|refine hN _ _ ?_);clear hN hE hT)|refine kL ?_|(refine ⟨fun hb=>?_,fun hb=>?_⟩<;>(try simp only [nrm] at hb)<;>(try (first|(exfalso;omega)|contradiction|exact kB hb)))|refine kR hai [(0,0)] rfl ?_|refine kS hai [(0,0)] rfl ?_|refine kW cfg_ok ?_|refine kC ?_|refine bdA ?_|refine bd2 ?_|refine bdR ?_|refine bdL ?_)<;>((try with_reducible refine evCut fun N hN hE hT=>?_);(conv=>whnf)))|(refine And.intro ?_ ?_;rotate_left;(conv=>whnf);rotate_right))
   all_goals first|rfl|omega|trace_state
open Go Go.RowKit Eng
theorem spendR_zero0 (i : Int) {n : Int} (hn : n ≤ 0) : ∀ l : List Slot,spendR i l n = l
 | []=>rfl
 | s :: r=>by simp only [spendR];rw [if_pos hn]
theorem rev_take {l : List Slot} {j : Nat} (h : j < l.length) : (l.take (j + 1)).reverse = elt .slot l j :: (l.take j).reverse:=by
 rw [List.take_add_one,elt_get .slot l j h,List.reverse_append];rfl
theorem elt_take {l r : List Slot} {j k : Nat} (h : r.take k = l.take k) (hj : j < k) : elt .slot r j = elt .slot l j:=by
 unfold elt
 have h1 : (r.take k)[j]? = r[j]?:=by rw [List.getElem?_take,if_pos hj]
 have h2 : (l.take k)[j]? = l[j]?:=by rw [List.getElem?_take,if_pos hj]
 rw [← h1,← h2,h]
structure SpI (l : List Slot) (i N : Int) (j : Nat) (n : Int) (r : List Slot) : Prop where
 jl : j ≤ l.length
 len : r.length = l.length
 nz : 0 ≤ n
 nn : n ≤ 9223372036854775807
 pre : r.take j = l.take j
 out : (spendR i (l.take j).reverse n).reverse ++ r.drop j = spendL l i N
theorem SpI.hit {l : List Slot} {i n0 : Int} {j : Nat} {n : Int} {r : List Slot} (h : SpI l i n0 (j + 1) n r) (hi : (elt .slot r j).item = i) (hn : 0 < n) (hs : 0 ≤ (elt .slot r j).n) :
   SpI l i n0 j (n - min (elt .slot r j).n n) (r.set j (lessS (elt .slot r j) (min (elt .slot r j).n n))):=by
 have hj:=h.jl
 have hl:=h.len
 have he:=elt_take h.pre (Nat.lt_succ_self j)
 refine ⟨by omega,by rw [List.length_set];exact hl,by omega,by have:=h.nn;omega,?_,?_⟩
 · rw [List.take_set_of_le (Nat.le_refl j)]
   have:=congrArg (List.take j) h.pre
   rwa [List.take_take,List.take_take,Nat.min_eq_left (by omega)] at this
 · rw [← h.out,rev_take (by omega),← he]
   simp only [spendR]
   rw [if_neg (by omega),if_pos hi,List.reverse_cons,List.append_assoc]
   congr 1
   rw [List.drop_set,if_neg (by omega),Nat.sub_self,drop_elt (t:=.slot) (by omega : j < r.length)]
   rfl
theorem SpI.miss {l : List Slot} {i n0 : Int} {j : Nat} {n : Int} {r : List Slot} (h : SpI l i n0 (j + 1) n r) (hi : ¬ (elt .slot r j).item = i) (hn : 0 < n) : SpI l i n0 j n r:=by
 have hj:=h.jl
 have hl:=h.len
 have he:=elt_take h.pre (Nat.lt_succ_self j)
 refine ⟨by omega,hl,h.nz,h.nn,?_,?_⟩
 · have:=congrArg (List.take j) h.pre
   rwa [List.take_take,List.take_take,Nat.min_eq_left (by omega)] at this
 · rw [← h.out,rev_take (by omega),← he]
   simp only [spendR]
   rw [if_neg (by omega),if_neg hi,List.reverse_cons,List.append_assoc]
   congr 1
   rw [drop_elt (t:=.slot) (by omega : j < r.length)]
   rfl
theorem SpI.done {l : List Slot} {i n0 : Int} {j : Nat} {n : Int} {r : List Slot} (h : SpI l i n0 j n r) (hd : j = 0 ∨ n ≤ 0) : r = spendL l i n0:=by
 rw [← h.out]
 rcases hd with rfl|hd
 · simp [spendR]
 · rw [spendR_zero0 i hd,List.reverse_reverse,← h.pre,List.take_append_drop]
theorem lend1b {P : Program} {fid : FuncId} {l : List (El .slot)} {n : Nat} {i : Int} {v : AV} (h : Api P fid [.vec .slot l,.lit (.int .u8 i)] v) (hn : n = l.length) (hv : scalB v = true) :
   Ev1 P fid [.own .slot 1 0 n none,.lit (.int .u8 i)] [(1,.row .slot l)] v [(1,.row .slot l)]:=by
 subst hn
 refine Api.lend h ?_ hv
 conv=>whnf
 refine ⟨by omega,?_⟩
 conv=>whnf
 simp only [List.drop_zero,List.take_length]
theorem spend_api (l : List (El .slot)) (i n : Int) (hl : l.length * 16 ≤ 140737488355328) (hw : ∀ s ∈ l,okSlot s) (hn : n ≤ 9223372036854775807) : Api Tryz.prog 82 [.vec .slot l,.lit (.int .u8 i),i64 n] (.tup [.vec .slot (spendS l i n).1,i64 (spendS l i n).2]):=by
 have hrt:=right_api l (by unfold big;omega) hw
 unfold spendS
 cases hb : bagOk l with
 | false =>
   rw [if_pos rfl]
   rw [hb] at hrt
   refine Api.of_fin cfg_ok Tryz.func82 rfl (nt:=58) rfl rfl ?_
   ((try with_reducible refine evCut fun N hN hE hT=>?_);(conv=>whnf))
   repeat' (first|exact trivial|((first|((first|refine hT _ _ ?_|refine hE _ _ _ ?_|refine hN _ _ ?_);clear hN hE hT)|refine kL ?_|(refine ⟨fun hb=>?_,fun hb=>?_⟩<;>(try simp only [nrm] at hb)<;>(try (first|(exfalso;omega)|contradiction|exact kB hb)))|(refine isE 89 ?_;refine kE (clone_slots l (by omega)) [(390001,150001)] rfl ?_)|(refine isD 89 ?_;refine kF (clone_slots l (by omega)) [(390001,150001)] rfl ?_)|refine kE (lend1 hrt rfl rfl) [(1,150001)] rfl ?_|refine kF (lend1 hrt rfl rfl) [(1,150001)] rfl ?_|refine kW cfg_ok ?_|refine kC ?_|refine bdA ?_|refine bd2 ?_|refine bdR ?_|refine bdL ?_)<;>((try with_reducible refine evCut fun N hN hE hT=>?_);(conv=>whnf)))|(refine And.intro ?_ ?_;rotate_left;(conv=>whnf);rotate_right))
   all_goals first|(rw [List.drop_zero];exact List.take_length)|trace_state
 | true =>
   rw [if_neg (by simp)]
   rw [hb] at hrt
   have hsm:=bagOk_small hb
   have hct:=count_api l i (fun s hs=>(hsm s hs).2) (by omega)
   by_cases h1 : n < 1
   · rw [if_pos h1]
     refine Api.of_fin cfg_ok Tryz.func82 rfl (nt:=58) rfl rfl ?_
     ((try with_reducible refine evCut fun N hN hE hT=>?_);(conv=>whnf))
     repeat' (first|exact trivial|((first|((first|refine hT _ _ ?_|refine hE _ _ _ ?_|refine hN _ _ ?_);clear hN hE hT)|refine kL ?_|(refine ⟨fun hb=>?_,fun hb=>?_⟩<;>(try simp only [nrm] at hb)<;>(try (first|(exfalso;omega)|contradiction|exact kB hb)))|(refine isE 89 ?_;refine kE (clone_slots l (by omega)) [(390001,150001)] rfl ?_)|(refine isD 89 ?_;refine kF (clone_slots l (by omega)) [(390001,150001)] rfl ?_)|refine kE (lend1 hrt rfl rfl) [(1,150001)] rfl ?_|refine kF (lend1 hrt rfl rfl) [(1,150001)] rfl ?_|refine kW cfg_ok ?_|refine kC ?_|refine bdA ?_|refine bd2 ?_|refine bdR ?_|refine bdL ?_)<;>((try with_reducible refine evCut fun N hN hE hT=>?_);(conv=>whnf)))|(refine And.intro ?_ ?_;rotate_left;(conv=>whnf);rotate_right))
     all_goals first|(rw [List.drop_zero];exact List.take_length)|trace_state
   · rw [if_neg h1]
     by_cases h2 : countS l i < n
     · rw [if_pos h2]
       generalize countS l i = C at *
       refine Api.of_fin cfg_ok Tryz.func82 rfl (nt:=58) rfl rfl ?_
       ((try with_reducible refine evCut fun N hN hE hT=>?_);(conv=>whnf))
       repeat' (first|exact trivial|((first|((first|refine hT _ _ ?_|refine hE _ _ _ ?_|refine hN _ _ ?_);clear hN hE hT)|refine kL ?_|(refine ⟨fun hb=>?_,fun hb=>?_⟩<;>(try simp only [nrm] at hb)<;>(try (first|(exfalso;omega)|contradiction|exact kB hb)))|(refine isE 89 ?_;refine kE (clone_slots l (by omega)) [(390001,150001)] rfl ?_)|(refine isD 89 ?_;refine kF (clone_slots l (by omega)) [(390001,150001)] rfl ?_)|refine kE (lend1 hrt rfl rfl) [(1,150001)] rfl ?_|refine kF (lend1 hrt rfl rfl) [(1,150001)] rfl ?_|refine kE (lend1b hct rfl rfl) [(1,150001)] rfl ?_|refine kF (lend1b hct rfl rfl) [(1,150001)] rfl ?_|refine kW cfg_ok ?_|refine kC ?_|refine bdA ?_|refine bd2 ?_|refine bdR ?_|refine bdL ?_)<;>((try with_reducible refine evCut fun N hN hE hT=>?_);(conv=>whnf)))|(refine And.intro ?_ ?_;rotate_left;(conv=>whnf);rotate_right))
       all_goals first|(rw [List.drop_zero];exact List.take_length)|trace_state
     · rw [if_neg h2]
       have h0 : SpI l i n l.length n l:=⟨Nat.le_refl _,rfl,by omega,hn,rfl,by rw [List.take_length,List.drop_length,List.append_nil];rfl⟩
       generalize countS l i = C at *
       refine Api.of_fin cfg_ok Tryz.func82 rfl (nt:=58) rfl rfl ?_
       ((try with_reducible refine evCut fun N hN hE hT=>?_);(conv=>whnf))
       repeat' (first|exact trivial|((first|((first|refine hT _ _ ?_|refine hE _ _ _ ?_|refine hN _ _ ?_);clear hN hE hT)|refine kL ?_|(refine ⟨fun hb=>?_,fun hb=>?_⟩<;>(try simp only [nrm] at hb)<;>(try (first|(exfalso;omega)|contradiction|exact kB hb)))|(refine isE 89 ?_;refine kE (clone_slots l (by omega)) [(390001,150001)] rfl ?_)|(refine isD 89 ?_;refine kF (clone_slots l (by omega)) [(390001,150001)] rfl ?_)|refine kE (lend1 hrt rfl rfl) [(1,150001)] rfl ?_|refine kF (lend1 hrt rfl rfl) [(1,150001)] rfl ?_|refine kE (lend1b hct rfl rfl) [(1,150001)] rfl ?_|refine kF (lend1b hct rfl rfl) [(1,150001)] rfl ?_|refine kW cfg_ok ?_|refine kC ?_|refine bdA ?_|refine bd2 ?_|refine bdR ?_|refine bdL ?_)<;>((try with_reducible refine evCut fun N hN hE hT=>?_);(conv=>whnf)))|(refine And.intro ?_ ?_;rotate_left;(conv=>whnf);rotate_right))
       refine Runs.loopS cfg_ok (σ:=Nat × Int × List Slot) [0,1,2,8] (fun (j,m,_)=>[.own .slot 150001 0 l.length none,.lit (.int .u8 i),i64 m,i64 ((j : Int) - 1)]) (fun (_,_,r)=>[(150001,.row .slot r)]) (fun (j,m,r)=>SpI l i n j m r) (fun (j,_,_)=>j) (l.length,n,l) h0 ?_ ?_
       · conv=>whnf
         repeat' (first|exact trivial|((first|((first|refine hT _ _ ?_|refine hE _ _ _ ?_|refine hN _ _ ?_);clear hN hE hT)|refine kL ?_|(refine ⟨fun hb=>?_,fun hb=>?_⟩<;>(try simp only [nrm] at hb)<;>(try (first|(exfalso;omega)|contradiction|exact kB hb)))|refine kW cfg_ok ?_|refine kC ?_|refine bdA ?_|refine bd2 ?_|refine bdR ?_|refine bdL ?_)<;>((try with_reducible refine evCut fun N hN hE hT=>?_);(conv=>whnf)))|(refine And.intro ?_ ?_;rotate_left;(conv=>whnf);rotate_right))
         all_goals first|exact List.take_length|trace_state
       · rintro ⟨j,m,r⟩ hI
         dsimp only at hI
         have hj:=hI.jl
         have hlen:=hI.len
         have hm0:=hI.nz
         have hmm:=hI.nn
         cases j with
         | zero =>
           have hX:=hI.done (.inl rfl)
           conv=>whnf
           repeat' (first|exact trivial|((first|((first|refine hT _ _ ?_|refine hE _ _ _ ?_|refine hN _ _ ?_);clear hN hE hT)|refine kL ?_|(refine ⟨fun hb=>?_,fun hb=>?_⟩<;>(try simp only [nrm] at hb)<;>(try (first|(exfalso;omega)|contradiction|exact kB hb)))|refine kW cfg_ok ?_|refine kC ?_|refine bdA ?_|refine bd2 ?_|refine bdR ?_|refine bdL ?_)<;>((try with_reducible refine evCut fun N hN hE hT=>?_);(conv=>whnf)))|(refine And.intro ?_ ?_;rotate_left;(conv=>whnf);rotate_right))
           all_goals first|exact hX|(rw [List.drop_zero];exact (take_all hlen).trans hX)|trace_state
         | succ j =>
           have hsj : 0 ≤ (elt .slot r j).n ∧ (elt .slot r j).n ≤ 16:=by rw [elt_take hI.pre (Nat.lt_succ_self j)];exact hsm _ (elt_mem (t:=.slot) (by omega))
           have hsj2 : (elt .slot r (j + 0)).n = (elt .slot r j).n:=rfl
           by_cases hm : 0 < m
           · by_cases hi : (elt .slot r j).item = i
             · have e1 : (((j + 1 : Nat) : Int) - 1).toNat = j:=by omega
               have e2 : (((j + 1 : Nat) : Int) - 1).toNat + 0 = j:=by omega
               have hle:=less_ev r l.length (((j + 1 : Nat) : Int) - 1) (min (elt .slot r j).n m) hlen.symm (by omega) (by omega) (by rw [e1];exact hsj) (by omega) (by rw [e1];omega)
               rw [e1] at hle
               have hi2 : (elt .slot r ((((j + 1 : Nat) : Int) - 1).toNat + 0)).item = i:=by rw [e2];exact hi
               have hq : min (elt .slot r ((((j + 1 : Nat) : Int) - 1).toNat + 0)).n m = min (elt .slot r j).n m:=by rw [e2]
               have hN:=hI.hit hi hm hsj.1
               rw [← hq] at hle hN
               have hb1 : 0 ≤ (elt .slot r ((((j + 1 : Nat) : Int) - 1).toNat + 0)).n:=by rw [e2];omega
               conv=>whnf
               repeat' (first|exact trivial|((first|((first|refine hT _ _ ?_|refine hE _ _ _ ?_|refine hN _ _ ?_);clear hN hE hT)|refine kL ?_|(refine ⟨fun hb=>?_,fun hb=>?_⟩<;>(try simp only [nrm] at hb)<;>(try (first|(exfalso;omega)|contradiction|exact kB hb)))|refine kE hle [(1,150001)] rfl ?_|refine kF hle [(1,150001)] rfl ?_|refine kW cfg_ok ?_|refine kC ?_|refine bdA ?_|refine bd2 ?_|refine bdR ?_|refine bdL ?_)<;>((try with_reducible refine evCut fun N hN hE hT=>?_);(conv=>whnf)))|(refine And.intro ?_ ?_;rotate_left;(conv=>whnf);rotate_right))
               refine .to (j,_,_) hN (by dsimp only;omega) ?_
               conv=>whnf
               repeat' (first|exact trivial|((first|((first|refine hT _ _ ?_|refine hE _ _ _ ?_|refine hN _ _ ?_);clear hN hE hT)|refine kL ?_|(refine ⟨fun hb=>?_,fun hb=>?_⟩<;>(try simp only [nrm] at hb)<;>(try (first|(exfalso;omega)|contradiction|exact kB hb)))|refine kW cfg_ok ?_|refine kC ?_|refine bdA ?_|refine bd2 ?_|refine bdR ?_|refine bdL ?_)<;>((try with_reducible refine evCut fun N hN hE hT=>?_);(conv=>whnf)))|(refine And.intro ?_ ?_;rotate_left;(conv=>whnf);rotate_right))
               all_goals first|exact take_all (by rw [List.length_set];exact hlen)|exact take_all hlen|trace_state
             · have e2 : (((j + 1 : Nat) : Int) - 1).toNat + 0 = j:=by omega
               have hi2 : ¬ (elt .slot r ((((j + 1 : Nat) : Int) - 1).toNat + 0)).item = i:=by rw [e2];exact hi
               conv=>whnf
               repeat' (first|exact trivial|((first|((first|refine hT _ _ ?_|refine hE _ _ _ ?_|refine hN _ _ ?_);clear hN hE hT)|refine kL ?_|(refine ⟨fun hb=>?_,fun hb=>?_⟩<;>(try simp only [nrm] at hb)<;>(try (first|(exfalso;omega)|contradiction|exact kB hb)))|refine kW cfg_ok ?_|refine kC ?_|refine bdA ?_|refine bd2 ?_|refine bdR ?_|refine bdL ?_)<;>((try with_reducible refine evCut fun N hN hE hT=>?_);(conv=>whnf)))|(refine And.intro ?_ ?_;rotate_left;(conv=>whnf);rotate_right))
               refine .to (j,m,r) (hI.miss hi hm) (by dsimp only;omega) ?_
               conv=>whnf
               repeat' (first|exact trivial|((first|((first|refine hT _ _ ?_|refine hE _ _ _ ?_|refine hN _ _ ?_);clear hN hE hT)|refine kL ?_|(refine ⟨fun hb=>?_,fun hb=>?_⟩<;>(try simp only [nrm] at hb)<;>(try (first|(exfalso;omega)|contradiction|exact kB hb)))|refine kW cfg_ok ?_|refine kC ?_|refine bdA ?_|refine bd2 ?_|refine bdR ?_|refine bdL ?_)<;>((try with_reducible refine evCut fun N hN hE hT=>?_);(conv=>whnf)))|(refine And.intro ?_ ?_;rotate_left;(conv=>whnf);rotate_right))
               all_goals first|exact take_all (by rw [List.length_set];exact hlen)|exact take_all hlen|trace_state
           · have hX:=hI.done (.inr (by omega))
             conv=>whnf
             repeat' (first|exact trivial|((first|((first|refine hT _ _ ?_|refine hE _ _ _ ?_|refine hN _ _ ?_);clear hN hE hT)|refine kL ?_|(refine ⟨fun hb=>?_,fun hb=>?_⟩<;>(try simp only [nrm] at hb)<;>(try (first|(exfalso;omega)|contradiction|exact kB hb)))|refine kW cfg_ok ?_|refine kC ?_|refine bdA ?_|refine bd2 ?_|refine bdR ?_|refine bdL ?_)<;>((try with_reducible refine evCut fun N hN hE hT=>?_);(conv=>whnf)))|(refine And.intro ?_ ?_;rotate_left;(conv=>whnf);rotate_right))
             all_goals first|exact hX|(rw [List.drop_zero];exact (take_all hlen).trans hX)|trace_state
open Go Go.RowKit Eng
def recipesR : List Recipe:=[⟨[⟨3,1⟩],⟨5,4⟩⟩,⟨[⟨5,2⟩],⟨6,4⟩⟩,⟨[⟨5,8⟩],⟨9,1⟩⟩,⟨[⟨6,1⟩,⟨7,1⟩],⟨10,4⟩⟩,⟨[⟨7,1⟩,⟨3,1⟩],⟨8,1⟩⟩,⟨[⟨6,2⟩,⟨8,3⟩],⟨12,1⟩⟩,⟨[⟨2,4⟩,⟨1,1⟩],⟨7,1⟩⟩]
theorem recipes_api  : Api Tryz.prog 148 [] (.vec .recipe recipesR):=by
 refine Api.of_fin cfg_ok Tryz.func148 rfl (nt:=34) rfl rfl ?_
 ((try with_reducible refine evCut fun N hN hE hT=>?_);(conv=>whnf))
 repeat' (first|exact trivial|((first|((first|refine hT _ _ ?_|refine hE _ _ _ ?_|refine hN _ _ ?_);clear hN hE hT)|refine kL ?_|(refine ⟨fun hb=>?_,fun hb=>?_⟩<;>(try simp only [nrm] at hb)<;>(try (first|(exfalso;omega)|contradiction|exact kB hb)))|refine kW cfg_ok ?_|refine kC ?_|refine bdA ?_|refine bd2 ?_|refine bdR ?_|refine bdL ?_)<;>((try with_reducible refine evCut fun N hN hE hT=>?_);(conv=>whnf)))|(refine And.intro ?_ ?_;rotate_left;(conv=>whnf);rotate_right))
 all_goals first|rfl|trace_state
theorem recipe_at {n : Int} (h : 0 ≤ n) (h2 : n < 7) : recipeN n = some ((elt .recipe recipesR n.toNat).of,(elt .recipe recipesR n.toNat).makes):=by
 have : n = 0 ∨ n = 1 ∨ n = 2 ∨ n = 3 ∨ n = 4 ∨ n = 5 ∨ n = 6:=by omega
 rcases this with rfl|rfl|rfl|rfl|rfl|rfl|rfl<;>rfl
theorem recipe_out {n : Int} (h : ¬ (0 ≤ n ∧ n < 7)) : recipeN n = none:=by
 unfold recipeN
 by_cases h0 : n < 0
 · rw [if_pos h0]
 · rw [if_neg h0]
   exact List.getElem?_eq_none (by show 7 ≤ n.toNat;omega)
theorem recipe_none (n : Int) (h : ¬ (0 ≤ n ∧ n < 7)) : Api Tryz.prog 120 [i64 n] (.tup [.vec .slot [],.agg [.lit (.int .u8 0),i64 0],bol false]):=by
 have hr:=recipes_api
 have hl : recipesR.length = 7:=rfl
 generalize recipesR = R at *
 refine Api.of_fin cfg_ok Tryz.func120 rfl (nt:=25) rfl rfl ?_
 ((try with_reducible refine evCut fun N hN hE hT=>?_);(conv=>whnf))
 repeat' (first|exact trivial|((first|((first|refine hT _ _ ?_|refine hE _ _ _ ?_|refine hN _ _ ?_);clear hN hE hT)|refine kL ?_|(refine ⟨fun hb=>?_,fun hb=>?_⟩<;>(try simp only [nrm] at hb)<;>(try (first|(exfalso;omega)|contradiction|exact kB hb)))|refine kA hr ?_|refine kD hr ?_|refine kW cfg_ok ?_|refine kC ?_|refine bdA ?_|refine bd2 ?_|refine bdR ?_|refine bdL ?_)<;>((try with_reducible refine evCut fun N hN hE hT=>?_);(conv=>whnf)))|(refine And.intro ?_ ?_;rotate_left;(conv=>whnf);rotate_right))
 all_goals first|omega|rfl|trace_state
theorem recipe_some (n : Int) (h : 0 ≤ n) (h2 : n < 7) : Api Tryz.prog 120 [i64 n] (.tup [.vec .slot (elt .recipe recipesR n.toNat).of,.agg [.lit (.int .u8 (elt .recipe recipesR n.toNat).makes.item),i64 (elt .recipe recipesR n.toNat).makes.n],bol true]):=by
 have hr:=recipes_api
 have hl : recipesR.length = 7:=rfl
 generalize recipesR = R at *
 refine Api.of_fin cfg_ok Tryz.func120 rfl (nt:=25) rfl rfl ?_
 ((try with_reducible refine evCut fun N hN hE hT=>?_);(conv=>whnf))
 repeat' (first|exact trivial|((first|((first|refine hT _ _ ?_|refine hE _ _ _ ?_|refine hN _ _ ?_);clear hN hE hT)|refine kL ?_|(refine ⟨fun hb=>?_,fun hb=>?_⟩<;>(try simp only [nrm] at hb)<;>(try (first|(exfalso;omega)|contradiction|exact kB hb)))|refine kA hr ?_|refine kD hr ?_|refine kW cfg_ok ?_|refine kC ?_|refine bdA ?_|refine bd2 ?_|refine bdR ?_|refine bdL ?_)<;>((try with_reducible refine evCut fun N hN hE hT=>?_);(conv=>whnf)))|(refine And.intro ?_ ?_;rotate_left;(conv=>whnf);rotate_right))
 all_goals first|omega|rfl|trace_state
def wantB (l : List Slot) (s : Slot) : Bool:=decide (countS l s.item < s.n)
theorem mk1_ev (l : List (El .slot)) (hs : ∀ s ∈ l,s.n ≤ 16) (hl : l.length ≤ 100000000000000000) (s : Slot) (h : anySlot s) : Ev1 Tryz.prog 121 [.agg [.lit (.int .u8 s.item),.lit (.int .i64 s.n)],.ptr 0 0] [(0,.box [.vec .slot l])] (bol (wantB l s)) [(0,.box [.vec .slot l])]:=by
 have hc:=count_api l s.item hs hl
 refine Ev1.of_fin cfg_ok Tryz.func121 rfl (nt:=9) rfl rfl rfl ?_
 ((try with_reducible refine evCut fun N hN hE hT=>?_);(conv=>whnf))
 repeat' (first|exact trivial|((first|((first|refine hT _ _ ?_|refine hE _ _ _ ?_|refine hN _ _ ?_);clear hN hE hT)|refine kL ?_|(refine ⟨fun hb=>?_,fun hb=>?_⟩<;>(try simp only [nrm] at hb)<;>(try (first|(exfalso;omega)|contradiction|exact kB hb)))|refine kA hc ?_|refine kD hc ?_|refine kW cfg_ok ?_|refine kC ?_|refine bdA ?_|refine bd2 ?_|refine bdR ?_|refine bdL ?_)<;>((try with_reducible refine evCut fun N hN hE hT=>?_);(conv=>whnf)))|(refine And.intro ?_ ?_;rotate_left;(conv=>whnf);rotate_right))
 all_goals first|rfl|trace_state
theorem idx_wantM (l0 : List (El .slot)) (hs0 : ∀ s ∈ l0,s.n ≤ 16) (hl0 : l0.length ≤ 100000000000000000) (l : List (El .slot)) (hl : l.length ≤ big) (hw : ∀ s ∈ l,anySlot s) : Ev1 Tryz.prog 145 [.vec .slot l,.clo (.func 121) [] [.ptr 0 0]] [(0,.box [.vec .slot l0])] (i64 (idxGo (wantB l0) l 0)) [(0,.box [.vec .slot l0])]:=by
 unfold big at hl
 refine Ev1.of_fin cfg_ok Tryz.func145 rfl (nt:=17) rfl rfl rfl ?_
 conv=>whnf
 refine Runs.loopS cfg_ok (σ:=Nat) [0,1,7,8] (fun k=>[.vec .slot l,.clo (.func 121) [] [.ptr 0 0],i64 l.length,i64 k]) (fun _=>[(0,.box [.vec .slot l0])]) (fun k=>k ≤ l.length ∧ idxGo (wantB l0) (l.drop k) k = idxGo (wantB l0) l 0) (fun k=>l.length - k) 0 ⟨by omega,rfl⟩ ?_ ?_
 · conv=>whnf
   repeat' (first|exact trivial|((first|refine kL ?_|(refine ⟨fun hb=>?_,fun hb=>?_⟩<;>(try simp only [nrm] at hb)<;>(try (first|(exfalso;omega)|contradiction|exact kB hb)))|refine kW cfg_ok ?_|refine kC ?_|refine bdA ?_|refine bd2 ?_|refine bdR ?_|refine bdL ?_)<;>(conv=>whnf))|(refine And.intro ?_ ?_;rotate_left;(conv=>whnf);rotate_right))
 · intro k ⟨hk,he⟩
   by_cases hlt : k < l.length
   · rw [drop_elt hlt] at he
     simp only [idxGo] at he
     have hcl:=mk1_ev l0 hs0 hl0 _ (hw _ (elt_mem' (t:=.slot) (i:=(k : Int)) (by omega) (by omega)))
     rw [Int.toNat_natCast] at hcl
     cases hP : (wantB l0) (elt .slot l k) with
     | true =>
       rw [hP] at he hcl
       conv=>whnf
       repeat' (first|exact trivial|((first|refine kL ?_|(refine ⟨fun hb=>?_,fun hb=>?_⟩<;>(try simp only [nrm] at hb)<;>(try (first|(exfalso;omega)|contradiction|exact kB hb)))|refine kE hcl [(0,0)] rfl ?_|refine kF hcl [(0,0)] rfl ?_|refine kW cfg_ok ?_|refine kC ?_|refine bdA ?_|refine bd2 ?_|refine bdR ?_|refine bdL ?_)<;>(conv=>whnf))|(refine And.intro ?_ ?_;rotate_left;(conv=>whnf);rotate_right))
       rw [← he];rfl
     | false =>
       rw [hP] at he hcl
       conv=>whnf
       repeat' (first|exact trivial|((first|refine kL ?_|(refine ⟨fun hb=>?_,fun hb=>?_⟩<;>(try simp only [nrm] at hb)<;>(try (first|(exfalso;omega)|contradiction|exact kB hb)))|refine kE hcl [(0,0)] rfl ?_|refine kF hcl [(0,0)] rfl ?_|refine kW cfg_ok ?_|refine kC ?_|refine bdA ?_|refine bd2 ?_|refine bdR ?_|refine bdL ?_)<;>(conv=>whnf))|(refine And.intro ?_ ?_;rotate_left;(conv=>whnf);rotate_right))
       refine .to (k + 1) ⟨hlt,?_⟩ (by omega) ?_
       · rw [← he];rfl
       · conv=>whnf
         repeat' (first|exact trivial|((first|refine kL ?_|(refine ⟨fun hb=>?_,fun hb=>?_⟩<;>(try simp only [nrm] at hb)<;>(try (first|(exfalso;omega)|contradiction|exact kB hb)))|refine kW cfg_ok ?_|refine kC ?_|refine bdA ?_|refine bd2 ?_|refine bdR ?_|refine bdL ?_)<;>(conv=>whnf))|(refine And.intro ?_ ?_;rotate_left;(conv=>whnf);rotate_right))
   · conv=>whnf
     repeat' (first|exact trivial|((first|refine kL ?_|(refine ⟨fun hb=>?_,fun hb=>?_⟩<;>(try simp only [nrm] at hb)<;>(try (first|(exfalso;omega)|contradiction|exact kB hb)))|refine kW cfg_ok ?_|refine kC ?_|refine bdA ?_|refine bd2 ?_|refine bdR ?_|refine bdL ?_)<;>(conv=>whnf))|(refine And.intro ?_ ?_;rotate_left;(conv=>whnf);rotate_right))
     have : k = l.length:=by omega
     subst this
     simp only [List.drop_length,idxGo] at he
     rw [← he]
theorem has_wantM (l0 : List (El .slot)) (hs0 : ∀ s ∈ l0,s.n ≤ 16) (hl0 : l0.length ≤ 100000000000000000) (l : List (El .slot)) (hl : l.length ≤ big) (hw : ∀ s ∈ l,anySlot s) : Ev1 Tryz.prog 108 [.vec .slot l,.clo (.func 121) [] [.ptr 0 0]] [(0,.box [.vec .slot l0])] (bol (l.any (wantB l0))) [(0,.box [.vec .slot l0])]:=by
 refine Ev1.of_fin cfg_ok Tryz.func108 rfl (nt:=7) rfl rfl rfl ?_
 conv=>whnf
 repeat' (first|exact trivial|((first|refine kL ?_|(refine ⟨fun hb=>?_,fun hb=>?_⟩<;>(try simp only [nrm] at hb)<;>(try (first|(exfalso;omega)|contradiction|exact kB hb)))|(refine isE 145 ?_;refine kE (idx_wantM l0 hs0 hl0 l hl hw) [(0,0)] rfl ?_)|(refine isD 145 ?_;refine kF (idx_wantM l0 hs0 hl0 l hl hw) [(0,0)] rfl ?_)|refine kW cfg_ok ?_|refine kC ?_|refine bdA ?_|refine bd2 ?_|refine bdR ?_|refine bdL ?_)<;>(conv=>whnf))|(refine And.intro ?_ ?_;rotate_left;(conv=>whnf);rotate_right))
 all_goals (first|rw [idxGo_any]|skip)
theorem spends_next {l wants : List Slot} {k : Nat} (h : k < wants.length) : (wants.take (k + 1)).foldl (fun b (s : Slot)=>(spendS b s.item s.n).1) l = (spendS ((wants.take k).foldl (fun b (s : Slot)=>(spendS b s.item s.n).1) l) (elt .slot wants k).item (elt .slot wants k).n).1:=by
 rw [List.take_add_one,elt_get .slot wants k h,List.foldl_append];rfl
theorem spends_any (wants : List Slot) : ∀ (l : List Slot),bagOk l = true → (wants.foldl (fun b (s : Slot)=>(spendS b s.item s.n).1) l).length = l.length ∧ bagOk (wants.foldl (fun b (s : Slot)=>(spendS b s.item s.n).1) l) = true:=by
 induction wants with
 | nil=>intro l h;exact ⟨rfl,h⟩
 | cons a r ih =>
   intro l h
   obtain ⟨h1,h2⟩:=spendS_any l a.item a.n
   obtain ⟨i1,i2⟩:=ih _ (h2 h)
   exact ⟨i1.trans h1,i2⟩
theorem len16 {a b : Nat} (h : a = b) (h2 : b * 16 ≤ 140737488351232) : a * 16 ≤ 140737488355328:=by omega
theorem make_api (l : List (El .slot)) (n : Int) (hl : l.length * 16 ≤ 140737488351232) (hw : ∀ s ∈ l,okSlot s) : Api Tryz.prog 81 [.vec .slot l,i64 n] (.tup [.vec .slot (makeS l n).1,i64 (makeS l n).2]):=by
 have hrt:=bagRight_api l l.length (by unfold big;omega) hw
 rw [decide_eq_true (rfl : (l.length : Int) = l.length),Bool.true_and] at hrt
 have hcl:=cloneV_slots l (by omega)
 unfold makeS
 by_cases hn : 0 ≤ n ∧ n < 7
 · have hre:=recipe_some n hn.1 hn.2
   have hrn:=recipe_at hn.1 hn.2
   obtain ⟨r1,r2,r3,r4,r5,r6,r7⟩:=recipe_ok hrn
   rw [hrn]
   generalize (elt .recipe recipesR n.toNat).of = W at *
   generalize (elt .recipe recipesR n.toNat).makes = M at *
   dsimp only
   cases hb : bagOk l with
   | false =>
     rw [if_pos rfl]
     rw [hb] at hrt
     refine Api.of_fin cfg_ok Tryz.func81 rfl (nt:=68) rfl rfl ?_
     ((try with_reducible refine evCut fun N hN hE hT=>?_);(conv=>whnf))
     repeat' (first|exact trivial|((first|((first|refine hT _ _ ?_|refine hE _ _ _ ?_|refine hN _ _ ?_);clear hN hE hT)|refine kL ?_|(refine ⟨fun hb=>?_,fun hb=>?_⟩<;>(try simp only [nrm] at hb)<;>(try (first|(exfalso;omega)|contradiction|exact kB hb)))|refine kA hcl ?_|refine kD hcl ?_|refine kA hre ?_|refine kD hre ?_|refine kA hrt ?_|refine kD hrt ?_|refine kW cfg_ok ?_|refine kC ?_|refine bdA ?_|refine bd2 ?_|refine bdR ?_|refine bdL ?_)<;>((try with_reducible refine evCut fun N hN hE hT=>?_);(conv=>whnf)))|(refine And.intro ?_ ?_;rotate_left;(conv=>whnf);rotate_right))
     all_goals first|rfl|trace_state
   | true =>
     rw [if_neg (by simp)]
     rw [hb] at hrt
     have hsm:=bagOk_small hb
     have hwm:=has_wantM l (fun s hs=>(hsm s hs).2) (by omega) W (by unfold big;omega) (fun s _=>trivial)
     change Ev1 _ _ _ _ (bol (W.any (fun s=>decide (countS l s.item < s.n)))) _ at hwm
     cases hA : W.any (fun s=>decide (countS l s.item < s.n)) with
     | true =>
       rw [if_pos rfl]
       rw [hA] at hwm
       refine Api.of_fin cfg_ok Tryz.func81 rfl (nt:=68) rfl rfl ?_
       ((try with_reducible refine evCut fun N hN hE hT=>?_);(conv=>whnf))
       repeat' (first|exact trivial|((first|((first|refine hT _ _ ?_|refine hE _ _ _ ?_|refine hN _ _ ?_);clear hN hE hT)|refine kL ?_|(refine ⟨fun hb=>?_,fun hb=>?_⟩<;>(try simp only [nrm] at hb)<;>(try (first|(exfalso;omega)|contradiction|exact kB hb)))|refine kR hwm [(0,4)] rfl ?_|refine kS hwm [(0,4)] rfl ?_|refine kA hcl ?_|refine kD hcl ?_|refine kA hre ?_|refine kD hre ?_|refine kA hrt ?_|refine kD hrt ?_|refine kW cfg_ok ?_|refine kC ?_|refine bdA ?_|refine bd2 ?_|refine bdR ?_|refine bdL ?_)<;>((try with_reducible refine evCut fun N hN hE hT=>?_);(conv=>whnf)))|(refine And.intro ?_ ?_;rotate_left;(conv=>whnf);rotate_right))
       all_goals first|rfl|trace_state
     | false =>
       rw [if_neg (by simp)]
       rw [hA] at hwm
       have hbk:=hb
       obtain ⟨g1,g2⟩:=spends_any W l hb
       have hpu:=put_api (W.foldl (fun b (s : Slot)=>(spendS b s.item s.n).1) l) M.item M.n (len16 g1 hl) (bagOk_okSlot g2) (by omega) (by omega) (by omega)
       generalize putS (W.foldl (fun b (s : Slot)=>(spendS b s.item s.n).1) l) M.item M.n = P at *
       obtain ⟨P1,P2⟩:=P
       dsimp only at *
       rw [show (if 0 < P2 then (l,(104 : Int)) else (P1,0)) = ((if 0 < P2 then l else P1),(if 0 < P2 then (104 : Int) else 0)) by split<;>rfl]
       dsimp only
       refine Api.of_fin cfg_ok Tryz.func81 rfl (nt:=68) rfl rfl ?_
       ((try with_reducible refine evCut fun N hN hE hT=>?_);(conv=>whnf))
       repeat' (first|exact trivial|((first|((first|refine hT _ _ ?_|refine hE _ _ _ ?_|refine hN _ _ ?_);clear hN hE hT)|refine kL ?_|(refine ⟨fun hb=>?_,fun hb=>?_⟩<;>(try simp only [nrm] at hb)<;>(try (first|(exfalso;omega)|contradiction|exact kB hb)))|refine kR hwm [(0,4)] rfl ?_|refine kS hwm [(0,4)] rfl ?_|refine kA hcl ?_|refine kD hcl ?_|refine kA hre ?_|refine kD hre ?_|refine kA hrt ?_|refine kD hrt ?_|refine kW cfg_ok ?_|refine kC ?_|refine bdA ?_|refine bd2 ?_|refine bdR ?_|refine bdL ?_)<;>((try with_reducible refine evCut fun N hN hE hT=>?_);(conv=>whnf)))|(refine And.intro ?_ ?_;rotate_left;(conv=>whnf);rotate_right))
       refine Runs.loopS cfg_ok (σ:=Nat) [6,8,11,41,42,43] (fun k=>[.vec .slot l,.ptr 16 0,.vec .slot ((W.take k).foldl (fun b (s : Slot)=>(spendS b s.item s.n).1) l),.vec .slot W,i64 W.length,i64 k]) (fun _=>[(16,.box [.lit (.int .u8 M.item),i64 M.n])]) (fun k=>k ≤ W.length) (fun k=>W.length - k) 0 (by omega) ?_ ?_
       · conv=>whnf
         repeat' (first|exact trivial|((first|((first|refine hT _ _ ?_|refine hE _ _ _ ?_|refine hN _ _ ?_);clear hN hE hT)|refine kL ?_|(refine ⟨fun hb=>?_,fun hb=>?_⟩<;>(try simp only [nrm] at hb)<;>(try (first|(exfalso;omega)|contradiction|exact kB hb)))|refine kW cfg_ok ?_|refine kC ?_|refine bdA ?_|refine bd2 ?_|refine bdR ?_|refine bdL ?_)<;>((try with_reducible refine evCut fun N hN hE hT=>?_);(conv=>whnf)))|(refine And.intro ?_ ?_;rotate_left;(conv=>whnf);rotate_right))
         all_goals first|rfl|trace_state
       · intro k hk
         obtain ⟨f1,f2⟩:=spends_any (W.take k) l hbk
         by_cases hlt : k < W.length
         · have hs:=r1 _ (elt_mem (t:=.slot) hlt)
           have hsp:=spend_api ((W.take k).foldl (fun b (s : Slot)=>(spendS b s.item s.n).1) l) (elt .slot W k).item (elt .slot W k).n (len16 f1 hl) (bagOk_okSlot f2) (by omega)
           have hnx:=spends_next (l:=l) hlt
           generalize spendS ((W.take k).foldl (fun b (s : Slot)=>(spendS b s.item s.n).1) l) (elt .slot W k).item (elt .slot W k).n = P at *
           conv=>whnf
           repeat' (first|exact trivial|((first|((first|refine hT _ _ ?_|refine hE _ _ _ ?_|refine hN _ _ ?_);clear hN hE hT)|refine kL ?_|(refine ⟨fun hb=>?_,fun hb=>?_⟩<;>(try simp only [nrm] at hb)<;>(try (first|(exfalso;omega)|contradiction|exact kB hb)))|refine kA hsp ?_|refine kD hsp ?_|refine kW cfg_ok ?_|refine kC ?_|refine bdA ?_|refine bd2 ?_|refine bdR ?_|refine bdL ?_)<;>((try with_reducible refine evCut fun N hN hE hT=>?_);(conv=>whnf)))|(refine And.intro ?_ ?_;rotate_left;(conv=>whnf);rotate_right))
           refine .to (k + 1) hlt (by omega) ?_
           conv=>whnf
           repeat' (first|exact trivial|((first|((first|refine hT _ _ ?_|refine hE _ _ _ ?_|refine hN _ _ ?_);clear hN hE hT)|refine kL ?_|(refine ⟨fun hb=>?_,fun hb=>?_⟩<;>(try simp only [nrm] at hb)<;>(try (first|(exfalso;omega)|contradiction|exact kB hb)))|refine kW cfg_ok ?_|refine kC ?_|refine bdA ?_|refine bd2 ?_|refine bdR ?_|refine bdL ?_)<;>((try with_reducible refine evCut fun N hN hE hT=>?_);(conv=>whnf)))|(refine And.intro ?_ ?_;rotate_left;(conv=>whnf);rotate_right))
           all_goals first|rfl|exact hnx.symm|trace_state
         · obtain rfl : k = W.length:=by omega
           rw [List.take_length]
           conv=>whnf
           repeat' (first|exact trivial|((first|((first|refine hT _ _ ?_|refine hE _ _ _ ?_|refine hN _ _ ?_);clear hN hE hT)|refine kL ?_|(refine ⟨fun hb=>?_,fun hb=>?_⟩<;>(try simp only [nrm] at hb)<;>(try (first|(exfalso;omega)|contradiction|exact kB hb)))|refine kA hpu ?_|refine kD hpu ?_|refine kW cfg_ok ?_|refine kC ?_|refine bdA ?_|refine bd2 ?_|refine bdR ?_|refine bdL ?_)<;>((try with_reducible refine evCut fun N hN hE hT=>?_);(conv=>whnf)))|(refine And.intro ?_ ?_;rotate_left;(conv=>whnf);rotate_right))
           all_goals first|exact (if_pos hb).symm|exact (if_neg (Int.not_lt.2 hb)).symm|rfl|trace_state
 · have hre:=recipe_none n hn
   rw [recipe_out hn]
   dsimp only
   cases hb : bagOk l with
   | false =>
     rw [if_pos rfl]
     rw [hb] at hrt
     refine Api.of_fin cfg_ok Tryz.func81 rfl (nt:=68) rfl rfl ?_
     ((try with_reducible refine evCut fun N hN hE hT=>?_);(conv=>whnf))
     repeat' (first|exact trivial|((first|((first|refine hT _ _ ?_|refine hE _ _ _ ?_|refine hN _ _ ?_);clear hN hE hT)|refine kL ?_|(refine ⟨fun hb=>?_,fun hb=>?_⟩<;>(try simp only [nrm] at hb)<;>(try (first|(exfalso;omega)|contradiction|exact kB hb)))|refine kA hcl ?_|refine kD hcl ?_|refine kA hre ?_|refine kD hre ?_|refine kA hrt ?_|refine kD hrt ?_|refine kW cfg_ok ?_|refine kC ?_|refine bdA ?_|refine bd2 ?_|refine bdR ?_|refine bdL ?_)<;>((try with_reducible refine evCut fun N hN hE hT=>?_);(conv=>whnf)))|(refine And.intro ?_ ?_;rotate_left;(conv=>whnf);rotate_right))
     all_goals first|rfl|trace_state
   | true =>
     rw [if_neg (by simp)]
     rw [hb] at hrt
     refine Api.of_fin cfg_ok Tryz.func81 rfl (nt:=68) rfl rfl ?_
     ((try with_reducible refine evCut fun N hN hE hT=>?_);(conv=>whnf))
     repeat' (first|exact trivial|((first|((first|refine hT _ _ ?_|refine hE _ _ _ ?_|refine hN _ _ ?_);clear hN hE hT)|refine kL ?_|(refine ⟨fun hb=>?_,fun hb=>?_⟩<;>(try simp only [nrm] at hb)<;>(try (first|(exfalso;omega)|contradiction|exact kB hb)))|refine kA hcl ?_|refine kD hcl ?_|refine kA hre ?_|refine kD hre ?_|refine kA hrt ?_|refine kD hrt ?_|refine kW cfg_ok ?_|refine kC ?_|refine bdA ?_|refine bd2 ?_|refine bdR ?_|refine bdL ?_)<;>((try with_reducible refine evCut fun N hN hE hT=>?_);(conv=>whnf)))|(refine And.intro ?_ ?_;rotate_left;(conv=>whnf);rotate_right))
     all_goals first|rfl|trace_state
open Go Go.RowKit Eng
theorem make_ev (w : Wld) (p : Player) (c : Cmd) (hR : RW w) (hp : soundB p = true) : Ev1 Tryz.prog 38 [.ptr 0 0] (actM w p c) (i64 (craftA w p c).2) (aftM (craftA w p c)):=by
 have hw:=okW_rw hR
 have hP:=okP_sound hp
 obtain ⟨_,_,hPl,hPb2,_⟩:=sound_parts hp
 have hPb : True ∧ bagOk p.bag = true:=⟨trivial,hPb2⟩
 have hM : (makeS p.bag c.c).1.length = p.bag.length ∧ bagOk (makeS p.bag c.c).1 = true:=makeS_any p.bag c.c hPb.2
 have hma:=make_api p.bag c.c hP.nb hP.bag
 unfold craftA
 generalize makeS p.bag c.c = M at *
 obtain ⟨M1,M2⟩:=M
 dsimp only at *
 by_cases h1 : M2 = 0
 · subst h1
   rw [if_neg (not_not_intro rfl)]
   have hst:=stay_ev w { p with bag:=M1 } c hw (okP_bag hP (bagOk_okSlot hM.2) (by have:=hP.nb;omega))
   generalize setW w { p with bag:=M1 } = R at *
   by_cases hz : R.2 = 0
   · rw [aftM_ok hz] at hst ⊢
     rw [hz] at hst ⊢
     refine Ev1.of_fin cfg_ok Tryz.func38 rfl (nt:=28) rfl rfl rfl ?_
     ((try with_reducible refine evCut fun N hN hE hT=>?_);(conv=>whnf))
     repeat' (first|exact trivial|((first|((first|refine hT _ _ ?_|refine hE _ _ _ ?_|refine hN _ _ ?_);clear hN hE hT)|refine kL ?_|(refine ⟨fun hb=>?_,fun hb=>?_⟩<;>(try simp only [nrm] at hb)<;>(try (first|(exfalso;omega)|contradiction|exact kB hb)))|refine kE hst [(0,0)] rfl ?_|refine kF hst [(0,0)] rfl ?_|refine kA hma ?_|refine kD hma ?_|refine kW cfg_ok ?_|refine kC ?_|refine bdA ?_|refine bd2 ?_|refine bdR ?_|refine bdL ?_)<;>((try with_reducible refine evCut fun N hN hE hT=>?_);(conv=>whnf)))|(refine And.intro ?_ ?_;rotate_left;(conv=>whnf);rotate_right))
     all_goals first|rfl|omega|trace_state
   · rw [aftM_err hz] at hst ⊢
     refine Ev1.of_fin cfg_ok Tryz.func38 rfl (nt:=28) rfl rfl rfl ?_
     ((try with_reducible refine evCut fun N hN hE hT=>?_);(conv=>whnf))
     repeat' (first|exact trivial|((first|((first|refine hT _ _ ?_|refine hE _ _ _ ?_|refine hN _ _ ?_);clear hN hE hT)|refine kL ?_|(refine ⟨fun hb=>?_,fun hb=>?_⟩<;>(try simp only [nrm] at hb)<;>(try (first|(exfalso;omega)|contradiction|exact kB hb)))|refine kE hst [(0,0)] rfl ?_|refine kF hst [(0,0)] rfl ?_|refine kA hma ?_|refine kD hma ?_|refine kW cfg_ok ?_|refine kC ?_|refine bdA ?_|refine bd2 ?_|refine bdR ?_|refine bdL ?_)<;>((try with_reducible refine evCut fun N hN hE hT=>?_);(conv=>whnf)))|(refine And.intro ?_ ?_;rotate_left;(conv=>whnf);rotate_right))
     all_goals first|rfl|omega|trace_state
 · rw [if_pos h1,aftE_of h1]
   refine Ev1.of_fin cfg_ok Tryz.func38 rfl (nt:=28) rfl rfl rfl ?_
   ((try with_reducible refine evCut fun N hN hE hT=>?_);(conv=>whnf))
   repeat' (first|exact trivial|((first|((first|refine hT _ _ ?_|refine hE _ _ _ ?_|refine hN _ _ ?_);clear hN hE hT)|refine kL ?_|(refine ⟨fun hb=>?_,fun hb=>?_⟩<;>(try simp only [nrm] at hb)<;>(try (first|(exfalso;omega)|contradiction|exact kB hb)))|refine kA hma ?_|refine kD hma ?_|refine kW cfg_ok ?_|refine kC ?_|refine bdA ?_|refine bd2 ?_|refine bdR ?_|refine bdL ?_)<;>((try with_reducible refine evCut fun N hN hE hT=>?_);(conv=>whnf)))|(refine And.intro ?_ ?_;rotate_left;(conv=>whnf);rotate_right))
   all_goals first|rfl|omega|trace_state
theorem eat_ev (w : Wld) (p : Player) (c : Cmd) (hR : RW w) (hp : soundB p = true) : Ev1 Tryz.prog 39 [.ptr 0 0] (actM w p c) (i64 (eatA w p).2) (aftM (eatA w p)):=by
 have hw:=okW_rw hR
 have hP:=okP_sound hp
 obtain ⟨_,_,hPl,hPb2,_⟩:=sound_parts hp
 have hPb : True ∧ bagOk p.bag = true:=⟨trivial,hPb2⟩
 have hM : (spendS p.bag 11 1).1.length = p.bag.length ∧ bagOk (spendS p.bag 11 1).1 = true:=(fun h=>⟨h.1,h.2 hPb.2⟩) (spendS_any p.bag 11 1)
 have hma:=spend_api p.bag 11 1 (by have:=hP.nb;omega) hP.bag (by omega)
 unfold eatA
 generalize spendS p.bag 11 1 = M at *
 obtain ⟨M1,M2⟩:=M
 dsimp only at *
 by_cases h1 : M2 = 0
 · subst h1
   rw [if_neg (not_not_intro rfl)]
   have hst:=stay_ev w { p with bag:=M1 } c hw (okP_bag hP (bagOk_okSlot hM.2) (by have:=hP.nb;omega))
   generalize setW w { p with bag:=M1 } = R at *
   by_cases hz : R.2 = 0
   · rw [aftM_ok hz] at hst ⊢
     rw [hz] at hst ⊢
     refine Ev1.of_fin cfg_ok Tryz.func39 rfl (nt:=23) rfl rfl rfl ?_
     ((try with_reducible refine evCut fun N hN hE hT=>?_);(conv=>whnf))
     repeat' (first|exact trivial|((first|((first|refine hT _ _ ?_|refine hE _ _ _ ?_|refine hN _ _ ?_);clear hN hE hT)|refine kL ?_|(refine ⟨fun hb=>?_,fun hb=>?_⟩<;>(try simp only [nrm] at hb)<;>(try (first|(exfalso;omega)|contradiction|exact kB hb)))|refine kE hst [(0,0)] rfl ?_|refine kF hst [(0,0)] rfl ?_|refine kA hma ?_|refine kD hma ?_|refine kW cfg_ok ?_|refine kC ?_|refine bdA ?_|refine bd2 ?_|refine bdR ?_|refine bdL ?_)<;>((try with_reducible refine evCut fun N hN hE hT=>?_);(conv=>whnf)))|(refine And.intro ?_ ?_;rotate_left;(conv=>whnf);rotate_right))
     all_goals first|rfl|omega|trace_state
   · rw [aftM_err hz] at hst ⊢
     refine Ev1.of_fin cfg_ok Tryz.func39 rfl (nt:=23) rfl rfl rfl ?_
     ((try with_reducible refine evCut fun N hN hE hT=>?_);(conv=>whnf))
     repeat' (first|exact trivial|((first|((first|refine hT _ _ ?_|refine hE _ _ _ ?_|refine hN _ _ ?_);clear hN hE hT)|refine kL ?_|(refine ⟨fun hb=>?_,fun hb=>?_⟩<;>(try simp only [nrm] at hb)<;>(try (first|(exfalso;omega)|contradiction|exact kB hb)))|refine kE hst [(0,0)] rfl ?_|refine kF hst [(0,0)] rfl ?_|refine kA hma ?_|refine kD hma ?_|refine kW cfg_ok ?_|refine kC ?_|refine bdA ?_|refine bd2 ?_|refine bdR ?_|refine bdL ?_)<;>((try with_reducible refine evCut fun N hN hE hT=>?_);(conv=>whnf)))|(refine And.intro ?_ ?_;rotate_left;(conv=>whnf);rotate_right))
     all_goals first|rfl|omega|trace_state
 · rw [if_pos h1,aftE_of h1]
   refine Ev1.of_fin cfg_ok Tryz.func39 rfl (nt:=23) rfl rfl rfl ?_
   ((try with_reducible refine evCut fun N hN hE hT=>?_);(conv=>whnf))
   repeat' (first|exact trivial|((first|((first|refine hT _ _ ?_|refine hE _ _ _ ?_|refine hN _ _ ?_);clear hN hE hT)|refine kL ?_|(refine ⟨fun hb=>?_,fun hb=>?_⟩<;>(try simp only [nrm] at hb)<;>(try (first|(exfalso;omega)|contradiction|exact kB hb)))|refine kA hma ?_|refine kD hma ?_|refine kW cfg_ok ?_|refine kC ?_|refine bdA ?_|refine bd2 ?_|refine bdR ?_|refine bdL ?_)<;>((try with_reducible refine evCut fun N hN hE hT=>?_);(conv=>whnf)))|(refine And.intro ?_ ?_;rotate_left;(conv=>whnf);rotate_right))
   all_goals first|rfl|omega|trace_state
open Go Go.RowKit Eng
theorem pickA_app (cell : Int) : ∀ (l m : List Slot) (a : Chunk × List Slot × Bool),pickA cell (l ++ m) a = pickA cell m (pickA cell l a)
 | [],m,a=>rfl
 | s :: r,m,(k,b,z)=>by
   simp only [List.cons_append,pickA]
   exact pickA_app cell r m _
theorem pickA_next {cell : Int} {l : List Slot} {k : Nat} (h : k < l.length) {a : Chunk × List Slot × Bool} {K : Chunk} {B : List Slot} {z : Bool} (he : pickA cell (l.take k) a = (K,B,z)) :
   pickA cell (l.take (k + 1)) a = (if 0 < (putS B (elt .slot l k).item (elt .slot l k).n).2 then (dropC K cell ⟨(elt .slot l k).item,(putS B (elt .slot l k).item (elt .slot l k).n).2⟩).1 else K,(putS B (elt .slot l k).item (elt .slot l k).n).1,z || decide ((putS B (elt .slot l k).item (elt .slot l k).n).2 < (elt .slot l k).n)):=by
 rw [List.take_add_one,elt_get .slot l k h,pickA_app,he]
 rfl
theorem take_ev (w : Wld) (p : Player) (c : Cmd) (hR : RW w) (hp : soundB p = true) (hi : withinW w.size p.x p.y = true) : Ev1 Tryz.prog 35 [.ptr 0 0] (actM w p c) (i64 (takeA w p).2) (aftM (takeA w p)):=by
 have hw:=okW_rw hR
 have hP:=okP_sound hp
 obtain ⟨_,_,hPl,hPb,_⟩:=sound_parts hp
 have hxy:=(within_iff hR).1 hi
 have hs:=hR.size
 have hpl:=place_ev w p c p.x p.y hw (by omega) (by omega)
 have hK:=(place_right hR hi).1
 have hI:=placeI_bd p.x p.y
 unfold takeA
 dsimp only
 generalize placeC w p.x p.y = K at *
 generalize placeI p.x p.y = I at *
 have hli:=lift_api K I (okC_right hK) (fitC_right hK)
 have hL:=lift_right hK I
 have hh:=lift_heaps hK I
 generalize liftC K I = G at *
 obtain ⟨K0,L⟩:=G
 dsimp only at *
 have hLl : L.length ≤ 32:=by omega
 by_cases h0 : L.length = 0
 · rw [if_pos h0,aftE_of (e:=105) (by decide)]
   refine Ev1.of_fin cfg_ok Tryz.func35 rfl (nt:=81) rfl rfl rfl ?_
   ((try with_reducible refine evCut fun N hN hE hT=>?_);(conv=>whnf))
   repeat' (first|exact trivial|((first|((first|refine hT _ _ ?_|refine hE _ _ _ ?_|refine hN _ _ ?_);clear hN hE hT)|refine kL ?_|(refine ⟨fun hb=>?_,fun hb=>?_⟩<;>(try simp only [nrm] at hb)<;>(try (first|(exfalso;omega)|contradiction|exact kB hb)))|refine kR hpl [(0,0)] rfl ?_|refine kS hpl [(0,0)] rfl ?_|refine kA hli ?_|refine kD hli ?_|refine kW cfg_ok ?_|refine kC ?_|refine bdA ?_|refine bd2 ?_|refine bdR ?_|refine bdL ?_)<;>((try with_reducible refine evCut fun N hN hE hT=>?_);(conv=>whnf)))|(refine And.intro ?_ ?_;rotate_left;(conv=>whnf);rotate_right))
   all_goals first|rfl|omega|trace_state
 · rw [if_neg h0]
   obtain ⟨i1,i2,i3,_⟩:=pick_law I hI L K0 p.bag false hL.1 hPb hL.2 hh
   cases hz : (pickA I L (K0,p.bag,false)).2.2 with
   | false =>
     rw [if_pos rfl,aftE_of (e:=104) (by decide)]
     have hke : True:=trivial
     refine Ev1.of_fin cfg_ok Tryz.func35 rfl (nt:=81) rfl rfl rfl ?_
     ((try with_reducible refine evCut fun N hN hE hT=>?_);(conv=>whnf))
     repeat' (first|exact trivial|((first|((first|refine hT _ _ ?_|refine hE _ _ _ ?_|refine hN _ _ ?_);clear hN hE hT)|refine kL ?_|(refine ⟨fun hb=>?_,fun hb=>?_⟩<;>(try simp only [nrm] at hb)<;>(try (first|(exfalso;omega)|contradiction|exact kB hb)))|refine kR hpl [(0,0)] rfl ?_|refine kS hpl [(0,0)] rfl ?_|refine kA hli ?_|refine kD hli ?_|refine kW cfg_ok ?_|refine kC ?_|refine bdA ?_|refine bd2 ?_|refine bdR ?_|refine bdL ?_)<;>((try with_reducible refine evCut fun N hN hE hT=>?_);(conv=>whnf)))|(refine And.intro ?_ ?_;rotate_left;(conv=>whnf);rotate_right))
     refine Runs.loopS cfg_ok (σ:=Nat) [0,3,4,6,34,35,36] (fun k=>[.ptr 0 0,.ptr 200006 0,i64 I,bol (pickA I (L.take k) (K0,p.bag,false)).2.2,.vec .slot L,i64 L.length,i64 k])
       (fun k=>[(0,.box (actC w { p with bag:=(pickA I (L.take k) (K0,p.bag,false)).2.1 } c)),(200006,.box (chunkC (pickA I (L.take k) (K0,p.bag,false)).1))]) (fun k=>k ≤ L.length) (fun k=>L.length - k) 0 (by omega) ?_ ?_
     · conv=>whnf
       repeat' (first|exact trivial|((first|((first|refine hT _ _ ?_|refine hE _ _ _ ?_|refine hN _ _ ?_);clear hN hE hT)|refine kL ?_|(refine ⟨fun hb=>?_,fun hb=>?_⟩<;>(try simp only [nrm] at hb)<;>(try (first|(exfalso;omega)|contradiction|exact kB hb)))|refine kW cfg_ok ?_|refine kC ?_|refine bdA ?_|refine bd2 ?_|refine bdR ?_|refine bdL ?_)<;>((try with_reducible refine evCut fun N hN hE hT=>?_);(conv=>whnf)))|(refine And.intro ?_ ?_;rotate_left;(conv=>whnf);rotate_right))
       all_goals first|rfl|trace_state
     · intro k hk
       by_cases hlt : k < L.length
       · have hsl:=hL.2 _ (elt_mem (t:=.slot) hlt)
         obtain ⟨hs1,hs2,hs3⟩:=someB_ok hsl
         obtain ⟨j1,j2,j3,_,_,_⟩:=pick_law I hI (L.take k) K0 p.bag false hL.1 hPb (fun s hs=>hL.2 s (List.mem_of_mem_take hs)) (by rw [List.length_take];omega)
         obtain ⟨⟨A1,A2,A3⟩,hA⟩ : ∃ A,A = pickA I (L.take k) (K0,p.bag,false):=⟨_,rfl⟩
         have hN:=pickA_next hlt hA.symm
         rw [← hA] at j1 j2 j3 ⊢
         dsimp only at j1 j2 j3 ⊢
         clear hA
         have hpu:=put_api A2 (elt .slot L k).item (elt .slot L k).n (by omega) (bagOk_okSlot j2) hs1.1 hs1.2 (by omega)
         have hle:=putS_left (l:=A2) (i:=(elt .slot L k).item) (n:=(elt .slot L k).n) (by omega)
         generalize putS A2 (elt .slot L k).item (elt .slot L k).n = Q at *
         obtain ⟨Q1,Q2⟩:=Q
         dsimp only at *
         have hdr:=drop_api A1 I ⟨(elt .slot L k).item,Q2⟩ (okC_right j1) (fitC_right j1) hs1
         generalize dropC A1 I ⟨(elt .slot L k).item,Q2⟩ = D at *
         obtain ⟨D1,D2⟩:=D
         dsimp only at *
         by_cases hq : 0 < Q2
         · rw [if_pos hq] at hN
           cases A3
           all_goals
             conv=>whnf
             repeat' (first|exact trivial|((first|((first|refine hT _ _ ?_|refine hE _ _ _ ?_|refine hN _ _ ?_);clear hN hE hT)|refine kL ?_|(refine ⟨fun hb=>?_,fun hb=>?_⟩<;>(try simp only [nrm] at hb)<;>(try (first|(exfalso;omega)|contradiction|exact kB hb)))|refine kA hpu ?_|refine kD hpu ?_|refine kA hdr ?_|refine kD hdr ?_|refine kW cfg_ok ?_|refine kC ?_|refine bdA ?_|refine bd2 ?_|refine bdR ?_|refine bdL ?_)<;>((try with_reducible refine evCut fun N hN hE hT=>?_);(conv=>whnf)))|(refine And.intro ?_ ?_;rotate_left;(conv=>whnf);rotate_right))
             all_goals
               refine .to (k + 1) hlt (by omega) ?_
               rw [hN]
               conv=>whnf
               repeat' (first|exact trivial|((first|((first|refine hT _ _ ?_|refine hE _ _ _ ?_|refine hN _ _ ?_);clear hN hE hT)|refine kL ?_|(refine ⟨fun hb=>?_,fun hb=>?_⟩<;>(try simp only [nrm] at hb)<;>(try (first|(exfalso;omega)|contradiction|exact kB hb)))|refine kW cfg_ok ?_|refine kC ?_|refine bdA ?_|refine bd2 ?_|refine bdR ?_|refine bdL ?_)<;>((try with_reducible refine evCut fun N hN hE hT=>?_);(conv=>whnf)))|(refine And.intro ?_ ?_;rotate_left;(conv=>whnf);rotate_right))
               all_goals first|rfl|(refine congrArg Value.bool ?_;simp_all;done)|(refine congrArg Value.bool ?_;simp_all;omega)|trace_state
         · rw [if_neg hq] at hN
           cases A3
           all_goals
             conv=>whnf
             repeat' (first|exact trivial|((first|((first|refine hT _ _ ?_|refine hE _ _ _ ?_|refine hN _ _ ?_);clear hN hE hT)|refine kL ?_|(refine ⟨fun hb=>?_,fun hb=>?_⟩<;>(try simp only [nrm] at hb)<;>(try (first|(exfalso;omega)|contradiction|exact kB hb)))|refine kA hpu ?_|refine kD hpu ?_|refine kA hdr ?_|refine kD hdr ?_|refine kW cfg_ok ?_|refine kC ?_|refine bdA ?_|refine bd2 ?_|refine bdR ?_|refine bdL ?_)<;>((try with_reducible refine evCut fun N hN hE hT=>?_);(conv=>whnf)))|(refine And.intro ?_ ?_;rotate_left;(conv=>whnf);rotate_right))
             all_goals
               refine .to (k + 1) hlt (by omega) ?_
               rw [hN]
               conv=>whnf
               repeat' (first|exact trivial|((first|((first|refine hT _ _ ?_|refine hE _ _ _ ?_|refine hN _ _ ?_);clear hN hE hT)|refine kL ?_|(refine ⟨fun hb=>?_,fun hb=>?_⟩<;>(try simp only [nrm] at hb)<;>(try (first|(exfalso;omega)|contradiction|exact kB hb)))|refine kW cfg_ok ?_|refine kC ?_|refine bdA ?_|refine bd2 ?_|refine bdR ?_|refine bdL ?_)<;>((try with_reducible refine evCut fun N hN hE hT=>?_);(conv=>whnf)))|(refine And.intro ?_ ?_;rotate_left;(conv=>whnf);rotate_right))
               all_goals first|rfl|(refine congrArg Value.bool ?_;simp_all;done)|(refine congrArg Value.bool ?_;simp_all;omega)|trace_state
       · obtain rfl : k = L.length:=by omega
         rw [List.take_length,hz]
         conv=>whnf
         repeat' (first|exact trivial|((first|((first|refine hT _ _ ?_|refine hE _ _ _ ?_|refine hN _ _ ?_);clear hN hE hT)|refine kL ?_|(refine ⟨fun hb=>?_,fun hb=>?_⟩<;>(try simp only [nrm] at hb)<;>(try (first|(exfalso;omega)|contradiction|exact kB hb)))|refine kE hke [(0,0)] rfl ?_|refine kF hke [(0,0)] rfl ?_|refine kW cfg_ok ?_|refine kC ?_|refine bdA ?_|refine bd2 ?_|refine bdR ?_|refine bdL ?_)<;>((try with_reducible refine evCut fun N hN hE hT=>?_);(conv=>whnf)))|(refine And.intro ?_ ?_;rotate_left;(conv=>whnf);rotate_right))
         all_goals first|rfl|omega|trace_state
   | true =>
     rw [if_neg (by simp)]
     have hke:=keep_ev w { p with bag:=(pickA I L (K0,p.bag,false)).2.1 } c (pickA I L (K0,p.bag,false)).1 hw (okP_bag hP (bagOk_okSlot i2) (by omega)) (okC_right i1) (fitC_right i1)
     generalize hRR : keepA w (pickA I L (K0,p.bag,false)).1 { p with bag:=(pickA I L (K0,p.bag,false)).2.1 } = R at *
     by_cases hr : R.2 = 0
     · rw [aftM_ok hr] at hke ⊢
       rw [hr] at hke ⊢
       refine Ev1.of_fin cfg_ok Tryz.func35 rfl (nt:=81) rfl rfl rfl ?_
       ((try with_reducible refine evCut fun N hN hE hT=>?_);(conv=>whnf))
       repeat' (first|exact trivial|((first|((first|refine hT _ _ ?_|refine hE _ _ _ ?_|refine hN _ _ ?_);clear hN hE hT)|refine kL ?_|(refine ⟨fun hb=>?_,fun hb=>?_⟩<;>(try simp only [nrm] at hb)<;>(try (first|(exfalso;omega)|contradiction|exact kB hb)))|refine kR hpl [(0,0)] rfl ?_|refine kS hpl [(0,0)] rfl ?_|refine kA hli ?_|refine kD hli ?_|refine kW cfg_ok ?_|refine kC ?_|refine bdA ?_|refine bd2 ?_|refine bdR ?_|refine bdL ?_)<;>((try with_reducible refine evCut fun N hN hE hT=>?_);(conv=>whnf)))|(refine And.intro ?_ ?_;rotate_left;(conv=>whnf);rotate_right))
       refine Runs.loopS cfg_ok (σ:=Nat) [0,3,4,6,34,35,36] (fun k=>[.ptr 0 0,.ptr 200006 0,i64 I,bol (pickA I (L.take k) (K0,p.bag,false)).2.2,.vec .slot L,i64 L.length,i64 k])
         (fun k=>[(0,.box (actC w { p with bag:=(pickA I (L.take k) (K0,p.bag,false)).2.1 } c)),(200006,.box (chunkC (pickA I (L.take k) (K0,p.bag,false)).1))]) (fun k=>k ≤ L.length) (fun k=>L.length - k) 0 (by omega) ?_ ?_
       · conv=>whnf
         repeat' (first|exact trivial|((first|((first|refine hT _ _ ?_|refine hE _ _ _ ?_|refine hN _ _ ?_);clear hN hE hT)|refine kL ?_|(refine ⟨fun hb=>?_,fun hb=>?_⟩<;>(try simp only [nrm] at hb)<;>(try (first|(exfalso;omega)|contradiction|exact kB hb)))|refine kW cfg_ok ?_|refine kC ?_|refine bdA ?_|refine bd2 ?_|refine bdR ?_|refine bdL ?_)<;>((try with_reducible refine evCut fun N hN hE hT=>?_);(conv=>whnf)))|(refine And.intro ?_ ?_;rotate_left;(conv=>whnf);rotate_right))
         all_goals first|rfl|trace_state
       · intro k hk
         by_cases hlt : k < L.length
         · have hsl:=hL.2 _ (elt_mem (t:=.slot) hlt)
           obtain ⟨hs1,hs2,hs3⟩:=someB_ok hsl
           obtain ⟨j1,j2,j3,_,_,_⟩:=pick_law I hI (L.take k) K0 p.bag false hL.1 hPb (fun s hs=>hL.2 s (List.mem_of_mem_take hs)) (by rw [List.length_take];omega)
           obtain ⟨⟨A1,A2,A3⟩,hA⟩ : ∃ A,A = pickA I (L.take k) (K0,p.bag,false):=⟨_,rfl⟩
           have hN:=pickA_next hlt hA.symm
           rw [← hA] at j1 j2 j3 ⊢
           dsimp only at j1 j2 j3 ⊢
           clear hA
           have hpu:=put_api A2 (elt .slot L k).item (elt .slot L k).n (by omega) (bagOk_okSlot j2) hs1.1 hs1.2 (by omega)
           have hle:=putS_left (l:=A2) (i:=(elt .slot L k).item) (n:=(elt .slot L k).n) (by omega)
           generalize putS A2 (elt .slot L k).item (elt .slot L k).n = Q at *
           obtain ⟨Q1,Q2⟩:=Q
           dsimp only at *
           have hdr:=drop_api A1 I ⟨(elt .slot L k).item,Q2⟩ (okC_right j1) (fitC_right j1) hs1
           generalize dropC A1 I ⟨(elt .slot L k).item,Q2⟩ = D at *
           obtain ⟨D1,D2⟩:=D
           dsimp only at *
           by_cases hq : 0 < Q2
           · rw [if_pos hq] at hN
             cases A3
             all_goals
               conv=>whnf
               repeat' (first|exact trivial|((first|((first|refine hT _ _ ?_|refine hE _ _ _ ?_|refine hN _ _ ?_);clear hN hE hT)|refine kL ?_|(refine ⟨fun hb=>?_,fun hb=>?_⟩<;>(try simp only [nrm] at hb)<;>(try (first|(exfalso;omega)|contradiction|exact kB hb)))|refine kA hpu ?_|refine kD hpu ?_|refine kA hdr ?_|refine kD hdr ?_|refine kW cfg_ok ?_|refine kC ?_|refine bdA ?_|refine bd2 ?_|refine bdR ?_|refine bdL ?_)<;>((try with_reducible refine evCut fun N hN hE hT=>?_);(conv=>whnf)))|(refine And.intro ?_ ?_;rotate_left;(conv=>whnf);rotate_right))
               all_goals
                 refine .to (k + 1) hlt (by omega) ?_
                 rw [hN]
                 conv=>whnf
                 repeat' (first|exact trivial|((first|((first|refine hT _ _ ?_|refine hE _ _ _ ?_|refine hN _ _ ?_);clear hN hE hT)|refine kL ?_|(refine ⟨fun hb=>?_,fun hb=>?_⟩<;>(try simp only [nrm] at hb)<;>(try (first|(exfalso;omega)|contradiction|exact kB hb)))|refine kW cfg_ok ?_|refine kC ?_|refine bdA ?_|refine bd2 ?_|refine bdR ?_|refine bdL ?_)<;>((try with_reducible refine evCut fun N hN hE hT=>?_);(conv=>whnf)))|(refine And.intro ?_ ?_;rotate_left;(conv=>whnf);rotate_right))
                 all_goals first|rfl|(refine congrArg Value.bool ?_;simp_all;done)|(refine congrArg Value.bool ?_;simp_all;omega)|trace_state
           · rw [if_neg hq] at hN
             cases A3
             all_goals
               conv=>whnf
               repeat' (first|exact trivial|((first|((first|refine hT _ _ ?_|refine hE _ _ _ ?_|refine hN _ _ ?_);clear hN hE hT)|refine kL ?_|(refine ⟨fun hb=>?_,fun hb=>?_⟩<;>(try simp only [nrm] at hb)<;>(try (first|(exfalso;omega)|contradiction|exact kB hb)))|refine kA hpu ?_|refine kD hpu ?_|refine kA hdr ?_|refine kD hdr ?_|refine kW cfg_ok ?_|refine kC ?_|refine bdA ?_|refine bd2 ?_|refine bdR ?_|refine bdL ?_)<;>((try with_reducible refine evCut fun N hN hE hT=>?_);(conv=>whnf)))|(refine And.intro ?_ ?_;rotate_left;(conv=>whnf);rotate_right))
               all_goals
                 refine .to (k + 1) hlt (by omega) ?_
                 rw [hN]
                 conv=>whnf
                 repeat' (first|exact trivial|((first|((first|refine hT _ _ ?_|refine hE _ _ _ ?_|refine hN _ _ ?_);clear hN hE hT)|refine kL ?_|(refine ⟨fun hb=>?_,fun hb=>?_⟩<;>(try simp only [nrm] at hb)<;>(try (first|(exfalso;omega)|contradiction|exact kB hb)))|refine kW cfg_ok ?_|refine kC ?_|refine bdA ?_|refine bd2 ?_|refine bdR ?_|refine bdL ?_)<;>((try with_reducible refine evCut fun N hN hE hT=>?_);(conv=>whnf)))|(refine And.intro ?_ ?_;rotate_left;(conv=>whnf);rotate_right))
                 all_goals first|rfl|(refine congrArg Value.bool ?_;simp_all;done)|(refine congrArg Value.bool ?_;simp_all;omega)|trace_state
         · obtain rfl : k = L.length:=by omega
           rw [List.take_length,hz]
           conv=>whnf
           repeat' (first|exact trivial|((first|((first|refine hT _ _ ?_|refine hE _ _ _ ?_|refine hN _ _ ?_);clear hN hE hT)|refine kL ?_|(refine ⟨fun hb=>?_,fun hb=>?_⟩<;>(try simp only [nrm] at hb)<;>(try (first|(exfalso;omega)|contradiction|exact kB hb)))|refine kE hke [(0,0)] rfl ?_|refine kF hke [(0,0)] rfl ?_|refine kW cfg_ok ?_|refine kC ?_|refine bdA ?_|refine bd2 ?_|refine bdR ?_|refine bdL ?_)<;>((try with_reducible refine evCut fun N hN hE hT=>?_);(conv=>whnf)))|(refine And.intro ?_ ?_;rotate_left;(conv=>whnf);rotate_right))
           all_goals first|rfl|omega|trace_state
     · rw [aftM_err hr] at hke ⊢
       refine Ev1.of_fin cfg_ok Tryz.func35 rfl (nt:=81) rfl rfl rfl ?_
       ((try with_reducible refine evCut fun N hN hE hT=>?_);(conv=>whnf))
       repeat' (first|exact trivial|((first|((first|refine hT _ _ ?_|refine hE _ _ _ ?_|refine hN _ _ ?_);clear hN hE hT)|refine kL ?_|(refine ⟨fun hb=>?_,fun hb=>?_⟩<;>(try simp only [nrm] at hb)<;>(try (first|(exfalso;omega)|contradiction|exact kB hb)))|refine kR hpl [(0,0)] rfl ?_|refine kS hpl [(0,0)] rfl ?_|refine kA hli ?_|refine kD hli ?_|refine kW cfg_ok ?_|refine kC ?_|refine bdA ?_|refine bd2 ?_|refine bdR ?_|refine bdL ?_)<;>((try with_reducible refine evCut fun N hN hE hT=>?_);(conv=>whnf)))|(refine And.intro ?_ ?_;rotate_left;(conv=>whnf);rotate_right))
       refine Runs.loopS cfg_ok (σ:=Nat) [0,3,4,6,34,35,36] (fun k=>[.ptr 0 0,.ptr 200006 0,i64 I,bol (pickA I (L.take k) (K0,p.bag,false)).2.2,.vec .slot L,i64 L.length,i64 k])
         (fun k=>[(0,.box (actC w { p with bag:=(pickA I (L.take k) (K0,p.bag,false)).2.1 } c)),(200006,.box (chunkC (pickA I (L.take k) (K0,p.bag,false)).1))]) (fun k=>k ≤ L.length) (fun k=>L.length - k) 0 (by omega) ?_ ?_
       · conv=>whnf
         repeat' (first|exact trivial|((first|((first|refine hT _ _ ?_|refine hE _ _ _ ?_|refine hN _ _ ?_);clear hN hE hT)|refine kL ?_|(refine ⟨fun hb=>?_,fun hb=>?_⟩<;>(try simp only [nrm] at hb)<;>(try (first|(exfalso;omega)|contradiction|exact kB hb)))|refine kW cfg_ok ?_|refine kC ?_|refine bdA ?_|refine bd2 ?_|refine bdR ?_|refine bdL ?_)<;>((try with_reducible refine evCut fun N hN hE hT=>?_);(conv=>whnf)))|(refine And.intro ?_ ?_;rotate_left;(conv=>whnf);rotate_right))
         all_goals first|rfl|trace_state
       · intro k hk
         by_cases hlt : k < L.length
         · have hsl:=hL.2 _ (elt_mem (t:=.slot) hlt)
           obtain ⟨hs1,hs2,hs3⟩:=someB_ok hsl
           obtain ⟨j1,j2,j3,_,_,_⟩:=pick_law I hI (L.take k) K0 p.bag false hL.1 hPb (fun s hs=>hL.2 s (List.mem_of_mem_take hs)) (by rw [List.length_take];omega)
           obtain ⟨⟨A1,A2,A3⟩,hA⟩ : ∃ A,A = pickA I (L.take k) (K0,p.bag,false):=⟨_,rfl⟩
           have hN:=pickA_next hlt hA.symm
           rw [← hA] at j1 j2 j3 ⊢
           dsimp only at j1 j2 j3 ⊢
           clear hA
           have hpu:=put_api A2 (elt .slot L k).item (elt .slot L k).n (by omega) (bagOk_okSlot j2) hs1.1 hs1.2 (by omega)
           have hle:=putS_left (l:=A2) (i:=(elt .slot L k).item) (n:=(elt .slot L k).n) (by omega)
           generalize putS A2 (elt .slot L k).item (elt .slot L k).n = Q at *
           obtain ⟨Q1,Q2⟩:=Q
           dsimp only at *
           have hdr:=drop_api A1 I ⟨(elt .slot L k).item,Q2⟩ (okC_right j1) (fitC_right j1) hs1
           generalize dropC A1 I ⟨(elt .slot L k).item,Q2⟩ = D at *
           obtain ⟨D1,D2⟩:=D
           dsimp only at *
           by_cases hq : 0 < Q2
           · rw [if_pos hq] at hN
             cases A3
             all_goals
               conv=>whnf
               repeat' (first|exact trivial|((first|((first|refine hT _ _ ?_|refine hE _ _ _ ?_|refine hN _ _ ?_);clear hN hE hT)|refine kL ?_|(refine ⟨fun hb=>?_,fun hb=>?_⟩<;>(try simp only [nrm] at hb)<;>(try (first|(exfalso;omega)|contradiction|exact kB hb)))|refine kA hpu ?_|refine kD hpu ?_|refine kA hdr ?_|refine kD hdr ?_|refine kW cfg_ok ?_|refine kC ?_|refine bdA ?_|refine bd2 ?_|refine bdR ?_|refine bdL ?_)<;>((try with_reducible refine evCut fun N hN hE hT=>?_);(conv=>whnf)))|(refine And.intro ?_ ?_;rotate_left;(conv=>whnf);rotate_right))
               all_goals
                 refine .to (k + 1) hlt (by omega) ?_
                 rw [hN]
                 conv=>whnf
                 repeat' (first|exact trivial|((first|((first|refine hT _ _ ?_|refine hE _ _ _ ?_|refine hN _ _ ?_);clear hN hE hT)|refine kL ?_|(refine ⟨fun hb=>?_,fun hb=>?_⟩<;>(try simp only [nrm] at hb)<;>(try (first|(exfalso;omega)|contradiction|exact kB hb)))|refine kW cfg_ok ?_|refine kC ?_|refine bdA ?_|refine bd2 ?_|refine bdR ?_|refine bdL ?_)<;>((try with_reducible refine evCut fun N hN hE hT=>?_);(conv=>whnf)))|(refine And.intro ?_ ?_;rotate_left;(conv=>whnf);rotate_right))
                 all_goals first|rfl|(refine congrArg Value.bool ?_;simp_all;done)|(refine congrArg Value.bool ?_;simp_all;omega)|trace_state
           · rw [if_neg hq] at hN
             cases A3
             all_goals
               conv=>whnf
               repeat' (first|exact trivial|((first|((first|refine hT _ _ ?_|refine hE _ _ _ ?_|refine hN _ _ ?_);clear hN hE hT)|refine kL ?_|(refine ⟨fun hb=>?_,fun hb=>?_⟩<;>(try simp only [nrm] at hb)<;>(try (first|(exfalso;omega)|contradiction|exact kB hb)))|refine kA hpu ?_|refine kD hpu ?_|refine kA hdr ?_|refine kD hdr ?_|refine kW cfg_ok ?_|refine kC ?_|refine bdA ?_|refine bd2 ?_|refine bdR ?_|refine bdL ?_)<;>((try with_reducible refine evCut fun N hN hE hT=>?_);(conv=>whnf)))|(refine And.intro ?_ ?_;rotate_left;(conv=>whnf);rotate_right))
               all_goals
                 refine .to (k + 1) hlt (by omega) ?_
                 rw [hN]
                 conv=>whnf
                 repeat' (first|exact trivial|((first|((first|refine hT _ _ ?_|refine hE _ _ _ ?_|refine hN _ _ ?_);clear hN hE hT)|refine kL ?_|(refine ⟨fun hb=>?_,fun hb=>?_⟩<;>(try simp only [nrm] at hb)<;>(try (first|(exfalso;omega)|contradiction|exact kB hb)))|refine kW cfg_ok ?_|refine kC ?_|refine bdA ?_|refine bd2 ?_|refine bdR ?_|refine bdL ?_)<;>((try with_reducible refine evCut fun N hN hE hT=>?_);(conv=>whnf)))|(refine And.intro ?_ ?_;rotate_left;(conv=>whnf);rotate_right))
                 all_goals first|rfl|(refine congrArg Value.bool ?_;simp_all;done)|(refine congrArg Value.bool ?_;simp_all;omega)|trace_state
         · obtain rfl : k = L.length:=by omega
           rw [List.take_length,hz]
           conv=>whnf
           repeat' (first|exact trivial|((first|((first|refine hT _ _ ?_|refine hE _ _ _ ?_|refine hN _ _ ?_);clear hN hE hT)|refine kL ?_|(refine ⟨fun hb=>?_,fun hb=>?_⟩<;>(try simp only [nrm] at hb)<;>(try (first|(exfalso;omega)|contradiction|exact kB hb)))|refine kE hke [(0,0)] rfl ?_|refine kF hke [(0,0)] rfl ?_|refine kW cfg_ok ?_|refine kC ?_|refine bdA ?_|refine bd2 ?_|refine bdR ?_|refine bdL ?_)<;>((try with_reducible refine evCut fun N hN hE hT=>?_);(conv=>whnf)))|(refine And.intro ?_ ?_;rotate_left;(conv=>whnf);rotate_right))
           all_goals first|rfl|omega|trace_state
open Go Go.RowKit Eng
def noPl : Player:=⟨-1,0,0,[],0,[],false⟩
theorem okP_noPl : OkP noPl:=⟨by simp [noPl],by simp [noPl],by simp [noPl],by simp [noPl]⟩
theorem set_none (w : Wld) : (setW w noPl).1 = w:=by
 have hs : soundB noPl = false:=by rfl
 unfold setW
 split
 · rfl
 · rw [if_pos (.inl hs)]
theorem setN_api (w : Wld) (hw : OkW w) : Api Tryz.prog 28 [wldV w,.agg [i64 (-1),i64 0,i64 0,.lit (.slice none 0 0),i64 0,.lit (.slice none 0 0),.ff]] (.tup [wldV w,i64 (setW w noPl).2]):=by
 have h:=api_weak (set_world w noPl hw okP_noPl) (args':=[wldV w,.agg [i64 (-1),i64 0,i64 0,.lit (.slice none 0 0),i64 0,.lit (.slice none 0 0),.ff]])
   (.cons (Le.refl _) (.cons (Le.agg (.cons (Le.refl _) (.cons (Le.refl _) (.cons (Le.refl _) (.cons (Le.nil _) (.cons (Le.refl _) (.cons (Le.nil _) (.cons (Le.ff rfl) .nil)))))))) .nil))
 rw [set_none] at h
 exact h
def newP (w : Wld) (id : Int) : Player:=⟨id,spawnX w.size id,0,newB8,-1,[],false⟩
theorem okP_newP (w : Wld) (id : Int) : OkP (newP w id):=⟨fun s hs=>by rw [(List.mem_replicate.1 hs).2];exact ⟨by decide,by decide⟩,by simp [newP],by show newB8.length * 16 ≤ _;rw [show newB8.length = 8 from rfl];omega,by simp [newP]⟩
theorem setJ_api (w : Wld) (id : Int) (hw : OkW w) : Api Tryz.prog 28 [wldV w,.agg [i64 id,i64 (spawnX w.size id),i64 0,.vec .slot newB8,i64 (-1),.lit (.slice none 0 0),.ff]] (.tup [wldV (setW w (newP w id)).1,i64 (setW w (newP w id)).2]):=
 api_weak (set_world w (newP w id) hw (okP_newP w id)) (args':=[wldV w,.agg [i64 id,i64 (spawnX w.size id),i64 0,.vec .slot newB8,i64 (-1),.lit (.slice none 0 0),.ff]])
   (.cons (Le.refl _) (.cons (Le.agg (.cons (Le.refl _) (.cons (Le.refl _) (.cons (Le.refl _) (.cons (Le.refl _) (.cons (Le.refl _) (.cons (Le.nil _) (.cons (Le.ff rfl) .nil)))))))) .nil))
theorem apply_state (w : Wld) (id : Int) (c : Cmd) (hw : OkW w) (hR : rightW w = false) : Api Tryz.prog 11 [wldV w,i64 id,cmdV c] (.tup [wldV w,i64 113]):=by
 have hsn:=setN_api w hw
 have hrt:=rightW_api w hw
 rw [hR] at hrt
 generalize (setW w noPl).2 = E at *
 refine Api.of_fin cfg_ok Tryz.func11 rfl (nt:=113) rfl rfl ?_
 ((try with_reducible refine evCut fun N hN hE hT=>?_);(conv=>whnf))
 repeat' (first|exact trivial|((first|((first|refine hT _ _ ?_|refine hE _ _ _ ?_|refine hN _ _ ?_);clear hN hE hT)|refine kL ?_|(refine ⟨fun hb=>?_,fun hb=>?_⟩<;>(try simp only [nrm] at hb)<;>(try (first|(exfalso;omega)|contradiction|exact kB hb)))|refine kA hsn ?_|refine kD hsn ?_|refine kA hrt ?_|refine kD hrt ?_|refine kW cfg_ok ?_|refine kC ?_|refine bdA ?_|refine bd2 ?_|refine bdR ?_|refine bdL ?_)<;>((try with_reducible refine evCut fun N hN hE hT=>?_);(conv=>whnf)))|(refine And.intro ?_ ?_;rotate_left;(conv=>whnf);rotate_right))
 all_goals first|rfl|omega|trace_state
theorem apply_cmd (w : Wld) (id : Int) (c : Cmd) (hw : OkW w) (hR : rightW w = true) (h0 : 0 ≤ c.dol) (h1 : c.dol ≤ 255) (hD : rightD c = false) : Api Tryz.prog 11 [wldV w,i64 id,cmdV c] (.tup [wldV w,i64 109]):=by
 have hsn:=setN_api w hw
 have hrt:=rightW_api w hw
 have hcr:=cmdright_api c h0 h1
 rw [hR] at hrt
 rw [hD] at hcr
 generalize (setW w noPl).2 = E at *
 refine Api.of_fin cfg_ok Tryz.func11 rfl (nt:=113) rfl rfl ?_
 ((try with_reducible refine evCut fun N hN hE hT=>?_);(conv=>whnf))
 repeat' (first|exact trivial|((first|((first|refine hT _ _ ?_|refine hE _ _ _ ?_|refine hN _ _ ?_);clear hN hE hT)|refine kL ?_|(refine ⟨fun hb=>?_,fun hb=>?_⟩<;>(try simp only [nrm] at hb)<;>(try (first|(exfalso;omega)|contradiction|exact kB hb)))|refine kA hsn ?_|refine kD hsn ?_|refine kA hrt ?_|refine kD hrt ?_|refine kA hcr ?_|refine kD hcr ?_|refine kW cfg_ok ?_|refine kC ?_|refine bdA ?_|refine bd2 ?_|refine bdR ?_|refine bdL ?_)<;>((try with_reducible refine evCut fun N hN hE hT=>?_);(conv=>whnf)))|(refine And.intro ?_ ?_;rotate_left;(conv=>whnf);rotate_right))
 all_goals first|rfl|omega|trace_state
theorem apply_player (w : Wld) (id : Int) (c : Cmd) (hw : OkW w) (hR : rightW w = true) (h0 : 0 ≤ c.dol) (h1 : c.dol ≤ 255) (hD : rightD c = true) (hp : (playerW w id).2 = decide (c.dol = 1)) : Api Tryz.prog 11 [wldV w,i64 id,cmdV c] (.tup [wldV w,i64 110]):=by
 have hsn:=setN_api w hw
 have hrt:=rightW_api w hw
 have hcr:=cmdright_api c h0 h1
 have hpl:=wplayer_api w id hw
 rw [hR] at hrt
 rw [hD] at hcr
 generalize (setW w noPl).2 = E at *
 generalize playerW w id = P at *
 obtain ⟨P1,P2⟩:=P
 dsimp only at *
 subst hp
 refine Api.of_fin cfg_ok Tryz.func11 rfl (nt:=113) rfl rfl ?_
 ((try with_reducible refine evCut fun N hN hE hT=>?_);(conv=>whnf))
 repeat' (first|exact trivial|((first|((first|refine hT _ _ ?_|refine hE _ _ _ ?_|refine hN _ _ ?_);clear hN hE hT)|refine kL ?_|(refine ⟨fun hb=>?_,fun hb=>?_⟩<;>(try simp only [nrm] at hb)<;>(try (first|(exfalso;omega)|contradiction|exact kB hb)))|refine kA hsn ?_|refine kD hsn ?_|refine kA hrt ?_|refine kD hrt ?_|refine kA hcr ?_|refine kD hcr ?_|refine kA hpl ?_|refine kD hpl ?_|refine kW cfg_ok ?_|refine kC ?_|refine bdA ?_|refine bd2 ?_|refine bdR ?_|refine bdL ?_)<;>((try with_reducible refine evCut fun N hN hE hT=>?_);(conv=>whnf)))|(refine And.intro ?_ ?_;rotate_left;(conv=>whnf);rotate_right))
 all_goals first|rfl|omega|trace_state
theorem apply_join (w : Wld) (id a b e n : Int) (hw : OkW w) (hR : rightW w = true) (hi : id ≤ 9223372036854775807) (hD : rightD ⟨1,a,b,e,n⟩ = true) (hp : (playerW w id).2 = false) : Api Tryz.prog 11 [wldV w,i64 id,cmdV ⟨1,a,b,e,n⟩] (.tup [wldV (setW w (newP w id)).1,i64 (setW w (newP w id)).2]):=by
 have hsn:=setN_api w hw
 have hrt:=rightW_api w hw
 have hcr:=cmdright_api ⟨1,a,b,e,n⟩ (by dsimp only;omega) (by dsimp only;omega)
 have hpl:=wplayer_api w id hw
 have hsp:=spawn_api w.size id hi
 have hsj:=setJ_api w id hw
 have hnw:=new_api 8 (by omega) (by omega)
 change Api _ _ _ (.vec .slot newB8) at hnw
 rw [hR] at hrt
 rw [hD] at hcr
 generalize (setW w noPl).2 = E at *
 generalize setW w (newP w id) = J at *
 generalize spawnX w.size id = SX at *
 generalize newB8 = NB at *
 generalize playerW w id = P at *
 obtain ⟨P1,P2⟩:=P
 dsimp only at *
 subst hp
 refine Api.of_fin cfg_ok Tryz.func11 rfl (nt:=113) rfl rfl ?_
 ((try with_reducible refine evCut fun N hN hE hT=>?_);(conv=>whnf))
 repeat' (first|exact trivial|((first|((first|refine hT _ _ ?_|refine hE _ _ _ ?_|refine hN _ _ ?_);clear hN hE hT)|refine kL ?_|(refine ⟨fun hb=>?_,fun hb=>?_⟩<;>(try simp only [nrm] at hb)<;>(try (first|(exfalso;omega)|contradiction|exact kB hb)))|refine kA hsn ?_|refine kD hsn ?_|refine kA hrt ?_|refine kD hrt ?_|refine kA hcr ?_|refine kD hcr ?_|refine kA hpl ?_|refine kD hpl ?_|refine kA hsp ?_|refine kD hsp ?_|refine kA hsj ?_|refine kD hsj ?_|refine kA hnw ?_|refine kD hnw ?_|refine kW cfg_ok ?_|refine kC ?_|refine bdA ?_|refine bd2 ?_|refine bdR ?_|refine bdL ?_)<;>((try with_reducible refine evCut fun N hN hE hT=>?_);(conv=>whnf)))|(refine And.intro ?_ ?_;rotate_left;(conv=>whnf);rotate_right))
 all_goals first|rfl|omega|trace_state
theorem act_2 {w : Wld} {p : Player} (a b e n : Int) (hp : Here w p) (hD : rightD ⟨2,a,b,e,n⟩ = true) : Ev1 Tryz.prog 32 [.ptr 0 0] (actM w p ⟨2,a,b,e,n⟩) (i64 (actA w p ⟨2,a,b,e,n⟩).2) (aftM (actA w p ⟨2,a,b,e,n⟩)):=by
 have hD' : (rngB (-1) 1 a && (rngB (-1) 1 b && (zeroB e && zeroB n))) = true:=hD
 simp only [rngB,Bool.and_eq_true,decide_eq_true_eq] at hD'
 exact move_ev w p ⟨2,a,b,e,n⟩ hp.rw hp.sound.1 hp.sound.2 hD'.1 hD'.2.1
theorem act_3 {w : Wld} {p : Player} (a b e n : Int) (hp : Here w p) (hD : rightD ⟨3,a,b,e,n⟩ = true) : Ev1 Tryz.prog 33 [.ptr 0 0] (actM w p ⟨3,a,b,e,n⟩) (i64 (actA w p ⟨3,a,b,e,n⟩).2) (aftM (actA w p ⟨3,a,b,e,n⟩)):=by
 have hD' : (rngB 0 127 a && (rngB 0 127 b && (zeroB e && zeroB n))) = true:=hD
 simp only [rngB,Bool.and_eq_true,decide_eq_true_eq] at hD'
 exact breaks_ev w p ⟨3,a,b,e,n⟩ hp.rw hp.sound.1 hp.sound.2 hD'.1 hD'.2.1
theorem act_4 {w : Wld} {p : Player} (a b e n : Int) (hp : Here w p) (hD : rightD ⟨4,a,b,e,n⟩ = true) : Ev1 Tryz.prog 34 [.ptr 0 0] (actM w p ⟨4,a,b,e,n⟩) (i64 (actA w p ⟨4,a,b,e,n⟩).2) (aftM (actA w p ⟨4,a,b,e,n⟩)):=by
 have hD' : (rngB 0 127 a && (rngB 0 127 b && (rngB 0 7 e && zeroB n))) = true:=hD
 simp only [rngB,Bool.and_eq_true,decide_eq_true_eq] at hD'
 exact puts_ev w p ⟨4,a,b,e,n⟩ hp.rw hp.sound.1 hp.sound.2 hD'.1 hD'.2.1
theorem act_5 {w : Wld} {p : Player} (a b e n : Int) (hp : Here w p) (hD : rightD ⟨5,a,b,e,n⟩ = true) : Ev1 Tryz.prog 35 [.ptr 0 0] (actM w p ⟨5,a,b,e,n⟩) (i64 (actA w p ⟨5,a,b,e,n⟩).2) (aftM (actA w p ⟨5,a,b,e,n⟩)):=by
 exact take_ev w p ⟨5,a,b,e,n⟩ hp.rw hp.sound.1 hp.sound.2
theorem act_6 {w : Wld} {p : Player} (a b e n : Int) (hp : Here w p) (hD : rightD ⟨6,a,b,e,n⟩ = true) : Ev1 Tryz.prog 36 [.ptr 0 0] (actM w p ⟨6,a,b,e,n⟩) (i64 (actA w p ⟨6,a,b,e,n⟩).2) (aftM (actA w p ⟨6,a,b,e,n⟩)):=by
 exact drop_ev w p ⟨6,a,b,e,n⟩ hp.rw hp.sound.1 hp.sound.2
theorem act_7 {w : Wld} {p : Player} (a b e n : Int) (hp : Here w p) (hD : rightD ⟨7,a,b,e,n⟩ = true) : Ev1 Tryz.prog 37 [.ptr 0 0] (actM w p ⟨7,a,b,e,n⟩) (i64 (actA w p ⟨7,a,b,e,n⟩).2) (aftM (actA w p ⟨7,a,b,e,n⟩)):=by
 have hD' : (rngB 0 127 a && (rngB 0 127 b && (rngB 0 7 e && rngB 1 1000 n))) = true:=hD
 simp only [rngB,Bool.and_eq_true,decide_eq_true_eq] at hD'
 exact store_ev w p ⟨7,a,b,e,n⟩ hp.rw hp.sound.1 hp.sound.2 hD'.1 hD'.2.1
theorem act_8 {w : Wld} {p : Player} (a b e n : Int) (hp : Here w p) (hD : rightD ⟨8,a,b,e,n⟩ = true) : Ev1 Tryz.prog 37 [.ptr 0 0] (actM w p ⟨8,a,b,e,n⟩) (i64 (actA w p ⟨8,a,b,e,n⟩).2) (aftM (actA w p ⟨8,a,b,e,n⟩)):=by
 have hD' : (rngB 0 127 a && (rngB 0 127 b && (rngB 0 7 e && rngB 1 1000 n))) = true:=hD
 simp only [rngB,Bool.and_eq_true,decide_eq_true_eq] at hD'
 exact store_ev w p ⟨8,a,b,e,n⟩ hp.rw hp.sound.1 hp.sound.2 hD'.1 hD'.2.1
theorem act_9 {w : Wld} {p : Player} (a b e n : Int) (hp : Here w p) (hD : rightD ⟨9,a,b,e,n⟩ = true) : Ev1 Tryz.prog 38 [.ptr 0 0] (actM w p ⟨9,a,b,e,n⟩) (i64 (actA w p ⟨9,a,b,e,n⟩).2) (aftM (actA w p ⟨9,a,b,e,n⟩)):=by
 exact make_ev w p ⟨9,a,b,e,n⟩ hp.rw hp.sound.1
theorem act_10 {w : Wld} {p : Player} (a b e n : Int) (hp : Here w p) (hD : rightD ⟨10,a,b,e,n⟩ = true) : Ev1 Tryz.prog 39 [.ptr 0 0] (actM w p ⟨10,a,b,e,n⟩) (i64 (actA w p ⟨10,a,b,e,n⟩).2) (aftM (actA w p ⟨10,a,b,e,n⟩)):=by
 exact eat_ev w p ⟨10,a,b,e,n⟩ hp.rw hp.sound.1
theorem act_11 {w : Wld} {p : Player} (a b e n : Int) (hp : Here w p) (hD : rightD ⟨11,a,b,e,n⟩ = true) : Ev1 Tryz.prog 40 [.ptr 0 0] (actM w p ⟨11,a,b,e,n⟩) (i64 (actA w p ⟨11,a,b,e,n⟩).2) (aftM (actA w p ⟨11,a,b,e,n⟩)):=by
 exact offerD_ev w p ⟨11,a,b,e,n⟩ hp.rw hp.sound.1 hp.sound.2 rfl
theorem act_12 {w : Wld} {p : Player} (a b e n : Int) (hp : Here w p) (hD : rightD ⟨12,a,b,e,n⟩ = true) : Ev1 Tryz.prog 40 [.ptr 0 0] (actM w p ⟨12,a,b,e,n⟩) (i64 (actA w p ⟨12,a,b,e,n⟩).2) (aftM (actA w p ⟨12,a,b,e,n⟩)):=by
 exact agreeD_ev w p ⟨12,a,b,e,n⟩ hp.rw hp.sound.1 hp.sound.2 rfl
theorem act_13 {w : Wld} {p : Player} (a b e n : Int) (hp : Here w p) (hD : rightD ⟨13,a,b,e,n⟩ = true) : Ev1 Tryz.prog 40 [.ptr 0 0] (actM w p ⟨13,a,b,e,n⟩) (i64 (actA w p ⟨13,a,b,e,n⟩).2) (aftM (actA w p ⟨13,a,b,e,n⟩)):=by
 exact cancelD_ev w p ⟨13,a,b,e,n⟩ hp.rw hp.sound.1 hp.sound.2 rfl
open Go Go.RowKit Eng
theorem apply_act (w : Wld) (id d a b e n : Int) (hw : OkW w) (hR : rightW w = true) (hd : 2 ≤ d ∧ d < 14) (hD : rightD ⟨d,a,b,e,n⟩ = true) (hp : (playerW w id).2 = true) (R : Wld × Int) (hRR : actA w (playerW w id).1 ⟨d,a,b,e,n⟩ = R) : Api Tryz.prog 11 [wldV w,i64 id,cmdV ⟨d,a,b,e,n⟩] (.tup [wldV (if ¬ R.2 = 0 then (w,R.2) else (R.1,0)).1,i64 (if ¬ R.2 = 0 then (w,R.2) else (R.1,0)).2]):=by
 have hsn:=setN_api w hw
 have hrt:=rightW_api w hw
 have hcr:=cmdright_api ⟨d,a,b,e,n⟩ (by dsimp only;omega) (by dsimp only;omega)
 have hpl:=wplayer_api w id hw
 have hh:=(here_of (rightW_iff.1 hR) hp).1
 rcases do_14 (by omega) hd.2 with rfl|rfl|rfl|rfl|rfl|rfl|rfl|rfl|rfl|rfl|rfl|rfl|rfl|rfl
 · omega
 · omega
 all_goals
   first
     | (have hact:=act_2 a b e n hh hD;rw [hRR] at hact)
     | (have hact:=act_3 a b e n hh hD;rw [hRR] at hact)
     | (have hact:=act_4 a b e n hh hD;rw [hRR] at hact)
     | (have hact:=act_5 a b e n hh hD;rw [hRR] at hact)
     | (have hact:=act_6 a b e n hh hD;rw [hRR] at hact)
     | (have hact:=act_7 a b e n hh hD;rw [hRR] at hact)
     | (have hact:=act_8 a b e n hh hD;rw [hRR] at hact)
     | (have hact:=act_9 a b e n hh hD;rw [hRR] at hact)
     | (have hact:=act_10 a b e n hh hD;rw [hRR] at hact)
     | (have hact:=act_11 a b e n hh hD;rw [hRR] at hact)
     | (have hact:=act_12 a b e n hh hD;rw [hRR] at hact)
     | (have hact:=act_13 a b e n hh hD;rw [hRR] at hact)
   rw [hR] at hrt
   rw [hD] at hcr
   clear hRR hh
   generalize (setW w noPl).2 = E at *
   generalize playerW w id = P at *
   obtain ⟨P1,P2⟩:=P
   dsimp only at hp hpl hact
   subst hp
   by_cases hz : R.2 = 0
   · rw [if_neg (not_not_intro hz)]
     rw [aftM_ok hz,hz] at hact
     refine Api.of_fin cfg_ok Tryz.func11 rfl (nt:=113) rfl rfl ?_
     ((try with_reducible refine evCut fun N hN hE hT=>?_);(conv=>whnf))
     repeat' (first|exact trivial|((first|((first|refine hT _ _ ?_|refine hE _ _ _ ?_|refine hN _ _ ?_);clear hN hE hT)|refine kL ?_|(refine ⟨fun hb=>?_,fun hb=>?_⟩<;>(try simp only [nrm] at hb)<;>(try (first|(exfalso;omega)|contradiction|exact kB hb)))|refine kE hact [(0,140)] rfl ?_|refine kF hact [(0,140)] rfl ?_|refine kA hsn ?_|refine kD hsn ?_|refine kA hrt ?_|refine kD hrt ?_|refine kA hcr ?_|refine kD hcr ?_|refine kA hpl ?_|refine kD hpl ?_|refine kW cfg_ok ?_|refine kC ?_|refine bdA ?_|refine bd2 ?_|refine bdR ?_|refine bdL ?_)<;>((try with_reducible refine evCut fun N hN hE hT=>?_);(conv=>whnf)))|(refine And.intro ?_ ?_;rotate_left;(conv=>whnf);rotate_right))
     all_goals first|rfl|omega|trace_state
   · rw [if_pos hz]
     rw [aftM_err hz] at hact
     refine Api.of_fin cfg_ok Tryz.func11 rfl (nt:=113) rfl rfl ?_
     ((try with_reducible refine evCut fun N hN hE hT=>?_);(conv=>whnf))
     repeat' (first|exact trivial|((first|((first|refine hT _ _ ?_|refine hE _ _ _ ?_|refine hN _ _ ?_);clear hN hE hT)|refine kL ?_|(refine ⟨fun hb=>?_,fun hb=>?_⟩<;>(try simp only [nrm] at hb)<;>(try (first|(exfalso;omega)|contradiction|exact kB hb)))|refine kE hact [(0,140)] rfl ?_|refine kF hact [(0,140)] rfl ?_|refine kA hsn ?_|refine kD hsn ?_|refine kA hrt ?_|refine kD hrt ?_|refine kA hcr ?_|refine kD hcr ?_|refine kA hpl ?_|refine kD hpl ?_|refine kW cfg_ok ?_|refine kC ?_|refine bdA ?_|refine bd2 ?_|refine bdR ?_|refine bdL ?_)<;>((try with_reducible refine evCut fun N hN hE hT=>?_);(conv=>whnf)))|(refine And.intro ?_ ?_;rotate_left;(conv=>whnf);rotate_right))
     all_goals first|rfl|omega|trace_state
open Go Go.RowKit Eng
theorem apply_do {w : Wld} {id : Int} {c : Cmd} (hR : rightW w = true) (hD : rightD c = true) (h1 : ¬ c.dol = 1) (hp : (playerW w id).2 = true) :
   applyW w id c = if ¬ (actA w (playerW w id).1 c).2 = 0 then (w,(actA w (playerW w id).1 c).2) else ((actA w (playerW w id).1 c).1,0):=by
 unfold applyW
 rw [if_neg (by rw [hR];simp),if_neg (by rw [hD];simp),if_neg (by rw [hp,decide_eq_false h1];simp),if_neg h1]
theorem apply_api (w : Wld) (id : Int) (c : Cmd) (hw : OkW w) (hi : id ≤ 9223372036854775807) (hd : 0 ≤ c.dol ∧ c.dol ≤ 255) : Api Tryz.prog 11 [wldV w,i64 id,cmdV c] (.tup [wldV (applyW w id c).1,i64 (applyW w id c).2]):=by
 cases hR : rightW w with
 | false =>
   have e : applyW w id c = (w,113):=by unfold applyW;rw [if_pos hR]
   rw [e];exact apply_state w id c hw hR
 | true =>
   cases hD : rightD c with
   | false =>
     have e : applyW w id c = (w,109):=by unfold applyW;rw [if_neg (by rw [hR];simp),if_pos hD]
     rw [e];exact apply_cmd w id c hw hR hd.1 hd.2 hD
   | true =>
     by_cases hp : (playerW w id).2 = decide (c.dol = 1)
     · have e : applyW w id c = (w,110):=by unfold applyW;rw [if_neg (by rw [hR];simp),if_neg (by rw [hD];simp),if_pos hp]
       rw [e];exact apply_player w id c hw hR hd.1 hd.2 hD hp
     · by_cases h1 : c.dol = 1
       · have he0 : applyW w id c = setW w (newP w id):=by unfold applyW;rw [if_neg (by rw [hR];simp),if_neg (by rw [hD];simp),if_neg hp,if_pos h1];rfl
         rw [he0]
         clear he0
         rw [decide_eq_true h1] at hp
         obtain ⟨d,a,b,e,n⟩:=c
         dsimp only at h1
         subst h1
         exact apply_join w id a b e n hw hR hi hD (by simpa using hp)
       · rw [decide_eq_false h1] at hp
         have hp' : (playerW w id).2 = true:=by simpa using hp
         rw [apply_do hR hD h1 hp']
         have hlt : c.dol < 14:=by
           rcases Int.lt_or_le c.dol 14 with h|h
           · exact h
           · rw [rightD_hi h] at hD;cases hD
         obtain ⟨d,a,b,e,n⟩:=c
         dsimp only at h1 hd hlt
         rcases do_14 hd.1 hlt with rfl|rfl|rfl|rfl|rfl|rfl|rfl|rfl|rfl|rfl|rfl|rfl|rfl|rfl
         · exact absurd hD (by rw [show rightD ⟨0,a,b,e,n⟩ = false from rfl];simp)
         · exact absurd rfl h1
         all_goals exact apply_act w id _ a b e n hw hR (by omega) hD hp' _ rfl
open Go Go.RowKit Eng
open Go Go.RowKit Eng
def hv (w : Wld) (i : Nat) : List Int:=(List.range i).map (fun k : Nat=>tw (k : Int) w) ++ List.replicate (13 - i) 0
open Go Go.RowKit Eng
open Go Go.RowKit Eng
open Go Go.RowKit Eng
def updW (w : Wld) (ko : Option Chunk) (p : Player) : Wld:=match ko with
 | some k=>withP (withCs w (putL w.seed w.chunks k)) (setL w.players p)
 | none=>withP w (setL w.players p)
open Go Go.RowKit Eng
inductive AlikeW (w w' : Wld) (p : Player) : Wld × Int → Wld × Int → Prop where
 | err (e : Int) (h : ¬ e = 0) : AlikeW w w' p (w,e) (w',e)
 | ok (ko : Option Chunk) (p' : Player) (hi : p'.id = p.id) (hx : p'.x - p.x ≤ 1 ∧ p.x - p'.x ≤ 1 ∧ p'.y - p.y ≤ 1 ∧ p.y - p'.y ≤ 1) (hw : p'.wth = p.wth)
     (hk : ∀ k,ko = some k → rightB k = true ∧ max k.x k.y < w.size ∧ ∃ X Y,nearP p X Y = true ∧ k.x = X / 8 ∧ k.y = Y / 8)
     (h1 : RW (updW w ko p')) (h2 : RW (updW w' ko p')) : AlikeW w w' p (updW w ko p',0) (updW w' ko p',0)
theorem here_player {w : Wld} {p : Player} (h : Here w p) : playerW w p.id = (p,true):=by rw [playerW_get h.rw,h.get]
theorem apply_go {w : Wld} {p : Player} (hp : Here w p) (c : Cmd) : applyW w p.id c = if rightD c = false then (w,109) else if c.dol = 1 then (w,110) else if ¬ (actA w p c).2 = 0 then (w,(actA w p c).2) else ((actA w p c).1,0):=by
 unfold applyW
 rw [if_neg (by rw [rightW_iff.2 hp.rw];simp),here_player hp]
 dsimp only
 by_cases hD : rightD c = false
 · rw [if_pos hD,if_pos hD]
 · rw [if_neg hD,if_neg hD]
   by_cases h1 : c.dol = 1
   · rw [if_pos (by rw [decide_eq_true h1]),if_pos h1]
   · rw [if_neg (by rw [decide_eq_false h1];simp),if_neg h1,if_neg h1]
structure Act1 (w : Wld) (p : Player) (ko : Option Chunk) (p' : Player) : Prop where
 hi : p'.id = p.id
 hx : p'.x - p.x ≤ 1 ∧ p.x - p'.x ≤ 1 ∧ p'.y - p.y ≤ 1 ∧ p.y - p'.y ≤ 1
 hk : ∀ k,ko = some k → rightB k = true ∧ max k.x k.y < w.size ∧ ∃ X Y,nearP p X Y = true ∧ k.x = X / 8 ∧ k.y = Y / 8
theorem AlikeW.inv {w w' : Wld} {p : Player} {A B : Wld × Int} (h : AlikeW w w' p A B) : A.2 = B.2 ∧ ((¬ A.2 = 0 ∧ A.1 = w ∧ B.1 = w') ∨ (A.2 = 0 ∧ ∃ ko p',A.1 = updW w ko p' ∧ B.1 = updW w' ko p' ∧ Act1 w p ko p' ∧ RW (updW w ko p'))):=by
 cases h with
 | err e h=>exact ⟨rfl,.inl ⟨h,rfl,rfl⟩⟩
 | ok ko p' hi hx hw hk q1 q2=>exact ⟨rfl,.inr ⟨rfl,ko,p',rfl,rfl,⟨hi,hx,hk⟩,q1⟩⟩
end Go.Proofs.YtchdgiooggdfeaaGreat
