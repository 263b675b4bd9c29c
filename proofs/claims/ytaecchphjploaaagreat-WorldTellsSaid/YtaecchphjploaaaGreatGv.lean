/- homesteadref12; homesteadref13's Right, Copied, Chunk, Player. -/
import Derived.Test.YtaecchphjploaaaGreatGf
import Derived.Test.YtaecchphjploaaaGreatGc
import Derived.Test.YtaecchphjploaaaGreatGs
import Derived.Test.YtaecchphjploaaaGreatGk
import Derived.Test.YtaecchphjploaaaGreatGr
set_option linter.unusedSimpArgs false
set_option linter.unusedVariables false
set_option maxRecDepth 100000
set_option maxHeartbeats 16000000
namespace Go.Proofs.YtaecchphjploaaaGreat
open Go Go.RowKit Eng
theorem fd30 (x : Int) : x.fdiv (2 ^ min (Int.toNat 30) IntKind.u64.bits) = x / 1073741824:=Int.fdiv_eq_ediv_of_nonneg x (by decide)
theorem fd27 (x : Int) : x.fdiv (2 ^ min (Int.toNat 27) IntKind.u64.bits) = x / 134217728:=Int.fdiv_eq_ediv_of_nonneg x (by decide)
theorem fd31 (x : Int) : x.fdiv (2 ^ min (Int.toNat 31) IntKind.u64.bits) = x / 2147483648:=Int.fdiv_eq_ediv_of_nonneg x (by decide)
theorem w64_bd (z : Int) : 0 ≤ w64 z ∧ w64 z ≤ 18446744073709551615:=by
 unfold w64
 simp only [IntKind.wrap,IntKind.bits,IntKind.signed]
 simp
 omega
theorem qdL {a b : Int} {c d : Prop} (ha : 0 ≤ a) (k : c) (hb : 0 < b:=by omega) : (0 ≤ a ∧ 0 < b ∧ c) ∨ d:=.inl ⟨ha,hb,k⟩
theorem r12mix_api (seed n : Int) : Api Tryz.prog 169 [.lit (.int .u64 seed),.lit (.int .u64 n)] (.lit (.int .u64 (mixI seed n))):=by
 have h3 : mixI seed n = bitR .xor .u64 (mix2 seed n) (mix2 seed n / 2147483648):=by unfold mixI;rw [fd31]
 have h2 : mix2 seed n = IntKind.u64.wrap (bitR .xor .u64 (mix1 seed n) (mix1 seed n / 134217728) * 10723151780598845931):=by unfold mix2 turnM w64;rw [fd27]
 have h1 : mix1 seed n = IntKind.u64.wrap (bitR .xor .u64 (mix0 seed n) (mix0 seed n / 1073741824) * 13787848793156543929):=by unfold mix1 turnM w64;rw [fd30]
 have h0 : mix0 seed n = IntKind.u64.wrap (seed + IntKind.u64.wrap (IntKind.u64.wrap (n + 1) * 11400714819323198485)):=by unfold mix0 w64;rfl
 have b0 : 0 ≤ mix0 seed n ∧ mix0 seed n ≤ 18446744073709551615:=w64_bd _
 have b1 : 0 ≤ mix1 seed n ∧ mix1 seed n ≤ 18446744073709551615:=w64_bd _
 have b2 : 0 ≤ mix2 seed n ∧ mix2 seed n ≤ 18446744073709551615:=w64_bd _
 generalize mixI seed n = x3 at *
 generalize mix2 seed n = x2 at *
 generalize mix1 seed n = x1 at *
 generalize mix0 seed n = x0 at *
 refine Api.of_fin cfg_ok Tryz.func169 rfl (nt:=23) rfl rfl ?_
 ((try with_reducible refine evCut fun N hN hE hT=>?_);(conv=>whnf))
 repeat' (first|exact trivial|((first|((first|refine hT _ _ ?_|refine hE _ _ _ ?_|refine hN _ _ ?_);clear hN hE hT)|refine kL ?_|(refine ⟨fun hb=>?_,fun hb=>?_⟩<;>(try simp only [nrm] at hb)<;>(try (first|(exfalso;omega)|contradiction|exact kB hb)))|(refine qdL b0.1 ?_)|(refine qdL b1.1 ?_)|(refine qdL b2.1 ?_)|(simp only [← h0])|(simp only [← h1])|(simp only [← h2])|(refine .inr ?_)|refine kW cfg_ok ?_|refine kC ?_|refine bdA ?_|refine bd2 ?_|refine bdR ?_|refine bdL ?_)<;>((try with_reducible refine evCut fun N hN hE hT=>?_);(conv=>whnf)))|(refine And.intro ?_ ?_;rotate_left;(conv=>whnf);rotate_right))
 all_goals first|rfl|exact congrArg (Value.int .u64) h3.symm|trace_state
theorem gl_suc (seed x y : Int) (k : Nat) : gl seed x y (k + 1) = gl seed x y k ++ [cellI seed (x * 8 + (k : Int) % 8) (y * 8 + (k : Int) / 8)]:=by
 unfold gl
 rw [List.range_succ,List.map_append,List.map_singleton]
 rfl
def cellM (m h y : Int) : Int:=
 let under:=y - (40 + h % 32)
 if under = -1 ∧ m % 11 = 0 then 4
 else if under = -1 ∧ m % 11 = 1 then 3
 else if under < 0 then 0
 else if under ≤ 2 then 1
 else if m % 7 = 0 then 7
 else 2
theorem cellI_M (seed x y : Int) : cellI seed x y = cellM (mixI seed (y * 128 + x)) (mixI seed (100000 + x / 8)) y:=rfl
theorem r12cell_api (seed x y : Int) (hx : 0 ≤ x) (hx2 : x ≤ 127) (hy : 0 ≤ y) (hy2 : y ≤ 127) : Api Tryz.prog 126 [.lit (.int .u64 seed),i64 x,i64 y] (.lit (.int .u8 (cellI seed x y))):=by
 have hm:=mixI_bd seed (y * 128 + x)
 have hm2:=mixI_bd seed (100000 + x / 8)
 have c1:=r12mix_api seed (y * 128 + x)
 have c2:=r12mix_api seed (100000 + x / 8)
 rw [cellI_M]
 generalize mixI seed (y * 128 + x) = M at *
 generalize mixI seed (100000 + x / 8) = H at *
 refine Api.of_fin cfg_ok Tryz.func126 rfl (nt:=64) rfl rfl ?_
 ((try with_reducible refine evCut fun N hN hE hT=>?_);(conv=>whnf))
 repeat' (first|exact trivial|((first|((first|refine hT _ _ ?_|refine hE _ _ _ ?_|refine hN _ _ ?_);clear hN hE hT)|refine kL ?_|(refine ⟨fun hb=>?_,fun hb=>?_⟩<;>(try simp only [nrm] at hb)<;>(try (first|(exfalso;omega)|contradiction|exact kB hb)))|refine kA c1 ?_|refine kD c1 ?_|refine kA c2 ?_|refine kD c2 ?_|refine kW cfg_ok ?_|refine kC ?_|refine bdA ?_|refine bd2 ?_|refine bdR ?_|refine bdL ?_)<;>((try with_reducible refine evCut fun N hN hE hT=>?_);(conv=>whnf)))|(refine And.intro ?_ ?_;rotate_left;(conv=>whnf);rotate_right))
 all_goals first
   | omega
   | (refine congrArg (Value.int .u8) ?_;unfold cellM;simp only [];(repeat' split)<;>omega)
   | trace_state
theorem r12chunk_api (seed x y : Int) (hx : 0 ≤ x) (hx2 : x ≤ 15) (hy : 0 ≤ y) (hy2 : y ≤ 15) : Api Tryz.prog 52 [.lit (.int .u64 seed),i64 x,i64 y] (chunkV (genC seed x y)):=by
 refine Api.of_fin cfg_ok Tryz.func52 rfl (nt:=46) rfl rfl ?_
 conv=>whnf
 repeat' (first|exact trivial|((first|refine kL ?_|(refine ⟨fun hb=>?_,fun hb=>?_⟩<;>(try simp only [nrm] at hb)<;>(try (first|(exfalso;omega)|contradiction|exact kB hb)))|refine kW cfg_ok ?_|refine kC ?_|refine bdA ?_|refine bd2 ?_|refine bdR ?_|refine bdL ?_)<;>(conv=>whnf))|(refine And.intro ?_ ?_;rotate_left;(conv=>whnf);rotate_right))
 refine Runs.loopS cfg_ok (σ:=Nat) [0,1,2,6,7,8] (fun k=>[.lit (.int .u64 seed),i64 x,i64 y,.ptr 12 0,.ptr 14 0,i64 k])
   (fun k=>[(12,.box (chunkC ⟨0,0,[],[],[]⟩)),(14,.box [i64 x,i64 y,.own .u8 150101 0 k none,.lit (.slice none 0 0),.lit (.slice none 0 0)]),(150101,.row .u8 (gl seed x y k))]) (fun k=>k ≤ 64) (fun k=>64 - k) 0 (by omega) ?_ ?_
 · conv=>whnf
   repeat' (first|exact trivial|((first|refine kL ?_|(refine ⟨fun hb=>?_,fun hb=>?_⟩<;>(try simp only [nrm] at hb)<;>(try (first|(exfalso;omega)|contradiction|exact kB hb)))|refine kW cfg_ok ?_|refine kC ?_|refine bdA ?_|refine bd2 ?_|refine bdR ?_|refine bdL ?_)<;>(conv=>whnf))|(refine And.intro ?_ ?_;rotate_left;(conv=>whnf);rotate_right))
   all_goals first|rfl|trace_state
 · intro k hk
   by_cases hlt : k < 64
   · have hc:=r12cell_api seed (x * 8 + (k : Int) % 8) (y * 8 + (k : Int) / 8) (by omega) (by omega) (by omega) (by omega)
     have hl:=gl_len seed x y k
     have hn:=gl_suc seed x y k
     generalize gl seed x y k = L at *
     conv=>whnf
     repeat' (first|exact trivial|((first|refine kL ?_|(refine ⟨fun hb=>?_,fun hb=>?_⟩<;>(try simp only [nrm] at hb)<;>(try (first|(exfalso;omega)|contradiction|exact kB hb)))|refine kA hc ?_|refine kD hc ?_|refine kW cfg_ok ?_|refine kC ?_|refine bdA ?_|refine bd2 ?_|refine bdR ?_|refine bdL ?_)<;>(conv=>whnf))|(refine And.intro ?_ ?_;rotate_left;(conv=>whnf);rotate_right))
     refine .to (k + 1) hlt (by omega) ?_
     rw [hn]
     conv=>whnf
     repeat' (first|exact trivial|((first|refine kL ?_|(refine ⟨fun hb=>?_,fun hb=>?_⟩<;>(try simp only [nrm] at hb)<;>(try (first|(exfalso;omega)|contradiction|exact kB hb)))|refine kW cfg_ok ?_|refine kC ?_|refine bdA ?_|refine bd2 ?_|refine bdR ?_|refine bdL ?_)<;>(conv=>whnf))|(refine And.intro ?_ ?_;rotate_left;(conv=>whnf);rotate_right))
     all_goals first|rfl|(simp [hl];done)|(rw [List.take_of_length_le (show L.length ≤ k by omega)];exact (List.take_of_length_le (by simp;omega)).trans rfl)|trace_state
   · obtain rfl : k = 64:=by omega
     have hl:=gl_len seed x y 64
     have hg : genC seed x y = ⟨x,y,gl seed x y 64,[],[]⟩:=rfl
     rw [hg]
     generalize gl seed x y 64 = L at *
     conv=>whnf
     repeat' (first|exact trivial|((first|refine kL ?_|(refine ⟨fun hb=>?_,fun hb=>?_⟩<;>(try simp only [nrm] at hb)<;>(try (first|(exfalso;omega)|contradiction|exact kB hb)))|refine kW cfg_ok ?_|refine kC ?_|refine bdA ?_|refine bd2 ?_|refine bdR ?_|refine bdL ?_)<;>(conv=>whnf))|(refine And.intro ?_ ?_;rotate_left;(conv=>whnf);rotate_right))
     all_goals first|rfl|(simp [hl];done)|(rw [List.drop_zero];exact List.take_of_length_le (by omega))|trace_state
open Go Go.RowKit Eng
abbrev nilS : AV:=.lit (.slice none 0 0)
theorem rplayer_api (p : Player) (hp : OkP p) : Api Tryz.prog 65 [playerV p] (bol (soundB p)):=by
 have h1:=refRight_api p.bag 8 (by have:=hp.nb;unfold big;omega) hp.bag
 have h2:=refRight_api p.offer 8 (by have:=hp.no;unfold big;omega) hp.offer
 have h3:=hp.no
 change Api _ _ _ (bol (bag8 p.bag)) at h1
 change Api _ _ _ (bol (bag8 p.offer)) at h2
 unfold soundB
 generalize bag8 p.bag = b1 at *
 generalize bag8 p.offer = b2 at *
 cases b1<;>cases b2<;>cases hag : p.agrees
 all_goals
   refine Api.of_fin cfg_ok Tryz.func65 rfl (nt:=48) rfl rfl ?_
   conv=>whnf
   repeat' (first|exact trivial|((first|refine kL ?_|(refine ⟨fun hb=>?_,fun hb=>?_⟩<;>(try simp only [nrm] at hb)<;>(try (first|(exfalso;omega)|contradiction|exact kB hb)))|refine kA h1 ?_|refine kD h1 ?_|refine kA h2 ?_|refine kD h2 ?_|refine kW cfg_ok ?_|refine kC ?_|refine bdA ?_|refine bd2 ?_|refine bdR ?_|refine bdL ?_)<;>(conv=>whnf))|(refine And.intro ?_ ?_;rotate_left;(conv=>whnf);rotate_right))
   all_goals first
     | (refine congrArg Value.bool ?_;simp;done)
     | (refine congrArg Value.bool ?_;simp;omega)
     | (refine congrArg Value.bool ?_;simp [*];done)
     | (refine congrArg Value.bool ?_;simp [*];omega)
     | (refine congrArg Value.bool ?_;simp_all;done)
     | (refine congrArg Value.bool ?_;simp_all;omega)
     | (simp_all;done)
open Go Go.RowKit Eng
abbrev zeroW13 : List AV:=[i64 0,.lit (.int .u64 0),i64 0,.lit (.slice none 0 0),.lit (.slice none 0 0)]
theorem r13copied_api (w : Wld) (hw : OkW w) : Api Tryz.prog 14 [wldV w] (wldV w):=by
 have h1:=hw.nc
 have h2:=hw.np
 refine Api.of_fin cfg_ok Tryz.func14 rfl (nt:=60) rfl rfl ?_
 ((try with_reducible refine evCut fun N hN hE hT=>?_);(conv=>whnf))
 repeat' (first|exact trivial|((first|((first|refine hT _ _ ?_|refine hE _ _ _ ?_|refine hN _ _ ?_);clear hN hE hT)|refine kL ?_|(refine ⟨fun hb=>?_,fun hb=>?_⟩<;>(try simp only [nrm] at hb)<;>(try (first|(exfalso;omega)|contradiction|exact kB hb)))|refine kW cfg_ok ?_|refine kC ?_|refine bdA ?_|refine bd2 ?_|refine bdR ?_|refine bdL ?_)<;>((try with_reducible refine evCut fun N hN hE hT=>?_);(conv=>whnf)))|(refine And.intro ?_ ?_;rotate_left;(conv=>whnf);rotate_right))
 refine Runs.loopS cfg_ok (σ:=Nat) [1,2,3,4] (fun k=>[.ptr 2 0,.ptr 4 0,.ptr 6 0,i64 k]) (fun k=>[(2,.box (wldC w)),(4,.box zeroW13),(6,.box [i64 w.size,.lit (.int .u64 w.seed),i64 w.tick,.own .chunk 150101 0 k none,.lit (.slice none 0 0)]),(150101,.row .chunk (w.chunks.take k))]) (fun k=>k ≤ w.chunks.length) (fun k=>w.chunks.length - k) 0 (by omega) ?_ ?_
 · conv=>whnf
   repeat' (first|exact trivial|((first|((first|refine hT _ _ ?_|refine hE _ _ _ ?_|refine hN _ _ ?_);clear hN hE hT)|refine kL ?_|(refine ⟨fun hb=>?_,fun hb=>?_⟩<;>(try simp only [nrm] at hb)<;>(try (first|(exfalso;omega)|contradiction|exact kB hb)))|refine kW cfg_ok ?_|refine kC ?_|refine bdA ?_|refine bd2 ?_|refine bdR ?_|refine bdL ?_)<;>((try with_reducible refine evCut fun N hN hE hT=>?_);(conv=>whnf)))|(refine And.intro ?_ ?_;rotate_left;(conv=>whnf);rotate_right))
   all_goals first|rfl|(simp;done)|trace_state
 · intro k hk
   by_cases hlt : k < w.chunks.length
   · have hf:=hw.fit _ (elt_mem (t:=.chunk) hlt)
     have hcp:=r11copied_ev (elt .chunk w.chunks k) hf
     have hnx:=take_next (tt:=.chunk) hlt
     conv=>whnf
     repeat' (first|exact trivial|((first|((first|refine hT _ _ ?_|refine hE _ _ _ ?_|refine hN _ _ ?_);clear hN hE hT)|refine kL ?_|(refine ⟨fun hb=>?_,fun hb=>?_⟩<;>(try simp only [nrm] at hb)<;>(try (first|(exfalso;omega)|contradiction|exact kB hb)))|refine kE hcp [(390001,150001),(390003,150003),(390005,150005)] rfl ?_|refine kF hcp [(390001,150001),(390003,150003),(390005,150005)] rfl ?_|refine kW cfg_ok ?_|refine kC ?_|refine bdA ?_|refine bd2 ?_|refine bdR ?_|refine bdL ?_)<;>((try with_reducible refine evCut fun N hN hE hT=>?_);(conv=>whnf)))|(refine And.intro ?_ ?_;rotate_left;(conv=>whnf);rotate_right))
     refine .to (k + 1) hlt (by omega) ?_
     conv=>whnf
     repeat' (first|exact trivial|((first|((first|refine hT _ _ ?_|refine hE _ _ _ ?_|refine hN _ _ ?_);clear hN hE hT)|refine kL ?_|(refine ⟨fun hb=>?_,fun hb=>?_⟩<;>(try simp only [nrm] at hb)<;>(try (first|(exfalso;omega)|contradiction|exact kB hb)))|refine kW cfg_ok ?_|refine kC ?_|refine bdA ?_|refine bd2 ?_|refine bdR ?_|refine bdL ?_)<;>((try with_reducible refine evCut fun N hN hE hT=>?_);(conv=>whnf)))|(refine And.intro ?_ ?_;rotate_left;(conv=>whnf);rotate_right))
     all_goals first|rfl|(simp;done)|(simp;exact app1 hnx hlt (takekk _ _) rfl rfl)|trace_state
   · obtain rfl : k = w.chunks.length:=by omega
     rw [List.take_length]
     conv=>whnf
     repeat' (first|exact trivial|((first|((first|refine hT _ _ ?_|refine hE _ _ _ ?_|refine hN _ _ ?_);clear hN hE hT)|refine kL ?_|(refine ⟨fun hb=>?_,fun hb=>?_⟩<;>(try simp only [nrm] at hb)<;>(try (first|(exfalso;omega)|contradiction|exact kB hb)))|refine kW cfg_ok ?_|refine kC ?_|refine bdA ?_|refine bd2 ?_|refine bdR ?_|refine bdL ?_)<;>((try with_reducible refine evCut fun N hN hE hT=>?_);(conv=>whnf)))|(refine And.intro ?_ ?_;rotate_left;(conv=>whnf);rotate_right))
     refine Runs.loopS cfg_ok (σ:=Nat) [1,2,3,5] (fun k=>[.ptr 2 0,.ptr 4 0,.ptr 6 0,i64 k]) (fun k=>[(2,.box (wldC w)),(4,.box zeroW13),(6,.box [i64 w.size,.lit (.int .u64 w.seed),i64 w.tick,.own .chunk 150101 0 w.chunks.length none,.own .player 150103 0 k none]),(150101,.row .chunk w.chunks),(150103,.row .player (w.players.take k))]) (fun k=>k ≤ w.players.length) (fun k=>w.players.length - k) 0 (by omega) ?_ ?_
     · conv=>whnf
       repeat' (first|exact trivial|((first|((first|refine hT _ _ ?_|refine hE _ _ _ ?_|refine hN _ _ ?_);clear hN hE hT)|refine kL ?_|(refine ⟨fun hb=>?_,fun hb=>?_⟩<;>(try simp only [nrm] at hb)<;>(try (first|(exfalso;omega)|contradiction|exact kB hb)))|refine kW cfg_ok ?_|refine kC ?_|refine bdA ?_|refine bd2 ?_|refine bdR ?_|refine bdL ?_)<;>((try with_reducible refine evCut fun N hN hE hT=>?_);(conv=>whnf)))|(refine And.intro ?_ ?_;rotate_left;(conv=>whnf);rotate_right))
       all_goals first|rfl|(simp;done)|trace_state
     · intro k hk
       by_cases hlt : k < w.players.length
       · have hf:=hw.players _ (elt_mem (t:=.player) hlt)
         have n1:=hf.nb
         have n2:=hf.no
         have hnx:=take_next (tt:=.player) hlt
         conv=>whnf
         repeat' (first|exact trivial|((first|((first|refine hT _ _ ?_|refine hE _ _ _ ?_|refine hN _ _ ?_);clear hN hE hT)|refine kL ?_|(refine ⟨fun hb=>?_,fun hb=>?_⟩<;>(try simp only [nrm] at hb)<;>(try (first|(exfalso;omega)|contradiction|exact kB hb)))|refine kW cfg_ok ?_|refine kC ?_|refine bdA ?_|refine bd2 ?_|refine bdR ?_|refine bdL ?_)<;>((try with_reducible refine evCut fun N hN hE hT=>?_);(conv=>whnf)))|(refine And.intro ?_ ?_;rotate_left;(conv=>whnf);rotate_right))
         refine .to (k + 1) hlt (by omega) ?_
         conv=>whnf
         repeat' (first|exact trivial|((first|((first|refine hT _ _ ?_|refine hE _ _ _ ?_|refine hN _ _ ?_);clear hN hE hT)|refine kL ?_|(refine ⟨fun hb=>?_,fun hb=>?_⟩<;>(try simp only [nrm] at hb)<;>(try (first|(exfalso;omega)|contradiction|exact kB hb)))|refine kW cfg_ok ?_|refine kC ?_|refine bdA ?_|refine bd2 ?_|refine bdR ?_|refine bdL ?_)<;>((try with_reducible refine evCut fun N hN hE hT=>?_);(conv=>whnf)))|(refine And.intro ?_ ?_;rotate_left;(conv=>whnf);rotate_right))
         all_goals first|rfl|(simp;done)|(simp;exact app1 hnx hlt (takekk _ _) rfl rfl)|trace_state
       · obtain rfl : k = w.players.length:=by omega
         rw [List.take_length]
         conv=>whnf
         repeat' (first|exact trivial|((first|((first|refine hT _ _ ?_|refine hE _ _ _ ?_|refine hN _ _ ?_);clear hN hE hT)|refine kL ?_|(refine ⟨fun hb=>?_,fun hb=>?_⟩<;>(try simp only [nrm] at hb)<;>(try (first|(exfalso;omega)|contradiction|exact kB hb)))|refine kW cfg_ok ?_|refine kC ?_|refine bdA ?_|refine bd2 ?_|refine bdR ?_|refine bdL ?_)<;>((try with_reducible refine evCut fun N hN hE hT=>?_);(conv=>whnf)))|(refine And.intro ?_ ?_;rotate_left;(conv=>whnf);rotate_right))
         all_goals first|rfl|(simp;done)|trace_state
theorem withinS {s x y : Int} (hs : 1 ≤ s ∧ s ≤ 16) : withinW s x y = true ↔ 0 ≤ x ∧ 0 ≤ y ∧ x < 8 * s ∧ y < 8 * s:=by
 unfold withinW
 rw [wr8_eq (by omega) (by omega)]
 simp only [Bool.and_eq_true,decide_eq_true_eq]
 omega
theorem r13there_api (w : Wld) (p : Player) (hs : 1 ≤ w.size ∧ w.size ≤ 16) : Api Tryz.prog 66 [wldV w,playerV p] (bol (withinW w.size p.x p.y)):=by
 have h:=withinS (x:=p.x) (y:=p.y) hs
 cases hW : withinW w.size p.x p.y with
 | true =>
   obtain ⟨h1,h2,h3,h4⟩:=h.1 hW
   refine Api.of_fin cfg_ok Tryz.func66 rfl (nt:=27) rfl rfl ?_
   conv=>whnf
   repeat' (first|exact trivial|((first|refine kL ?_|(refine ⟨fun hb=>?_,fun hb=>?_⟩<;>(try simp only [nrm] at hb)<;>(try (first|(exfalso;omega)|contradiction|exact kB hb)))|refine kW cfg_ok ?_|refine kC ?_|refine bdA ?_|refine bd2 ?_|refine bdR ?_|refine bdL ?_)<;>(conv=>whnf))|(refine And.intro ?_ ?_;rotate_left;(conv=>whnf);rotate_right))
   all_goals (refine congrArg Value.bool ?_;simp;omega)
 | false =>
   have h5 : ¬ (0 ≤ p.x ∧ 0 ≤ p.y ∧ p.x < 8 * w.size ∧ p.y < 8 * w.size):=fun hx=>by rw [h.2 hx] at hW;cases hW
   refine Api.of_fin cfg_ok Tryz.func66 rfl (nt:=27) rfl rfl ?_
   conv=>whnf
   repeat' (first|exact trivial|((first|refine kL ?_|(refine ⟨fun hb=>?_,fun hb=>?_⟩<;>(try simp only [nrm] at hb)<;>(try (first|(exfalso;omega)|contradiction|exact kB hb)))|refine kW cfg_ok ?_|refine kC ?_|refine bdA ?_|refine bd2 ?_|refine bdR ?_|refine bdL ?_)<;>(conv=>whnf))|(refine And.intro ?_ ?_;rotate_left;(conv=>whnf);rotate_right))
   all_goals (refine congrArg Value.bool ?_;simp;omega)
theorem seenC_next {w : Wld} {k : Nat} (h : SeenC w k) (hlt : k < w.chunks.length) (h1 : rightB (elt .chunk w.chunks k) = true) (h2 : (elt .chunk w.chunks k).x < w.size) (h3 : (elt .chunk w.chunks k).y < w.size) (h4 : ∀ j,j + 1 = k → keyC (elt .chunk w.chunks j) < keyC (elt .chunk w.chunks k)) : SeenC w (k + 1):=by
 refine ⟨hlt,fun i hi=>?_,fun i hi=>?_⟩
 · rcases Nat.lt_succ_iff_lt_or_eq.1 hi with h'|rfl
   · exact h.right i h'
   · exact ⟨h1,h2,h3⟩
 · rcases Nat.lt_or_ge (i + 1) k with h'|h'
   · exact h.up i h'
   · have e : i + 1 = k:=by omega
     subst e
     exact h4 i rfl
theorem seenP_next {w : Wld} {k : Nat} (h : SeenP w k) (hlt : k < w.players.length) (h1 : soundB (elt .player w.players k) = true) (h2 : withinW w.size (elt .player w.players k).x (elt .player w.players k).y = true) (h4 : ∀ j,j + 1 = k → (elt .player w.players j).id < (elt .player w.players k).id) : SeenP w (k + 1):=by
 refine ⟨hlt,fun i hi=>?_,fun i hi=>?_⟩
 · rcases Nat.lt_succ_iff_lt_or_eq.1 hi with h'|rfl
   · exact h.right i h'
   · exact ⟨h1,h2⟩
 · rcases Nat.lt_or_ge (i + 1) k with h'|h'
   · exact h.up i h'
   · have e : i + 1 = k:=by omega
     subst e
     exact h4 i rfl
theorem r13right_api (w : Wld) (hw : OkW w) : Api Tryz.prog 20 [wldV w] (bol (rightW w)):=by
 have h1:=hw.nc
 have h2:=hw.np
 refine Api.of_fin cfg_ok Tryz.func20 rfl (nt:=137) rfl rfl ?_
 conv=>whnf
 repeat' (first|exact trivial|((first|refine kL ?_|(refine ⟨fun hb=>?_,fun hb=>?_⟩<;>(try simp only [nrm] at hb)<;>(try (first|(exfalso;omega)|contradiction|exact kB hb)))|refine kW cfg_ok ?_|refine kC ?_|refine bdA ?_|refine bd2 ?_|refine bdR ?_|refine bdL ?_)<;>(conv=>whnf))|(refine And.intro ?_ ?_;rotate_left;(conv=>whnf);rotate_right))
 all_goals (try (rw [wrong_of (p:=True) (fun h=>by have:=h.size;have:=h.few;omega)];done))
 have hH : headW w = true:=by simp only [headW,Bool.and_eq_true,decide_eq_true_eq];omega
 refine Runs.loopS cfg_ok (σ:=Nat) [1,3] (fun k=>[.ptr 2 0,i64 k]) (fun _=>[(2,.box (wldC w))]) (fun k=>SeenC w k) (fun k=>w.chunks.length - k) 0 ⟨by omega,by omega,by omega⟩ ?_ ?_
 · conv=>whnf
   repeat' (first|exact trivial|((first|refine kL ?_|(refine ⟨fun hb=>?_,fun hb=>?_⟩<;>(try simp only [nrm] at hb)<;>(try (first|(exfalso;omega)|contradiction|exact kB hb)))|refine kW cfg_ok ?_|refine kC ?_|refine bdA ?_|refine bd2 ?_|refine bdR ?_|refine bdL ?_)<;>(conv=>whnf))|(refine And.intro ?_ ?_;rotate_left;(conv=>whnf);rotate_right))
 · intro k hs
   have hk:=hs.le
   by_cases hlt : k < w.chunks.length
   · have hcr:=r11right_api _ (hw.chunks _ (elt_mem (t:=.chunk) hlt))
     cases hB : rightB (elt .chunk w.chunks k) with
     | false =>
       rw [wrong_of (p:=True) (fun h=>by have:=(h.chunkAt hlt).1;rw [hB] at this;cases this)]
       rw [hB] at hcr
       conv=>whnf
       repeat' (first|exact trivial|((first|refine kL ?_|(refine ⟨fun hb=>?_,fun hb=>?_⟩<;>(try simp only [nrm] at hb)<;>(try (first|(exfalso;omega)|contradiction|exact kB hb)))|refine kA hcr ?_|refine kD hcr ?_|refine kW cfg_ok ?_|refine kC ?_|refine bdA ?_|refine bd2 ?_|refine bdR ?_|refine bdL ?_)<;>(conv=>whnf))|(refine And.intro ?_ ?_;rotate_left;(conv=>whnf);rotate_right))
     | true =>
       rw [hB] at hcr
       have hp:=rightB_pos hB
       have q0 : (elt .chunk w.chunks (k : Int).toNat).x = (elt .chunk w.chunks k).x:=rfl
       have q1 : (elt .chunk w.chunks (k : Int).toNat).y = (elt .chunk w.chunks k).y:=rfl
       cases k with
       | zero =>
         conv=>whnf
         repeat' (first|exact trivial|((first|refine kL ?_|(refine ⟨fun hb=>?_,fun hb=>?_⟩<;>(try simp only [nrm] at hb)<;>(try (first|(exfalso;omega)|contradiction|exact kB hb)))|refine kA hcr ?_|refine kD hcr ?_|refine kW cfg_ok ?_|refine kC ?_|refine bdA ?_|refine bd2 ?_|refine bdR ?_|refine bdL ?_)<;>(conv=>whnf))|(refine And.intro ?_ ?_;rotate_left;(conv=>whnf);rotate_right))
         all_goals first
           | (rw [wrong_of (p:=True) (fun h=>by have:=h.chunkAt hlt;omega)];done)
           | (refine .to (0 + 1) (seenC_next hs hlt hB (by omega) (by omega) (by omega)) (by omega) ?_;(conv=>whnf))
           | trace_state
         repeat' (first|exact trivial|((first|refine kL ?_|(refine ⟨fun hb=>?_,fun hb=>?_⟩<;>(try simp only [nrm] at hb)<;>(try (first|(exfalso;omega)|contradiction|exact kB hb)))|refine kW cfg_ok ?_|refine kC ?_|refine bdA ?_|refine bd2 ?_|refine bdR ?_|refine bdL ?_)<;>(conv=>whnf))|(refine And.intro ?_ ?_;rotate_left;(conv=>whnf);rotate_right))
       | succ j =>
         have hpj:=rightB_pos (hs.right j (by omega)).1
         have e : (((j + 1 : Nat) : Int) - 1).toNat = j:=by omega
         have q2 : (elt .chunk w.chunks (((j + 1 : Nat) : Int) - 1).toNat).x = (elt .chunk w.chunks j).x:=by rw [e]
         have q3 : (elt .chunk w.chunks (((j + 1 : Nat) : Int) - 1).toNat).y = (elt .chunk w.chunks j).y:=by rw [e]
         conv=>whnf
         repeat' (first|exact trivial|((first|refine kL ?_|(refine ⟨fun hb=>?_,fun hb=>?_⟩<;>(try simp only [nrm] at hb)<;>(try (first|(exfalso;omega)|contradiction|exact kB hb)))|refine kA hcr ?_|refine kD hcr ?_|refine kW cfg_ok ?_|refine kC ?_|refine bdA ?_|refine bd2 ?_|refine bdR ?_|refine bdL ?_)<;>(conv=>whnf))|(refine And.intro ?_ ?_;rotate_left;(conv=>whnf);rotate_right))
         all_goals first
           | (rw [wrong_of (p:=True) (fun h=>by have:=h.chunkAt hlt;omega)];done)
           | (rw [wrong_of (p:=True) (fun h=>by have:=h.chunkUp hlt;unfold keyC at this;omega)];done)
           | (have hk2 : keyC (elt .chunk w.chunks j) < keyC (elt .chunk w.chunks (j + 1)):=(by unfold keyC;omega);refine .to (j + 1 + 1) (seenC_next hs hlt hB (by omega) (by omega) (fun i hi=>by rw [show i = j by omega];exact hk2)) (by omega) ?_;(conv=>whnf))
           | trace_state
         repeat' (first|exact trivial|((first|refine kL ?_|(refine ⟨fun hb=>?_,fun hb=>?_⟩<;>(try simp only [nrm] at hb)<;>(try (first|(exfalso;omega)|contradiction|exact kB hb)))|refine kW cfg_ok ?_|refine kC ?_|refine bdA ?_|refine bd2 ?_|refine bdR ?_|refine bdL ?_)<;>(conv=>whnf))|(refine And.intro ?_ ?_;rotate_left;(conv=>whnf);rotate_right))
   · obtain rfl : k = w.chunks.length:=by omega
     conv=>whnf
     repeat' (first|exact trivial|((first|refine kL ?_|(refine ⟨fun hb=>?_,fun hb=>?_⟩<;>(try simp only [nrm] at hb)<;>(try (first|(exfalso;omega)|contradiction|exact kB hb)))|refine kW cfg_ok ?_|refine kC ?_|refine bdA ?_|refine bd2 ?_|refine bdR ?_|refine bdL ?_)<;>(conv=>whnf))|(refine And.intro ?_ ?_;rotate_left;(conv=>whnf);rotate_right))
     have hsC:=hs
     clear hs
     have hsz : 1 ≤ w.size ∧ w.size ≤ 16:=by omega
     refine Runs.loopS cfg_ok (σ:=Nat) [1,5] (fun k=>[.ptr 2 0,i64 k]) (fun _=>[(2,.box (wldC w))]) (fun k=>SeenP w k) (fun k=>w.players.length - k) 0 ⟨by omega,by omega,by omega⟩ ?_ ?_
     · conv=>whnf
       repeat' (first|exact trivial|((first|refine kL ?_|(refine ⟨fun hb=>?_,fun hb=>?_⟩<;>(try simp only [nrm] at hb)<;>(try (first|(exfalso;omega)|contradiction|exact kB hb)))|refine kW cfg_ok ?_|refine kC ?_|refine bdA ?_|refine bd2 ?_|refine bdR ?_|refine bdL ?_)<;>(conv=>whnf))|(refine And.intro ?_ ?_;rotate_left;(conv=>whnf);rotate_right))
     · intro k hs
       have hk:=hs.le
       by_cases hlt : k < w.players.length
       · have hpr:=rplayer_api _ (hw.players _ (elt_mem (t:=.player) hlt))
         have hth:=r13there_api w (elt .player w.players k) hsz
         cases hB : soundB (elt .player w.players k) with
         | false =>
           rw [wrong_of (p:=True) (fun h=>by have:=(h.playerAt hlt).1;rw [hB] at this;cases this)]
           rw [hB] at hpr
           conv=>whnf
           repeat' (first|exact trivial|((first|refine kL ?_|(refine ⟨fun hb=>?_,fun hb=>?_⟩<;>(try simp only [nrm] at hb)<;>(try (first|(exfalso;omega)|contradiction|exact kB hb)))|refine kA hpr ?_|refine kD hpr ?_|refine kA hth ?_|refine kD hth ?_|refine kW cfg_ok ?_|refine kC ?_|refine bdA ?_|refine bd2 ?_|refine bdR ?_|refine bdL ?_)<;>(conv=>whnf))|(refine And.intro ?_ ?_;rotate_left;(conv=>whnf);rotate_right))
         | true =>
           rw [hB] at hpr
           cases hI : withinW w.size (elt .player w.players k).x (elt .player w.players k).y with
           | false =>
             rw [wrong_of (p:=True) (fun h=>by have:=(h.playerAt hlt).2;rw [hI] at this;cases this)]
             rw [hI] at hth
             conv=>whnf
             repeat' (first|exact trivial|((first|refine kL ?_|(refine ⟨fun hb=>?_,fun hb=>?_⟩<;>(try simp only [nrm] at hb)<;>(try (first|(exfalso;omega)|contradiction|exact kB hb)))|refine kA hpr ?_|refine kD hpr ?_|refine kA hth ?_|refine kD hth ?_|refine kW cfg_ok ?_|refine kC ?_|refine bdA ?_|refine bd2 ?_|refine bdR ?_|refine bdL ?_)<;>(conv=>whnf))|(refine And.intro ?_ ?_;rotate_left;(conv=>whnf);rotate_right))
           | true =>
             rw [hI] at hth
             have q0 : (elt .player w.players (k : Int).toNat).id = (elt .player w.players k).id:=rfl
             cases k with
             | zero =>
               conv=>whnf
               repeat' (first|exact trivial|((first|refine kL ?_|(refine ⟨fun hb=>?_,fun hb=>?_⟩<;>(try simp only [nrm] at hb)<;>(try (first|(exfalso;omega)|contradiction|exact kB hb)))|refine kA hpr ?_|refine kD hpr ?_|refine kA hth ?_|refine kD hth ?_|refine kW cfg_ok ?_|refine kC ?_|refine bdA ?_|refine bd2 ?_|refine bdR ?_|refine bdL ?_)<;>(conv=>whnf))|(refine And.intro ?_ ?_;rotate_left;(conv=>whnf);rotate_right))
               refine .to (0 + 1) (seenP_next hs hlt hB hI (by omega)) (by omega) ?_
               conv=>whnf
               repeat' (first|exact trivial|((first|refine kL ?_|(refine ⟨fun hb=>?_,fun hb=>?_⟩<;>(try simp only [nrm] at hb)<;>(try (first|(exfalso;omega)|contradiction|exact kB hb)))|refine kW cfg_ok ?_|refine kC ?_|refine bdA ?_|refine bd2 ?_|refine bdR ?_|refine bdL ?_)<;>(conv=>whnf))|(refine And.intro ?_ ?_;rotate_left;(conv=>whnf);rotate_right))
             | succ j =>
               have e : (((j + 1 : Nat) : Int) - 1).toNat = j:=by omega
               have q2 : (elt .player w.players (((j + 1 : Nat) : Int) - 1).toNat).id = (elt .player w.players j).id:=by rw [e]
               conv=>whnf
               repeat' (first|exact trivial|((first|refine kL ?_|(refine ⟨fun hb=>?_,fun hb=>?_⟩<;>(try simp only [nrm] at hb)<;>(try (first|(exfalso;omega)|contradiction|exact kB hb)))|refine kA hpr ?_|refine kD hpr ?_|refine kA hth ?_|refine kD hth ?_|refine kW cfg_ok ?_|refine kC ?_|refine bdA ?_|refine bd2 ?_|refine bdR ?_|refine bdL ?_)<;>(conv=>whnf))|(refine And.intro ?_ ?_;rotate_left;(conv=>whnf);rotate_right))
               all_goals first
                 | (rw [wrong_of (p:=True) (fun h=>by have:=h.playerUp hlt;omega)];done)
                 | (refine .to (j + 1 + 1) (seenP_next hs hlt hB hI (fun i hi=>by rw [show i = j by omega];omega)) (by omega) ?_;(conv=>whnf))
                 | trace_state
               repeat' (first|exact trivial|((first|refine kL ?_|(refine ⟨fun hb=>?_,fun hb=>?_⟩<;>(try simp only [nrm] at hb)<;>(try (first|(exfalso;omega)|contradiction|exact kB hb)))|refine kW cfg_ok ?_|refine kC ?_|refine bdA ?_|refine bd2 ?_|refine bdR ?_|refine bdL ?_)<;>(conv=>whnf))|(refine And.intro ?_ ?_;rotate_left;(conv=>whnf);rotate_right))
       · obtain rfl : k = w.players.length:=by omega
         rw [right_seen hH hsC hs]
         conv=>whnf
         repeat' (first|exact trivial|((first|refine kL ?_|(refine ⟨fun hb=>?_,fun hb=>?_⟩<;>(try simp only [nrm] at hb)<;>(try (first|(exfalso;omega)|contradiction|exact kB hb)))|refine kW cfg_ok ?_|refine kC ?_|refine bdA ?_|refine bd2 ?_|refine bdR ?_|refine bdL ?_)<;>(conv=>whnf))|(refine And.intro ?_ ?_;rotate_left;(conv=>whnf);rotate_right))
theorem r13player_api (w : Wld) (id : Int) (hw : OkW w) : Api Tryz.prog 27 [wldV w,i64 id] (.tup [playerV (playerW w id).1,bol (playerW w id).2]):=by
 have hrt:=r13right_api w hw
 have hcp:=r13copied_api w hw
 have hnp:=hw.np
 cases hR : rightW w with
 | false =>
   rw [hR] at hrt
   have hs : playerW w id = (zeroP,false):=by unfold playerW;rw [if_pos hR]
   rw [hs]
   refine Api.of_fin cfg_ok Tryz.func27 rfl (nt:=29) rfl rfl ?_
   conv=>whnf
   repeat' (first|exact trivial|((first|refine kL ?_|(refine ⟨fun hb=>?_,fun hb=>?_⟩<;>(try simp only [nrm] at hb)<;>(try (first|(exfalso;omega)|contradiction|exact kB hb)))|refine kA hrt ?_|refine kD hrt ?_|refine kW cfg_ok ?_|refine kC ?_|refine bdA ?_|refine bd2 ?_|refine bdR ?_|refine bdL ?_)<;>(conv=>whnf))|(refine And.intro ?_ ?_;rotate_left;(conv=>whnf);rotate_right))
   all_goals first|rfl|trace_state
 | true =>
   rw [hR] at hrt
   have hRW:=rightW_iff.1 hR
   have e : playerW w id = match getK pid w.players id with|some p=>(p,true)|none=>(zeroP,false):=by
     unfold playerW;rw [if_neg (by rw [hR];simp)];rfl
   rw [e]
   refine Api.of_fin cfg_ok Tryz.func27 rfl (nt:=29) rfl rfl ?_
   conv=>whnf
   repeat' (first|exact trivial|((first|refine kL ?_|(refine ⟨fun hb=>?_,fun hb=>?_⟩<;>(try simp only [nrm] at hb)<;>(try (first|(exfalso;omega)|contradiction|exact kB hb)))|refine kA hrt ?_|refine kD hrt ?_|refine kW cfg_ok ?_|refine kC ?_|refine bdA ?_|refine bd2 ?_|refine bdR ?_|refine bdL ?_)<;>(conv=>whnf))|(refine And.intro ?_ ?_;rotate_left;(conv=>whnf);rotate_right))
   refine Runs.loopS cfg_ok (σ:=Nat) [1,2,4,6] (fun i=>[i64 id,.ptr 4 0,.ptr 8 0,i64 i]) (fun _=>[(4,.box (wldC w)),(8,.box [i64 0,i64 0,i64 0,nilS,i64 0,nilS,bol false])]) (fun i=>i ≤ w.players.length ∧ ∀ k < i,¬ (elt .player w.players k).id = id) (fun i=>w.players.length - i) 0 ⟨by omega,by omega⟩ ?_ ?_
   · conv=>whnf
     repeat' (first|exact trivial|((first|refine kL ?_|(refine ⟨fun hb=>?_,fun hb=>?_⟩<;>(try simp only [nrm] at hb)<;>(try (first|(exfalso;omega)|contradiction|exact kB hb)))|refine kW cfg_ok ?_|refine kC ?_|refine bdA ?_|refine bd2 ?_|refine bdR ?_|refine bdL ?_)<;>(conv=>whnf))|(refine And.intro ?_ ?_;rotate_left;(conv=>whnf);rotate_right))
   · rintro i ⟨hi,hno⟩
     by_cases hlt : i < w.players.length
     · have hE : (elt .player w.players (i : Int).toNat).id = (elt .player w.players i).id:=rfl
       by_cases he : (elt .player w.players i).id = id
       · have hg:=getP_at hRW.rp hlt
         rw [he] at hg
         rw [hg]
         conv=>whnf
         repeat' (first|exact trivial|((first|refine kL ?_|(refine ⟨fun hb=>?_,fun hb=>?_⟩<;>(try simp only [nrm] at hb)<;>(try (first|(exfalso;omega)|contradiction|exact kB hb)))|refine kA hcp ?_|refine kD hcp ?_|refine kW cfg_ok ?_|refine kC ?_|refine bdA ?_|refine bd2 ?_|refine bdR ?_|refine bdL ?_)<;>(conv=>whnf))|(refine And.intro ?_ ?_;rotate_left;(conv=>whnf);rotate_right))
         all_goals first|rfl|omega|trace_state
       · conv=>whnf
         repeat' (first|exact trivial|((first|refine kL ?_|(refine ⟨fun hb=>?_,fun hb=>?_⟩<;>(try simp only [nrm] at hb)<;>(try (first|(exfalso;omega)|contradiction|exact kB hb)))|refine kW cfg_ok ?_|refine kC ?_|refine bdA ?_|refine bd2 ?_|refine bdR ?_|refine bdL ?_)<;>(conv=>whnf))|(refine And.intro ?_ ?_;rotate_left;(conv=>whnf);rotate_right))
         refine .to (i + 1) ⟨hlt,fun k hk=>?_⟩ (by omega) ?_
         · rcases Nat.lt_succ_iff_lt_or_eq.1 hk with h|rfl
           · exact hno k h
           · exact he
         conv=>whnf
         repeat' (first|exact trivial|((first|refine kL ?_|(refine ⟨fun hb=>?_,fun hb=>?_⟩<;>(try simp only [nrm] at hb)<;>(try (first|(exfalso;omega)|contradiction|exact kB hb)))|refine kW cfg_ok ?_|refine kC ?_|refine bdA ?_|refine bd2 ?_|refine bdR ?_|refine bdL ?_)<;>(conv=>whnf))|(refine And.intro ?_ ?_;rotate_left;(conv=>whnf);rotate_right))
     · obtain rfl : i = w.players.length:=by omega
       rw [getP_none hno]
       conv=>whnf
       repeat' (first|exact trivial|((first|refine kL ?_|(refine ⟨fun hb=>?_,fun hb=>?_⟩<;>(try simp only [nrm] at hb)<;>(try (first|(exfalso;omega)|contradiction|exact kB hb)))|refine kW cfg_ok ?_|refine kC ?_|refine bdA ?_|refine bd2 ?_|refine bdR ?_|refine bdL ?_)<;>(conv=>whnf))|(refine And.intro ?_ ?_;rotate_left;(conv=>whnf);rotate_right))
       all_goals first|rfl|trace_state
theorem r13chunk_api (w : Wld) (x y : Int) (hw : OkW w) : Api Tryz.prog 16 [wldV w,i64 x,i64 y] (.tup [chunkV (chunkW w x y).1,bol (chunkW w x y).2]):=by
 have hrt:=r13right_api w hw
 have hnc:=hw.nc
 cases hR : rightW w with
 | false =>
   rw [hR] at hrt
   rw [chunkW_out (.inl hR)]
   refine Api.of_fin cfg_ok Tryz.func16 rfl (nt:=66) rfl rfl ?_
   conv=>whnf
   repeat' (first|exact trivial|((first|refine kL ?_|(refine ⟨fun hb=>?_,fun hb=>?_⟩<;>(try simp only [nrm] at hb)<;>(try (first|(exfalso;omega)|contradiction|exact kB hb)))|refine kA hrt ?_|refine kD hrt ?_|refine kW cfg_ok ?_|refine kC ?_|refine bdA ?_|refine bd2 ?_|refine bdR ?_|refine bdL ?_)<;>(conv=>whnf))|(refine And.intro ?_ ?_;rotate_left;(conv=>whnf);rotate_right))
   all_goals first|rfl|trace_state
 | true =>
   rw [hR] at hrt
   by_cases hin : 0 ≤ x ∧ x < w.size ∧ 0 ≤ y ∧ y < w.size
   · have hRW:=rightW_iff.1 hR
     have hs:=hRW.size
     rw [chunkW_get hRW hin.1 hin.2.1 hin.2.2.1 hin.2.2.2]
     have hgn:=r12chunk_api w.seed x y hin.1 (by omega) hin.2.2.1 (by omega)
     refine Api.of_fin cfg_ok Tryz.func16 rfl (nt:=66) rfl rfl ?_
     conv=>whnf
     repeat' (first|exact trivial|((first|refine kL ?_|(refine ⟨fun hb=>?_,fun hb=>?_⟩<;>(try simp only [nrm] at hb)<;>(try (first|(exfalso;omega)|contradiction|exact kB hb)))|refine kA hrt ?_|refine kD hrt ?_|refine kW cfg_ok ?_|refine kC ?_|refine bdA ?_|refine bd2 ?_|refine bdR ?_|refine bdL ?_)<;>(conv=>whnf))|(refine And.intro ?_ ?_;rotate_left;(conv=>whnf);rotate_right))
     refine Runs.loopS cfg_ok (σ:=Nat) [1,2,3,6,8] (fun i=>[i64 x,i64 y,.ptr 6 0,.ptr 12 0,i64 i]) (fun _=>[(6,.box (wldC w)),(12,.box (chunkC ⟨0,0,[],[],[]⟩))]) (fun i=>i ≤ w.chunks.length ∧ ∀ k < i,¬ ((elt .chunk w.chunks k).x = x ∧ (elt .chunk w.chunks k).y = y)) (fun i=>w.chunks.length - i) 0 ⟨by omega,by omega⟩ ?_ ?_
     · conv=>whnf
       repeat' (first|exact trivial|((first|refine kL ?_|(refine ⟨fun hb=>?_,fun hb=>?_⟩<;>(try simp only [nrm] at hb)<;>(try (first|(exfalso;omega)|contradiction|exact kB hb)))|refine kW cfg_ok ?_|refine kC ?_|refine bdA ?_|refine bd2 ?_|refine bdR ?_|refine bdL ?_)<;>(conv=>whnf))|(refine And.intro ?_ ?_;rotate_left;(conv=>whnf);rotate_right))
       all_goals first|rfl|trace_state
     · rintro i ⟨hi,hno⟩
       by_cases hlt : i < w.chunks.length
       · have q0 : (elt .chunk w.chunks (i : Int).toNat).x = (elt .chunk w.chunks i).x:=rfl
         have q1 : (elt .chunk w.chunks (i : Int).toNat).y = (elt .chunk w.chunks i).y:=rfl
         by_cases he : (elt .chunk w.chunks i).x = x ∧ (elt .chunk w.chunks i).y = y
         · have hg:=getC_at hRW.rc hRW.xy hlt
           rw [he.1,he.2] at hg
           rw [hg]
           obtain ⟨he1,he2⟩:=he
           have hcp:=r11copied_ev (elt .chunk w.chunks i) (hw.fit _ (elt_mem (t:=.chunk) hlt))
           conv=>whnf
           repeat' (first|exact trivial|((first|refine kL ?_|(refine ⟨fun hb=>?_,fun hb=>?_⟩<;>(try simp only [nrm] at hb)<;>(try (first|(exfalso;omega)|contradiction|exact kB hb)))|refine kE hcp [(390001,150001),(390003,150003),(390005,150005)] rfl ?_|refine kF hcp [(390001,150001),(390003,150003),(390005,150005)] rfl ?_|refine kW cfg_ok ?_|refine kC ?_|refine bdA ?_|refine bd2 ?_|refine bdR ?_|refine bdL ?_)<;>(conv=>whnf))|(refine And.intro ?_ ?_;rotate_left;(conv=>whnf);rotate_right))
           all_goals first|rfl|(simp;done)|omega|trace_state
         · have he1 : (elt .chunk w.chunks i).x = x → ¬ (elt .chunk w.chunks i).y = y:=fun h1 h2=>he ⟨h1,h2⟩
           conv=>whnf
           repeat' (first|exact trivial|((first|refine kL ?_|(refine ⟨fun hb=>?_,fun hb=>?_⟩<;>(try simp only [nrm] at hb)<;>(try (first|(exfalso;omega)|contradiction|exact kB hb)))|refine kW cfg_ok ?_|refine kC ?_|refine bdA ?_|refine bd2 ?_|refine bdR ?_|refine bdL ?_)<;>(conv=>whnf))|(refine And.intro ?_ ?_;rotate_left;(conv=>whnf);rotate_right))
           all_goals
             refine .to (i + 1) ⟨hlt,fun k hk=>?_⟩ (by omega) ?_
             · rcases Nat.lt_succ_iff_lt_or_eq.1 hk with h|rfl
               · exact hno k h
               · exact he
             conv=>whnf
             repeat' (first|exact trivial|((first|refine kL ?_|(refine ⟨fun hb=>?_,fun hb=>?_⟩<;>(try simp only [nrm] at hb)<;>(try (first|(exfalso;omega)|contradiction|exact kB hb)))|refine kW cfg_ok ?_|refine kC ?_|refine bdA ?_|refine bd2 ?_|refine bdR ?_|refine bdL ?_)<;>(conv=>whnf))|(refine And.intro ?_ ?_;rotate_left;(conv=>whnf);rotate_right))
             all_goals first|rfl|trace_state
       · obtain rfl : i = w.chunks.length:=by omega
         rw [getC_none hRW.xy hin.1 (by omega) hno]
         conv=>whnf
         repeat' (first|exact trivial|((first|refine kL ?_|(refine ⟨fun hb=>?_,fun hb=>?_⟩<;>(try simp only [nrm] at hb)<;>(try (first|(exfalso;omega)|contradiction|exact kB hb)))|refine kA hgn ?_|refine kD hgn ?_|refine kW cfg_ok ?_|refine kC ?_|refine bdA ?_|refine bd2 ?_|refine bdR ?_|refine bdL ?_)<;>(conv=>whnf))|(refine And.intro ?_ ?_;rotate_left;(conv=>whnf);rotate_right))
         all_goals first|rfl|trace_state
   · rw [chunkW_out (.inr hin)]
     refine Api.of_fin cfg_ok Tryz.func16 rfl (nt:=66) rfl rfl ?_
     conv=>whnf
     repeat' (first|exact trivial|((first|refine kL ?_|(refine ⟨fun hb=>?_,fun hb=>?_⟩<;>(try simp only [nrm] at hb)<;>(try (first|(exfalso;omega)|contradiction|exact kB hb)))|refine kA hrt ?_|refine kD hrt ?_|refine kW cfg_ok ?_|refine kC ?_|refine bdA ?_|refine bd2 ?_|refine bdR ?_|refine bdL ?_)<;>(conv=>whnf))|(refine And.intro ?_ ?_;rotate_left;(conv=>whnf);rotate_right))
     all_goals first|rfl|omega|trace_state
end Go.Proofs.YtaecchphjploaaaGreat
