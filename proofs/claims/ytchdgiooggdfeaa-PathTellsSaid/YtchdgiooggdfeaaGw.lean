/- homesteadref11, homesteadref13; rows of numbers, plain. -/
import Derived.Test.YtchdgiooggdfeaaGf
import Derived.Test.YtchdgiooggdfeaaGi
import Derived.Test.YtchdgiooggdfeaaGh
import Derived.Test.YtchdgiooggdfeaaGu
import Derived.Test.YtchdgiooggdfeaaGc
import Derived.Test.YtchdgiooggdfeaaGj
set_option linter.unusedSimpArgs false
set_option linter.unusedVariables false
set_option maxRecDepth 100000
set_option maxHeartbeats 16000000
namespace Go.Proofs.Ytchdgiooggdfeaa
open Go Go.RowKit Eng
theorem risesK_adj {α : Type} {key : α → Int} : ∀ {l : List α},(∀ i a b,l[i]? = some a → l[i + 1]? = some b → key a < key b) → risesK key l
 | [],_=>trivial
 | [a],_=>⟨by simp,trivial⟩
 | a :: b :: r,h=>by
   have ih:=risesK_adj (l:=b :: r) fun i x y hx hy=>h (i + 1) x y (by simpa using hx) (by simpa using hy)
   refine ⟨fun x hx=>?_,ih⟩
   have h0:=h 0 a b rfl rfl
   rcases List.mem_cons.1 hx with rfl|hx
   · exact h0
   · have:=ih.1 x hx;omega
theorem chunkW_get {w : Wld} (hR : RW w) {x y : Int} (h0 : 0 ≤ x) (h1 : x < w.size) (h2 : 0 ≤ y) (h3 : y < w.size) : chunkW w x y = ((getK keyC w.chunks (16 * y + x)).getD (genC w.seed x y),true):=by
 have hs:=hR.size
 obtain ⟨e1,e2⟩:=bsC_rises hR.rc hR.xy (x:=x) (y:=y) h0 (by omega)
 have hk : keyC (atC x y) = 16 * y + x:=rfl
 rw [hk] at e1 e2
 have hin : insideW w.size x y = true:=by simp only [insideW,Bool.and_eq_true,decide_eq_true_eq];omega
 unfold chunkW
 rw [if_neg (by rw [hin,rightW_iff.2 hR];simp)]
 rw [e2]
 cases hg : getK keyC w.chunks (16 * y + x) with
 | none=>rw [if_neg (by simp)];rfl
 | some c =>
   rw [if_pos (by simp),e1]
   obtain ⟨h4,h5⟩:=lbK_lt hR.rc hg
   have h6:=elt_get .chunk w.chunks _ h4
   rw [h5] at h6
   rw [← Option.some.inj h6];rfl
theorem chunkW_out {w : Wld} {x y : Int} (h : rightW w = false ∨ ¬ (0 ≤ x ∧ x < w.size ∧ 0 ≤ y ∧ y < w.size)) : chunkW w x y = (atC 0 0,false):=by
 unfold chunkW
 rw [if_pos]
 rcases h with h|h
 · exact .inr h
 · left
   simp only [insideW,Bool.and_eq_false_iff,decide_eq_false_iff_not]
   omega
theorem getC_at {l : List Chunk} (h : risesK keyC l) (hl : ∀ c ∈ l,0 ≤ c.x ∧ c.x < 16) {k : Nat} (hk : k < l.length) : getK keyC l (16 * (elt .chunk l k).y + (elt .chunk l k).x) = some (elt .chunk l k):=
 getK_of_mem h (List.mem_of_getElem? (elt_get .chunk l k hk))
theorem getC_none {l : List Chunk} (hl : ∀ c ∈ l,0 ≤ c.x ∧ c.x < 16) {x y : Int} (h0 : 0 ≤ x) (h1 : x < 16) (hn : ∀ k < l.length,¬ ((elt .chunk l k).x = x ∧ (elt .chunk l k).y = y)) : getK keyC l (16 * y + x) = none:=
 getK_none.2 fun c hc he=>by
   obtain ⟨k,hk,rfl⟩:=List.getElem_of_mem hc
   have h2:=elt_get .chunk l k hk
   rw [List.getElem?_eq_getElem hk] at h2
   have h3:=hn k hk
   rw [← Option.some.inj h2] at h3
   have:=hl _ hc
   unfold keyC at he
   omega
theorem getP_none {l : List Player} {id : Int} (hn : ∀ k < l.length,¬ (elt .player l k).id = id) : getK pid l id = none:=
 getK_none.2 fun c hc he=>by
   obtain ⟨k,hk,rfl⟩:=List.getElem_of_mem hc
   have h2:=elt_get .player l k hk
   rw [List.getElem?_eq_getElem hk] at h2
   have h3:=hn k hk
   rw [← Option.some.inj h2] at h3
   exact h3 he
theorem getP_at {l : List Player} (h : risesK pid l) {k : Nat} (hk : k < l.length) : getK pid l (elt .player l k).id = some (elt .player l k):=
 getK_of_mem h (List.mem_of_getElem? (elt_get .player l k hk))
structure SeenC (w : Wld) (k : Nat) : Prop where
 le : k ≤ w.chunks.length
 right : ∀ i < k,rightB (elt .chunk w.chunks i) = true ∧ (elt .chunk w.chunks i).x < w.size ∧ (elt .chunk w.chunks i).y < w.size
 up : ∀ i,i + 1 < k → keyC (elt .chunk w.chunks i) < keyC (elt .chunk w.chunks (i + 1))
structure SeenP (w : Wld) (k : Nat) : Prop where
 le : k ≤ w.players.length
 right : ∀ i < k,soundB (elt .player w.players i) = true ∧ withinW w.size (elt .player w.players i).x (elt .player w.players i).y = true
 up : ∀ i,i + 1 < k → (elt .player w.players i).id < (elt .player w.players (i + 1)).id
theorem mem_elt {tt : Ty} {l : List (El tt)} {a : El tt} (h : a ∈ l) : ∃ k,k < l.length ∧ elt tt l k = a:=by
 obtain ⟨k,hk,rfl⟩:=List.getElem_of_mem h
 have h2:=elt_get tt l k hk
 rw [List.getElem?_eq_getElem hk] at h2
 exact ⟨k,hk,(Option.some.inj h2).symm⟩
theorem SeenC.rises {w : Wld} (h : SeenC w w.chunks.length) : risesK keyC w.chunks:=risesK_adj fun i a b ha hb=>by
 have hlt:=(List.getElem?_eq_some_iff.1 hb).1
 have e1:=elt_get .chunk w.chunks i (by omega)
 have e2:=elt_get .chunk w.chunks (i + 1) hlt
 rw [ha] at e1
 rw [hb] at e2
 have:=h.up i hlt
 rw [← Option.some.inj e1,← Option.some.inj e2] at this
 exact this
theorem SeenP.rises {w : Wld} (h : SeenP w w.players.length) : risesK pid w.players:=risesK_adj fun i a b ha hb=>by
 have hlt:=(List.getElem?_eq_some_iff.1 hb).1
 have e1:=elt_get .player w.players i (by omega)
 have e2:=elt_get .player w.players (i + 1) hlt
 rw [ha] at e1
 rw [hb] at e2
 have:=h.up i hlt
 rw [← Option.some.inj e1,← Option.some.inj e2] at this
 exact this
theorem right_seen {w : Wld} (hh : headW w = true) (hc : SeenC w w.chunks.length) (hp : SeenP w w.players.length) : rightW w = true:=
 rightW_iff.2 ⟨hh,fun c hm=>by obtain ⟨k,hk,rfl⟩:=mem_elt (tt:=.chunk) hm;have:=hc.right k hk;exact ⟨this.1,by omega⟩,hc.rises,hp.rises,
   fun p hm=>by obtain ⟨k,hk,rfl⟩:=mem_elt (tt:=.player) hm;exact hp.right k hk⟩
theorem wrong_of {w : Wld} {p : Prop} (h : RW w → False) : rightW w = false:=by
 cases hR : rightW w with
 | false=>rfl
 | true=>exact (h (rightW_iff.1 hR)).elim
theorem RW.chunkAt {w : Wld} (h : RW w) {k : Nat} (hk : k < w.chunks.length) : rightB (elt .chunk w.chunks k) = true ∧ (elt .chunk w.chunks k).x < w.size ∧ (elt .chunk w.chunks k).y < w.size:=by
 have:=h.chunks _ (elt_mem (t:=.chunk) hk)
 exact ⟨this.1,by omega,by omega⟩
theorem RW.chunkUp {w : Wld} (h : RW w) {k : Nat} (hk : k + 1 < w.chunks.length) : keyC (elt .chunk w.chunks k) < keyC (elt .chunk w.chunks (k + 1)):=
 risesK_lt h.rc (Nat.lt_succ_self k) (elt_get .chunk w.chunks k (by omega)) (elt_get .chunk w.chunks (k + 1) hk)
theorem RW.playerAt {w : Wld} (h : RW w) {k : Nat} (hk : k < w.players.length) : soundB (elt .player w.players k) = true ∧ withinW w.size (elt .player w.players k).x (elt .player w.players k).y = true:=h.players _ (elt_mem (t:=.player) hk)
theorem RW.playerUp {w : Wld} (h : RW w) {k : Nat} (hk : k + 1 < w.players.length) : (elt .player w.players k).id < (elt .player w.players (k + 1)).id:=
 risesK_lt h.rp (Nat.lt_succ_self k) (elt_get .player w.players k (by omega)) (elt_get .player w.players (k + 1) hk)
theorem takekk {α : Type} (l : List α) (k : Nat) : List.take k (List.take k l) = List.take k l:=by rw [List.take_take,Nat.min_self]
theorem app1 {α : Type} {l X : List α} {k n : Nat} {a b : α} (hb : l.take (k + 1) = l.take k ++ [b]) (hk : k < l.length) (hX : X = l.take k) (ha : a = b) (hn : n = k + 1) : List.take n (X ++ [a]) = l.take (k + 1):=by
 subst hX ha hn
 rw [hb]
 exact List.take_of_length_le (by simp;omega)
open Go Go.RowKit Eng
theorem take_next {tt : Ty} {l : List (El tt)} {k : Nat} (hk : k < l.length) : l.take (k + 1) = l.take k ++ [elt tt l k]:=by
 have:=elt_get tt l k hk
 rw [List.take_add_one,this];rfl
theorem refStack_api (i : Int) (h0 : 0 ≤ i) (h1 : i ≤ 255) : Api Try.prog 120 [.lit (.int .u8 i)] (i64 (stackN i)):=by
 refine Api.of_fin cfg_ok Try.func120 rfl (nt:=15) rfl rfl ?_
 conv=>whnf
 repeat' (first|exact trivial|((first|refine kL ?_|(refine ⟨fun hb=>?_,fun hb=>?_⟩<;>(try simp only [nrm] at hb)<;>(try (first|(exfalso;omega)|contradiction|exact kB hb)))|refine kW cfg_ok ?_|refine kC ?_|refine bdA ?_|refine bd2 ?_|refine bdR ?_|refine bdL ?_)<;>(conv=>whnf))|(refine And.intro ?_ ?_;rotate_left;(conv=>whnf);rotate_right))
 all_goals (refine congrArg (Value.int .i64) ?_;unfold stackN;(repeat' split)<;>omega)
theorem refRight_api (l : List (El .slot)) (n : Int) (hl : l.length ≤ big) (hw : ∀ s ∈ l,okSlot s) : Api Try.prog 104 [.vec .slot l,i64 n] (bol (decide ((l.length : Int) = n) && bagOk l)):=by
 unfold big at hl
 by_cases hn : (l.length : Int) = n
 · rw [decide_eq_true hn,Bool.true_and]
   refine Api.of_fin cfg_ok Try.func104 rfl (nt:=45) rfl rfl ?_
   conv=>whnf
   repeat' (first|exact trivial|((first|refine kL ?_|(refine ⟨fun hb=>?_,fun hb=>?_⟩<;>(try simp only [nrm] at hb)<;>(try (first|(exfalso;omega)|contradiction|exact kB hb)))|refine kW cfg_ok ?_|refine kC ?_|refine bdA ?_|refine bd2 ?_|refine bdR ?_|refine bdL ?_)<;>(conv=>whnf))|(refine And.intro ?_ ?_;rotate_left;(conv=>whnf);rotate_right))
   refine Runs.loopS cfg_ok (σ:=Nat) [0,5] (fun k=>[.vec .slot l,i64 k]) (fun _=>[]) (fun k=>k ≤ l.length ∧ bagOk (l.drop k) = bagOk l) (fun k=>l.length - k) 0 ⟨by omega,rfl⟩ ?_ ?_
   · conv=>whnf
     repeat' (first|exact trivial|((first|refine kL ?_|(refine ⟨fun hb=>?_,fun hb=>?_⟩<;>(try simp only [nrm] at hb)<;>(try (first|(exfalso;omega)|contradiction|exact kB hb)))|refine kW cfg_ok ?_|refine kC ?_|refine bdA ?_|refine bd2 ?_|refine bdR ?_|refine bdL ?_)<;>(conv=>whnf))|(refine And.intro ?_ ?_;rotate_left;(conv=>whnf);rotate_right))
   · rintro k ⟨hk,he⟩
     by_cases hlt : k < l.length
     · have hs:=refStack_api (elt .slot l k).item (hw _ (elt_mem (t:=.slot) hlt)).1 (hw _ (elt_mem (t:=.slot) hlt)).2
       have hE : elt .slot l (k : Int).toNat = elt .slot l k:=rfl
       have hstep : bagOk (l.drop k) = (!(badSlot (elt .slot l k)) && bagOk (l.drop (k + 1))):=by
         rw [drop_elt (t:=.slot) hlt];unfold bagOk;simp
       rw [hstep] at he
       cases hbs : badSlot (elt .slot l k) with
       | true =>
         rw [hbs] at he
         have hb2 : ¬ (((elt .slot l k).item = 0 ∧ (elt .slot l k).n = 0) ∨ (1 ≤ (elt .slot l k).n ∧ (elt .slot l k).n ≤ stackN (elt .slot l k).item)):=fun h=>by rw [badSlot_false.2 h] at hbs;cases hbs
         rw [← he]
         conv=>whnf
         repeat' (first|exact trivial|((first|refine kL ?_|(refine ⟨fun hb=>?_,fun hb=>?_⟩<;>(try simp only [nrm] at hb)<;>(try (first|(exfalso;omega)|contradiction|exact kB hb)))|refine kA hs ?_|refine kD hs ?_|refine kW cfg_ok ?_|refine kC ?_|refine bdA ?_|refine bd2 ?_|refine bdR ?_|refine bdL ?_)<;>(conv=>whnf))|(refine And.intro ?_ ?_;rotate_left;(conv=>whnf);rotate_right))
       | false =>
         rw [hbs] at he
         have hb2:=badSlot_false.1 hbs
         conv=>whnf
         repeat' (first|exact trivial|((first|refine kL ?_|(refine ⟨fun hb=>?_,fun hb=>?_⟩<;>(try simp only [nrm] at hb)<;>(try (first|(exfalso;omega)|contradiction|exact kB hb)))|refine kA hs ?_|refine kD hs ?_|refine kW cfg_ok ?_|refine kC ?_|refine bdA ?_|refine bd2 ?_|refine bdR ?_|refine bdL ?_)<;>(conv=>whnf))|(refine And.intro ?_ ?_;rotate_left;(conv=>whnf);rotate_right))
         all_goals
           refine .to (k + 1) ⟨hlt,by rw [← he];rfl⟩ (by omega) ?_
           conv=>whnf
           repeat' (first|exact trivial|((first|refine kL ?_|(refine ⟨fun hb=>?_,fun hb=>?_⟩<;>(try simp only [nrm] at hb)<;>(try (first|(exfalso;omega)|contradiction|exact kB hb)))|refine kW cfg_ok ?_|refine kC ?_|refine bdA ?_|refine bd2 ?_|refine bdR ?_|refine bdL ?_)<;>(conv=>whnf))|(refine And.intro ?_ ?_;rotate_left;(conv=>whnf);rotate_right))
     · obtain rfl : k = l.length:=by omega
       rw [List.drop_length] at he
       rw [← he]
       conv=>whnf
       repeat' (first|exact trivial|((first|refine kL ?_|(refine ⟨fun hb=>?_,fun hb=>?_⟩<;>(try simp only [nrm] at hb)<;>(try (first|(exfalso;omega)|contradiction|exact kB hb)))|refine kW cfg_ok ?_|refine kC ?_|refine bdA ?_|refine bd2 ?_|refine bdR ?_|refine bdL ?_)<;>(conv=>whnf))|(refine And.intro ?_ ?_;rotate_left;(conv=>whnf);rotate_right))
       all_goals rfl
 · rw [decide_eq_false hn,Bool.false_and]
   refine Api.of_fin cfg_ok Try.func104 rfl (nt:=45) rfl rfl ?_
   conv=>whnf
   repeat' (first|exact trivial|((first|refine kL ?_|(refine ⟨fun hb=>?_,fun hb=>?_⟩<;>(try simp only [nrm] at hb)<;>(try (first|(exfalso;omega)|contradiction|exact kB hb)))|refine kW cfg_ok ?_|refine kC ?_|refine bdA ?_|refine bd2 ?_|refine bdR ?_|refine bdL ?_)<;>(conv=>whnf))|(refine And.intro ?_ ?_;rotate_left;(conv=>whnf);rotate_right))
open Go Go.RowKit Eng
theorem blockB_iff {i : Int} : blockB i = true ↔ 1 ≤ i ∧ i ≤ 5 ∨ i = 7 ∨ i = 9 ∨ i = 10:=by
 unfold blockB
 simp only [decide_eq_true_eq,Bool.and_eq_true,Bool.not_eq_true',decide_eq_false_iff_not]
 omega
theorem r08block_api (i : Int) (h0 : 0 ≤ i) (h1 : i ≤ 255) : Api Try.prog 103 [.lit (.int .u8 i)] (bol (blockB i)):=by
 have hb1:=@blockB_iff i
 cases hB : blockB i with
 | true =>
   have hb2:=hb1.1 hB
   refine Api.of_fin cfg_ok Try.func103 rfl (nt:=20) rfl rfl ?_
   ((try with_reducible refine evCut fun N hN hE hT=>?_);(conv=>whnf))
   repeat' (first|exact trivial|((first|((first|refine hT _ _ ?_|refine hE _ _ _ ?_|refine hN _ _ ?_);clear hN hE hT)|refine kL ?_|(refine ⟨fun hb=>?_,fun hb=>?_⟩<;>(try simp only [nrm] at hb)<;>(try (first|(exfalso;omega)|contradiction|exact kB hb)))|refine kW cfg_ok ?_|refine kC ?_|refine bdA ?_|refine bd2 ?_|refine bdR ?_|refine bdL ?_)<;>((try with_reducible refine evCut fun N hN hE hT=>?_);(conv=>whnf)))|(refine And.intro ?_ ?_;rotate_left;(conv=>whnf);rotate_right))
   all_goals first|rfl|omega|(refine congrArg Value.bool ?_;simp;omega)|trace_state
 | false =>
   have hb2 : ¬ (1 ≤ i ∧ i ≤ 5 ∨ i = 7 ∨ i = 9 ∨ i = 10):=fun h=>by rw [hb1.2 h] at hB;cases hB
   refine Api.of_fin cfg_ok Try.func103 rfl (nt:=20) rfl rfl ?_
   ((try with_reducible refine evCut fun N hN hE hT=>?_);(conv=>whnf))
   repeat' (first|exact trivial|((first|((first|refine hT _ _ ?_|refine hE _ _ _ ?_|refine hN _ _ ?_);clear hN hE hT)|refine kL ?_|(refine ⟨fun hb=>?_,fun hb=>?_⟩<;>(try simp only [nrm] at hb)<;>(try (first|(exfalso;omega)|contradiction|exact kB hb)))|refine kW cfg_ok ?_|refine kC ?_|refine bdA ?_|refine bd2 ?_|refine bdR ?_|refine bdL ?_)<;>((try with_reducible refine evCut fun N hN hE hT=>?_);(conv=>whnf)))|(refine And.intro ?_ ?_;rotate_left;(conv=>whnf);rotate_right))
   all_goals first|rfl|omega|(refine congrArg Value.bool ?_;simp;omega)|trace_state
open Go Go.RowKit Eng
theorem fd30 (x : Int) : x.fdiv (2 ^ min (Int.toNat 30) IntKind.u64.bits) = x / 1073741824:=Int.fdiv_eq_ediv_of_nonneg x (by decide)
theorem fd27 (x : Int) : x.fdiv (2 ^ min (Int.toNat 27) IntKind.u64.bits) = x / 134217728:=Int.fdiv_eq_ediv_of_nonneg x (by decide)
theorem fd31 (x : Int) : x.fdiv (2 ^ min (Int.toNat 31) IntKind.u64.bits) = x / 2147483648:=Int.fdiv_eq_ediv_of_nonneg x (by decide)
theorem w64_bd (z : Int) : 0 ≤ w64 z ∧ w64 z ≤ 18446744073709551615:=by
 unfold w64
 simp only [IntKind.wrap,IntKind.bits,IntKind.signed]
 simp
 omega
theorem qdL {a b : Int} {c d : Prop} (ha : 0 ≤ a) (k : c) (hb : 0 < b:=by omega) : (0 ≤ a ∧ 0 < b ∧ c) ∨ d:=.inl ⟨ha,hb,k⟩
theorem r12mix_api (seed n : Int) : Api Try.prog 126 [.lit (.int .u64 seed),.lit (.int .u64 n)] (.lit (.int .u64 (mixI seed n))):=by
 have h3 : mixI seed n = bitR .xor .u64 (mix2 seed n) (mix2 seed n / 2147483648):=by unfold mixI;rw [fd31]
 have h2 : mix2 seed n = IntKind.u64.wrap (bitR .xor .u64 (mix1 seed n) (mix1 seed n / 134217728) * 10723151780598845931):=by unfold mix2 turnM w64;rw [fd27]
 have h1 : mix1 seed n = IntKind.u64.wrap (bitR .xor .u64 (mix0 seed n) (mix0 seed n / 1073741824) * 13787848793156543929):=by unfold mix1 turnM w64;rw [fd30]
 have h0 : mix0 seed n = IntKind.u64.wrap (seed + IntKind.u64.wrap (IntKind.u64.wrap (n + 1) * 11400714819323198485)):=by unfold mix0 w64;rfl
 have b0 : 0 ≤ mix0 seed n ∧ mix0 seed n ≤ 18446744073709551615:=w64_bd _
 have b1 : 0 ≤ mix1 seed n ∧ mix1 seed n ≤ 18446744073709551615:=w64_bd _
 have b2 : 0 ≤ mix2 seed n ∧ mix2 seed n ≤ 18446744073709551615:=w64_bd _
 generalize mixI seed n = x3 at *
 generalize mix2 seed n = x2 at *
 generalize mix1 seed n = x1 at *
 generalize mix0 seed n = x0 at *
 refine Api.of_fin cfg_ok Try.func126 rfl (nt:=23) rfl rfl ?_
 ((try with_reducible refine evCut fun N hN hE hT=>?_);(conv=>whnf))
 repeat' (first|exact trivial|((first|((first|refine hT _ _ ?_|refine hE _ _ _ ?_|refine hN _ _ ?_);clear hN hE hT)|refine kL ?_|(refine ⟨fun hb=>?_,fun hb=>?_⟩<;>(try simp only [nrm] at hb)<;>(try (first|(exfalso;omega)|contradiction|exact kB hb)))|(refine qdL b0.1 ?_)|(refine qdL b1.1 ?_)|(refine qdL b2.1 ?_)|(simp only [← h0])|(simp only [← h1])|(simp only [← h2])|(refine .inr ?_)|refine kW cfg_ok ?_|refine kC ?_|refine bdA ?_|refine bd2 ?_|refine bdR ?_|refine bdL ?_)<;>((try with_reducible refine evCut fun N hN hE hT=>?_);(conv=>whnf)))|(refine And.intro ?_ ?_;rotate_left;(conv=>whnf);rotate_right))
 all_goals first|rfl|exact congrArg (Value.int .u64) h3.symm|trace_state
theorem gl_suc (seed x y : Int) (k : Nat) : gl seed x y (k + 1) = gl seed x y k ++ [cellI seed (x * 8 + (k : Int) % 8) (y * 8 + (k : Int) / 8)]:=by
 unfold gl
 rw [List.range_succ,List.map_append,List.map_singleton]
 rfl
def cellM (m h y : Int) : Int:=
 let under:=y - (40 + h % 32)
 if under = -1 ∧ m % 11 = 0 then 4
 else if under = -1 ∧ m % 11 = 1 then 3
 else if under < 0 then 0
 else if under ≤ 2 then 1
 else if m % 7 = 0 then 7
 else 2
theorem cellI_M (seed x y : Int) : cellI seed x y = cellM (mixI seed (y * 128 + x)) (mixI seed (100000 + x / 8)) y:=rfl
theorem r12cell_api (seed x y : Int) (hx : 0 ≤ x) (hx2 : x ≤ 127) (hy : 0 ≤ y) (hy2 : y ≤ 127) : Api Try.prog 117 [.lit (.int .u64 seed),i64 x,i64 y] (.lit (.int .u8 (cellI seed x y))):=by
 have hm:=mixI_bd seed (y * 128 + x)
 have hm2:=mixI_bd seed (100000 + x / 8)
 have c1:=r12mix_api seed (y * 128 + x)
 have c2:=r12mix_api seed (100000 + x / 8)
 rw [cellI_M]
 generalize mixI seed (y * 128 + x) = M at *
 generalize mixI seed (100000 + x / 8) = H at *
 refine Api.of_fin cfg_ok Try.func117 rfl (nt:=64) rfl rfl ?_
 ((try with_reducible refine evCut fun N hN hE hT=>?_);(conv=>whnf))
 repeat' (first|exact trivial|((first|((first|refine hT _ _ ?_|refine hE _ _ _ ?_|refine hN _ _ ?_);clear hN hE hT)|refine kL ?_|(refine ⟨fun hb=>?_,fun hb=>?_⟩<;>(try simp only [nrm] at hb)<;>(try (first|(exfalso;omega)|contradiction|exact kB hb)))|refine kA c1 ?_|refine kD c1 ?_|refine kA c2 ?_|refine kD c2 ?_|refine kW cfg_ok ?_|refine kC ?_|refine bdA ?_|refine bd2 ?_|refine bdR ?_|refine bdL ?_)<;>((try with_reducible refine evCut fun N hN hE hT=>?_);(conv=>whnf)))|(refine And.intro ?_ ?_;rotate_left;(conv=>whnf);rotate_right))
 all_goals first
   | omega
   | (refine congrArg (Value.int .u8) ?_;unfold cellM;simp only [];(repeat' split)<;>omega)
   | trace_state
theorem r12chunk_api (seed x y : Int) (hx : 0 ≤ x) (hx2 : x ≤ 15) (hy : 0 ≤ y) (hy2 : y ≤ 15) : Api Try.prog 97 [.lit (.int .u64 seed),i64 x,i64 y] (chunkV (genC seed x y)):=by
 refine Api.of_fin cfg_ok Try.func97 rfl (nt:=46) rfl rfl ?_
 conv=>whnf
 repeat' (first|exact trivial|((first|refine kL ?_|(refine ⟨fun hb=>?_,fun hb=>?_⟩<;>(try simp only [nrm] at hb)<;>(try (first|(exfalso;omega)|contradiction|exact kB hb)))|refine kW cfg_ok ?_|refine kC ?_|refine bdA ?_|refine bd2 ?_|refine bdR ?_|refine bdL ?_)<;>(conv=>whnf))|(refine And.intro ?_ ?_;rotate_left;(conv=>whnf);rotate_right))
 refine Runs.loopS cfg_ok (σ:=Nat) [0,1,2,6,7,8] (fun k=>[.lit (.int .u64 seed),i64 x,i64 y,.ptr 12 0,.ptr 14 0,i64 k])
   (fun k=>[(12,.box (chunkC ⟨0,0,[],[],[]⟩)),(14,.box [i64 x,i64 y,.own .u8 150101 0 k none,.lit (.slice none 0 0),.lit (.slice none 0 0)]),(150101,.row .u8 (gl seed x y k))]) (fun k=>k ≤ 64) (fun k=>64 - k) 0 (by omega) ?_ ?_
 · conv=>whnf
   repeat' (first|exact trivial|((first|refine kL ?_|(refine ⟨fun hb=>?_,fun hb=>?_⟩<;>(try simp only [nrm] at hb)<;>(try (first|(exfalso;omega)|contradiction|exact kB hb)))|refine kW cfg_ok ?_|refine kC ?_|refine bdA ?_|refine bd2 ?_|refine bdR ?_|refine bdL ?_)<;>(conv=>whnf))|(refine And.intro ?_ ?_;rotate_left;(conv=>whnf);rotate_right))
   all_goals first|rfl|trace_state
 · intro k hk
   by_cases hlt : k < 64
   · have hc:=r12cell_api seed (x * 8 + (k : Int) % 8) (y * 8 + (k : Int) / 8) (by omega) (by omega) (by omega) (by omega)
     have hl:=gl_len seed x y k
     have hn:=gl_suc seed x y k
     generalize gl seed x y k = L at *
     conv=>whnf
     repeat' (first|exact trivial|((first|refine kL ?_|(refine ⟨fun hb=>?_,fun hb=>?_⟩<;>(try simp only [nrm] at hb)<;>(try (first|(exfalso;omega)|contradiction|exact kB hb)))|refine kA hc ?_|refine kD hc ?_|refine kW cfg_ok ?_|refine kC ?_|refine bdA ?_|refine bd2 ?_|refine bdR ?_|refine bdL ?_)<;>(conv=>whnf))|(refine And.intro ?_ ?_;rotate_left;(conv=>whnf);rotate_right))
     refine .to (k + 1) hlt (by omega) ?_
     rw [hn]
     conv=>whnf
     repeat' (first|exact trivial|((first|refine kL ?_|(refine ⟨fun hb=>?_,fun hb=>?_⟩<;>(try simp only [nrm] at hb)<;>(try (first|(exfalso;omega)|contradiction|exact kB hb)))|refine kW cfg_ok ?_|refine kC ?_|refine bdA ?_|refine bd2 ?_|refine bdR ?_|refine bdL ?_)<;>(conv=>whnf))|(refine And.intro ?_ ?_;rotate_left;(conv=>whnf);rotate_right))
     all_goals first|rfl|(simp [hl];done)|(rw [List.take_of_length_le (show L.length ≤ k by omega)];exact (List.take_of_length_le (by simp;omega)).trans rfl)|trace_state
   · obtain rfl : k = 64:=by omega
     have hl:=gl_len seed x y 64
     have hg : genC seed x y = ⟨x,y,gl seed x y 64,[],[]⟩:=rfl
     rw [hg]
     generalize gl seed x y 64 = L at *
     conv=>whnf
     repeat' (first|exact trivial|((first|refine kL ?_|(refine ⟨fun hb=>?_,fun hb=>?_⟩<;>(try simp only [nrm] at hb)<;>(try (first|(exfalso;omega)|contradiction|exact kB hb)))|refine kW cfg_ok ?_|refine kC ?_|refine bdA ?_|refine bd2 ?_|refine bdR ?_|refine bdL ?_)<;>(conv=>whnf))|(refine And.intro ?_ ?_;rotate_left;(conv=>whnf);rotate_right))
     all_goals first|rfl|(simp [hl];done)|(rw [List.drop_zero];exact List.take_of_length_le (by omega))|trace_state
open Go Go.RowKit Eng
abbrev nilS : AV:=.lit (.slice none 0 0)
theorem rplayer_api (p : Player) (hp : OkP p) : Api Try.prog 63 [playerV p] (bol (soundB p)):=by
 have h1:=refRight_api p.bag 8 (by have:=hp.nb;unfold big;omega) hp.bag
 have h2:=refRight_api p.offer 8 (by have:=hp.no;unfold big;omega) hp.offer
 have h3:=hp.no
 change Api _ _ _ (bol (bag8 p.bag)) at h1
 change Api _ _ _ (bol (bag8 p.offer)) at h2
 unfold soundB
 generalize bag8 p.bag = b1 at *
 generalize bag8 p.offer = b2 at *
 cases b1<;>cases b2<;>cases hag : p.agrees
 all_goals
   refine Api.of_fin cfg_ok Try.func63 rfl (nt:=48) rfl rfl ?_
   conv=>whnf
   repeat' (first|exact trivial|((first|refine kL ?_|(refine ⟨fun hb=>?_,fun hb=>?_⟩<;>(try simp only [nrm] at hb)<;>(try (first|(exfalso;omega)|contradiction|exact kB hb)))|refine kA h1 ?_|refine kD h1 ?_|refine kA h2 ?_|refine kD h2 ?_|refine kW cfg_ok ?_|refine kC ?_|refine bdA ?_|refine bd2 ?_|refine bdR ?_|refine bdL ?_)<;>(conv=>whnf))|(refine And.intro ?_ ?_;rotate_left;(conv=>whnf);rotate_right))
   all_goals first
     | (refine congrArg Value.bool ?_;simp;done)
     | (refine congrArg Value.bool ?_;simp;omega)
     | (refine congrArg Value.bool ?_;simp [*];done)
     | (refine congrArg Value.bool ?_;simp [*];omega)
     | (refine congrArg Value.bool ?_;simp_all;done)
     | (refine congrArg Value.bool ?_;simp_all;omega)
     | (simp_all;done)
open Go Go.RowKit Eng
theorem r11slot_api (s : Slot) (h : okSlot s) : Api Try.prog 105 [.agg [.lit (.int .u8 s.item),.lit (.int .i64 s.n)]] (bol (someB s)):=by
 have h1:=refStack_api s.item h.1 h.2
 refine Api.of_fin cfg_ok Try.func105 rfl (nt:=13) rfl rfl ?_
 conv=>whnf
 repeat' (first|exact trivial|((first|refine kL ?_|(refine ⟨fun hb=>?_,fun hb=>?_⟩<;>(try simp only [nrm] at hb)<;>(try (first|(exfalso;omega)|contradiction|exact kB hb)))|refine kA h1 ?_|refine kD h1 ?_|refine kW cfg_ok ?_|refine kC ?_|refine bdA ?_|refine bd2 ?_|refine bdR ?_|refine bdL ?_)<;>(conv=>whnf))|(refine And.intro ?_ ?_;rotate_left;(conv=>whnf);rotate_right))
 all_goals (refine congrArg Value.bool ?_;rw [Bool.eq_iff_iff];simp only [someB,Bool.and_eq_true,Bool.or_eq_true,Bool.not_eq_true',Bool.and_eq_false_iff,Bool.or_eq_false_iff,decide_eq_true_eq,decide_eq_false_iff_not,beq_iff_eq,beq_eq_false_iff_ne,bne_iff_ne,ne_eq,Bool.false_eq_true,Int.toNat_natCast,eq_self,iff_true,true_iff,iff_false,false_iff,Bool.true_eq_false,not_and,Decidable.not_not,not_true_eq_false,not_false_eq_true];(first|done|omega|(simp_all;done)|(simp_all;omega)))
theorem rightB_heap {c : Chunk} (h : c.heaps.any badHeap = true) : rightB c = false:=by
 unfold rightB
 rw [h]
 cases headB c
 · rfl
 · simp only [Bool.true_and]
   split<;>rfl
theorem rightB_boxes {c : Chunk} {bs : List Box} (hh : headB c = true) (h : rightGo c.cells 0 c.boxes = some bs) (hp : c.heaps.any badHeap = false) : rightB c = decide (bs.length = 0):=by
 unfold rightB
 rw [hh,h,hp]
 cases bs<;>rfl
theorem r11right_api (c : Chunk) (hc : OkC c) : Api Try.prog 62 [chunkV c] (bol (rightB c)):=by
 have nc:=hc.nc
 have nb:=hc.nb
 have nh:=hc.nh
 unfold big at nc nb nh
 refine Api.of_fin cfg_ok Try.func62 rfl (nt:=125) rfl rfl ?_
 conv=>whnf
 repeat' (first|exact trivial|((first|refine kL ?_|(refine ⟨fun hb=>?_,fun hb=>?_⟩<;>(try simp only [nrm] at hb)<;>(try (first|(exfalso;omega)|contradiction|exact kB hb)))|refine kW cfg_ok ?_|refine kC ?_|refine bdA ?_|refine bd2 ?_|refine bdR ?_|refine bdL ?_)<;>(conv=>whnf))|(refine And.intro ?_ ?_;rotate_left;(conv=>whnf);rotate_right))
 all_goals (try (rw [rightB_head (by simp only [headB,Bool.and_eq_false_iff,decide_eq_false_iff_not];omega)];done))
 have hH : headB c = true:=by simp only [headB,Bool.and_eq_true,decide_eq_true_eq];omega
 refine Runs.loopS cfg_ok (σ:=Nat × Nat) [1,3,4] (fun (k,b)=>[.ptr 2 0,i64 b,i64 k]) (fun _=>[(2,.box (chunkC c))]) (fun (k,b)=>k ≤ 64 ∧ b ≤ c.boxes.length ∧ rightGo (c.cells.drop k) k (c.boxes.drop b) = rightGo c.cells 0 c.boxes) (fun (k,_)=>64 - k) (0,0) ⟨by omega,by omega,rfl⟩ ?_ ?_
 · conv=>whnf
   repeat' (first|exact trivial|((first|refine kL ?_|(refine ⟨fun hb=>?_,fun hb=>?_⟩<;>(try simp only [nrm] at hb)<;>(try (first|(exfalso;omega)|contradiction|exact kB hb)))|refine kW cfg_ok ?_|refine kC ?_|refine bdA ?_|refine bd2 ?_|refine bdR ?_|refine bdL ?_)<;>(conv=>whnf))|(refine And.intro ?_ ?_;rotate_left;(conv=>whnf);rotate_right))
 · rintro ⟨k,b⟩ ⟨hk,hb1,he⟩
   try dsimp only at hk hb1 he
   by_cases hlt : k < 64
   · rw [drop_elt (t:=.u8) (by omega)] at he
     simp only [rightGo] at he
     have hcell:=hc.cells _ (elt_mem (t:=.u8) (i:=k) (by omega))
     have hbl:=r08block_api (elt .u8 c.cells k) hcell.1 hcell.2
     have hE : elt .u8 c.cells (k : Int).toNat = elt .u8 c.cells k:=rfl
     cases hI : itemOk (elt .u8 c.cells k) with
     | false =>
       rw [hI,if_neg (by simp)] at he
       rw [rightB_none he.symm]
       have hi0 : ¬ elt .u8 c.cells k = 0:=by intro h;rw [h] at hI;cases hI
       have hib : blockB (elt .u8 c.cells k) = false:=by simpa [itemOk,hi0] using hI
       rw [hib] at hbl
       conv=>whnf
       repeat' (first|exact trivial|((first|refine kL ?_|(refine ⟨fun hb=>?_,fun hb=>?_⟩<;>(try simp only [nrm] at hb)<;>(try (first|(exfalso;omega)|contradiction|exact kB hb)))|refine kA hbl ?_|refine kD hbl ?_|refine kW cfg_ok ?_|refine kC ?_|refine bdA ?_|refine bd2 ?_|refine bdR ?_|refine bdL ?_)<;>(conv=>whnf))|(refine And.intro ?_ ?_;rotate_left;(conv=>whnf);rotate_right))
     | true =>
       rw [hI,if_pos rfl] at he
       by_cases h0 : elt .u8 c.cells k = 0
       · rw [if_neg (by rw [h0];decide)] at he
         conv=>whnf
         repeat' (first|exact trivial|((first|refine kL ?_|(refine ⟨fun hb=>?_,fun hb=>?_⟩<;>(try simp only [nrm] at hb)<;>(try (first|(exfalso;omega)|contradiction|exact kB hb)))|refine kA hbl ?_|refine kD hbl ?_|refine kW cfg_ok ?_|refine kC ?_|refine bdA ?_|refine bd2 ?_|refine bdR ?_|refine bdL ?_)<;>(conv=>whnf))|(refine And.intro ?_ ?_;rotate_left;(conv=>whnf);rotate_right))
         refine .to (k + 1,b) ⟨by first|omega|(dsimp only;omega),hb1,he⟩ (by first|omega|(dsimp only;omega)) ?_
         conv=>whnf
         repeat' (first|exact trivial|((first|refine kL ?_|(refine ⟨fun hb=>?_,fun hb=>?_⟩<;>(try simp only [nrm] at hb)<;>(try (first|(exfalso;omega)|contradiction|exact kB hb)))|refine kW cfg_ok ?_|refine kC ?_|refine bdA ?_|refine bd2 ?_|refine bdR ?_|refine bdL ?_)<;>(conv=>whnf))|(refine And.intro ?_ ?_;rotate_left;(conv=>whnf);rotate_right))
       · have hib : blockB (elt .u8 c.cells k) = true:=by simpa [itemOk,h0] using hI
         rw [hib] at hbl
         by_cases h9 : elt .u8 c.cells k = 9
         · rw [if_pos h9] at he
           by_cases hbn : b < c.boxes.length
           · rw [drop_elt (t:=.box) hbn] at he
             dsimp only at he
             have hbx:=hc.boxes _ (elt_mem (t:=.box) hbn)
             have hbg:=refRight_api (elt .box c.boxes b).bag 6 hbx.2 hbx.1
             have hE2 : (elt .box c.boxes (b : Int).toNat).cell = (elt .box c.boxes b).cell:=rfl
             by_cases hck : (elt .box c.boxes b).cell = k
             · cases hA : boxAt (elt .box c.boxes b) k with
               | false =>
                 rw [hA,if_neg (by simp)] at he
                 rw [rightB_none he.symm]
                 have hA2 : (decide (((elt .box c.boxes b).bag.length : Int) = 6) && bagOk (elt .box c.boxes b).bag) = false:=by simpa [boxAt,hck] using hA
                 rw [hA2] at hbg
                 conv=>whnf
                 repeat' (first|exact trivial|((first|refine kL ?_|(refine ⟨fun hb=>?_,fun hb=>?_⟩<;>(try simp only [nrm] at hb)<;>(try (first|(exfalso;omega)|contradiction|exact kB hb)))|refine kA hbl ?_|refine kD hbl ?_|refine kA hbg ?_|refine kD hbg ?_|refine kW cfg_ok ?_|refine kC ?_|refine bdA ?_|refine bd2 ?_|refine bdR ?_|refine bdL ?_)<;>(conv=>whnf))|(refine And.intro ?_ ?_;rotate_left;(conv=>whnf);rotate_right))
               | true =>
                 rw [hA,if_pos rfl] at he
                 have hA2 : (decide (((elt .box c.boxes b).bag.length : Int) = 6) && bagOk (elt .box c.boxes b).bag) = true:=by simpa [boxAt,hck] using hA
                 rw [hA2] at hbg
                 conv=>whnf
                 repeat' (first|exact trivial|((first|refine kL ?_|(refine ⟨fun hb=>?_,fun hb=>?_⟩<;>(try simp only [nrm] at hb)<;>(try (first|(exfalso;omega)|contradiction|exact kB hb)))|refine kA hbl ?_|refine kD hbl ?_|refine kA hbg ?_|refine kD hbg ?_|refine kW cfg_ok ?_|refine kC ?_|refine bdA ?_|refine bd2 ?_|refine bdR ?_|refine bdL ?_)<;>(conv=>whnf))|(refine And.intro ?_ ?_;rotate_left;(conv=>whnf);rotate_right))
                 refine .to (k + 1,b + 1) ⟨by first|omega|(dsimp only;omega),hbn,he⟩ (by first|omega|(dsimp only;omega)) ?_
                 conv=>whnf
                 repeat' (first|exact trivial|((first|refine kL ?_|(refine ⟨fun hb=>?_,fun hb=>?_⟩<;>(try simp only [nrm] at hb)<;>(try (first|(exfalso;omega)|contradiction|exact kB hb)))|refine kW cfg_ok ?_|refine kC ?_|refine bdA ?_|refine bd2 ?_|refine bdR ?_|refine bdL ?_)<;>(conv=>whnf))|(refine And.intro ?_ ?_;rotate_left;(conv=>whnf);rotate_right))
             · have hA : boxAt (elt .box c.boxes b) k = false:=by simp [boxAt,hck]
               rw [hA,if_neg (by simp)] at he
               rw [rightB_none he.symm]
               conv=>whnf
               repeat' (first|exact trivial|((first|refine kL ?_|(refine ⟨fun hb=>?_,fun hb=>?_⟩<;>(try simp only [nrm] at hb)<;>(try (first|(exfalso;omega)|contradiction|exact kB hb)))|refine kA hbl ?_|refine kD hbl ?_|refine kA hbg ?_|refine kD hbg ?_|refine kW cfg_ok ?_|refine kC ?_|refine bdA ?_|refine bd2 ?_|refine bdR ?_|refine bdL ?_)<;>(conv=>whnf))|(refine And.intro ?_ ?_;rotate_left;(conv=>whnf);rotate_right))
           · rw [List.drop_of_length_le (by omega)] at he
             dsimp only at he
             rw [rightB_none he.symm]
             conv=>whnf
             repeat' (first|exact trivial|((first|refine kL ?_|(refine ⟨fun hb=>?_,fun hb=>?_⟩<;>(try simp only [nrm] at hb)<;>(try (first|(exfalso;omega)|contradiction|exact kB hb)))|refine kA hbl ?_|refine kD hbl ?_|refine kW cfg_ok ?_|refine kC ?_|refine bdA ?_|refine bd2 ?_|refine bdR ?_|refine bdL ?_)<;>(conv=>whnf))|(refine And.intro ?_ ?_;rotate_left;(conv=>whnf);rotate_right))
         · rw [if_neg h9] at he
           conv=>whnf
           repeat' (first|exact trivial|((first|refine kL ?_|(refine ⟨fun hb=>?_,fun hb=>?_⟩<;>(try simp only [nrm] at hb)<;>(try (first|(exfalso;omega)|contradiction|exact kB hb)))|refine kA hbl ?_|refine kD hbl ?_|refine kW cfg_ok ?_|refine kC ?_|refine bdA ?_|refine bd2 ?_|refine bdR ?_|refine bdL ?_)<;>(conv=>whnf))|(refine And.intro ?_ ?_;rotate_left;(conv=>whnf);rotate_right))
           refine .to (k + 1,b) ⟨by first|omega|(dsimp only;omega),hb1,he⟩ (by first|omega|(dsimp only;omega)) ?_
           conv=>whnf
           repeat' (first|exact trivial|((first|refine kL ?_|(refine ⟨fun hb=>?_,fun hb=>?_⟩<;>(try simp only [nrm] at hb)<;>(try (first|(exfalso;omega)|contradiction|exact kB hb)))|refine kW cfg_ok ?_|refine kC ?_|refine bdA ?_|refine bd2 ?_|refine bdR ?_|refine bdL ?_)<;>(conv=>whnf))|(refine And.intro ?_ ?_;rotate_left;(conv=>whnf);rotate_right))
   · obtain rfl : k = 64:=by omega
     rw [List.drop_of_length_le (by omega)] at he
     simp only [rightGo] at he
     conv=>whnf
     repeat' (first|exact trivial|((first|refine kL ?_|(refine ⟨fun hb=>?_,fun hb=>?_⟩<;>(try simp only [nrm] at hb)<;>(try (first|(exfalso;omega)|contradiction|exact kB hb)))|refine kW cfg_ok ?_|refine kC ?_|refine bdA ?_|refine bd2 ?_|refine bdR ?_|refine bdL ?_)<;>(conv=>whnf))|(refine And.intro ?_ ?_;rotate_left;(conv=>whnf);rotate_right))
     refine Runs.loopS cfg_ok (σ:=Nat) [1,3,5] (fun j=>[.ptr 2 0,i64 b,i64 j]) (fun _=>[(2,.box (chunkC c))]) (fun j=>j ≤ c.heaps.length ∧ (c.heaps.drop j).any badHeap = c.heaps.any badHeap) (fun j=>c.heaps.length - j) 0 ⟨by omega,rfl⟩ ?_ ?_
     · conv=>whnf
       repeat' (first|exact trivial|((first|refine kL ?_|(refine ⟨fun hb=>?_,fun hb=>?_⟩<;>(try simp only [nrm] at hb)<;>(try (first|(exfalso;omega)|contradiction|exact kB hb)))|refine kW cfg_ok ?_|refine kC ?_|refine bdA ?_|refine bd2 ?_|refine bdR ?_|refine bdL ?_)<;>(conv=>whnf))|(refine And.intro ?_ ?_;rotate_left;(conv=>whnf);rotate_right))
     · rintro j ⟨hj,hany⟩
       by_cases hjl : j < c.heaps.length
       · rw [drop_elt (t:=.heap) hjl,List.any_cons] at hany
         have hok:=hc.heaps _ (elt_mem (t:=.heap) hjl)
         have hsl:=r11slot_api (elt .heap c.heaps j).slot hok
         have hE : (elt .heap c.heaps (j : Int).toNat).cell = (elt .heap c.heaps j).cell:=rfl
         have hbd : badHeap (elt .heap c.heaps j) = (!(decide (0 ≤ (elt .heap c.heaps j).cell) && decide ((elt .heap c.heaps j).cell < 64)) || !someB (elt .heap c.heaps j).slot):=rfl
         cases hS : someB (elt .heap c.heaps j).slot
         all_goals
           rw [hS] at hsl hbd
           conv=>whnf
           repeat' (first|exact trivial|((first|refine kL ?_|(refine ⟨fun hb=>?_,fun hb=>?_⟩<;>(try simp only [nrm] at hb)<;>(try (first|(exfalso;omega)|contradiction|exact kB hb)))|refine kA hsl ?_|refine kD hsl ?_|refine kW cfg_ok ?_|refine kC ?_|refine bdA ?_|refine bd2 ?_|refine bdR ?_|refine bdL ?_)<;>(conv=>whnf))|(refine And.intro ?_ ?_;rotate_left;(conv=>whnf);rotate_right))
         all_goals first
           | (rw [rightB_heap (by rw [← hany,hbd];simp;omega)];done)
           | (rw [rightB_heap (by rw [← hany,hbd];simp)];done)
           | (refine .to (j + 1) ⟨hjl,by rw [← hany,hbd];simp;omega⟩ (by omega) ?_;(conv=>whnf))
           | trace_state
         repeat' (first|exact trivial|((first|refine kL ?_|(refine ⟨fun hb=>?_,fun hb=>?_⟩<;>(try simp only [nrm] at hb)<;>(try (first|(exfalso;omega)|contradiction|exact kB hb)))|refine kW cfg_ok ?_|refine kC ?_|refine bdA ?_|refine bd2 ?_|refine bdR ?_|refine bdL ?_)<;>(conv=>whnf))|(refine And.intro ?_ ?_;rotate_left;(conv=>whnf);rotate_right))
       · obtain rfl : j = c.heaps.length:=by omega
         rw [List.drop_length] at hany
         have e:=rightB_boxes hH he.symm hany.symm
         rw [List.length_drop] at e
         rw [e]
         conv=>whnf
         repeat' (first|exact trivial|((first|refine kL ?_|(refine ⟨fun hb=>?_,fun hb=>?_⟩<;>(try simp only [nrm] at hb)<;>(try (first|(exfalso;omega)|contradiction|exact kB hb)))|refine kW cfg_ok ?_|refine kC ?_|refine bdA ?_|refine bd2 ?_|refine bdR ?_|refine bdL ?_)<;>(conv=>whnf))|(refine And.intro ?_ ?_;rotate_left;(conv=>whnf);rotate_right))
         all_goals (refine congrArg Value.bool ?_;rw [Bool.eq_iff_iff];simp;omega)
theorem r11copied_ev (c : Chunk) (hc : FitC c) : Ev1 Try.prog 96 [chunkV c] [] (.agg (chunkO c 390001 390003 390005)) (chunkR c 390001 390003 390005):=by
 have h1:=hc.cells
 have h2:=hc.heaps
 have h3:=hc.boxes
 refine Ev1.of_fin cfg_ok Try.func96 rfl (nt:=45) rfl rfl rfl ?_
 conv=>whnf
 repeat' (first|exact trivial|((first|refine kL ?_|(refine ⟨fun hb=>?_,fun hb=>?_⟩<;>(try simp only [nrm] at hb)<;>(try (first|(exfalso;omega)|contradiction|exact kB hb)))|refine kW cfg_ok ?_|refine kC ?_|refine bdA ?_|refine bd2 ?_|refine bdR ?_|refine bdL ?_)<;>(conv=>whnf))|(refine And.intro ?_ ?_;rotate_left;(conv=>whnf);rotate_right))
 all_goals first|(simp;done)|skip
 refine Runs.loopS cfg_ok (σ:=Nat) [1,2,3,4] (fun k=>[.ptr 200002 0,.ptr 200004 0,.ptr 200006 0,i64 k]) (fun k=>[(200002,.box (chunkC c)),(200004,.box (chunkC ⟨0,0,[],[],[]⟩)),(200006,.box [i64 c.x,i64 c.y,.own .u8 200025 0 c.cells.length none,.own .heap 200033 0 c.heaps.length none,.own .box 350001 0 k none]),(200025,.row .u8 c.cells),(200033,.row .heap c.heaps),(350001,.row .box (c.boxes.take k))]) (fun k=>k ≤ c.boxes.length) (fun k=>c.boxes.length - k) 0 (by omega) ?_ ?_
 · conv=>whnf
   repeat' (first|exact trivial|((first|refine kL ?_|(refine ⟨fun hb=>?_,fun hb=>?_⟩<;>(try simp only [nrm] at hb)<;>(try (first|(exfalso;omega)|contradiction|exact kB hb)))|refine kW cfg_ok ?_|refine kC ?_|refine bdA ?_|refine bd2 ?_|refine bdR ?_|refine bdL ?_)<;>(conv=>whnf))|(refine And.intro ?_ ?_;rotate_left;(conv=>whnf);rotate_right))
   all_goals first|(simp;done)|trace_state
 · intro k hk
   by_cases hlt : k < c.boxes.length
   · have hbk:=hc.bags _ (elt_mem (t:=.box) hlt)
     have hnx:=take_next (tt:=.box) hlt
     conv=>whnf
     repeat' (first|exact trivial|((first|refine kL ?_|(refine ⟨fun hb=>?_,fun hb=>?_⟩<;>(try simp only [nrm] at hb)<;>(try (first|(exfalso;omega)|contradiction|exact kB hb)))|refine kW cfg_ok ?_|refine kC ?_|refine bdA ?_|refine bd2 ?_|refine bdR ?_|refine bdL ?_)<;>(conv=>whnf))|(refine And.intro ?_ ?_;rotate_left;(conv=>whnf);rotate_right))
     refine .to (k + 1) hlt (by omega) ?_
     conv=>whnf
     repeat' (first|exact trivial|((first|refine kL ?_|(refine ⟨fun hb=>?_,fun hb=>?_⟩<;>(try simp only [nrm] at hb)<;>(try (first|(exfalso;omega)|contradiction|exact kB hb)))|refine kW cfg_ok ?_|refine kC ?_|refine bdA ?_|refine bd2 ?_|refine bdR ?_|refine bdL ?_)<;>(conv=>whnf))|(refine And.intro ?_ ?_;rotate_left;(conv=>whnf);rotate_right))
     all_goals first|(simp;done)|(simp;exact app1 hnx hlt (takekk _ _) rfl rfl)|trace_state
   · obtain rfl : k = c.boxes.length:=by omega
     conv=>whnf
     repeat' (first|exact trivial|((first|refine kL ?_|(refine ⟨fun hb=>?_,fun hb=>?_⟩<;>(try simp only [nrm] at hb)<;>(try (first|(exfalso;omega)|contradiction|exact kB hb)))|refine kW cfg_ok ?_|refine kC ?_|refine bdA ?_|refine bd2 ?_|refine bdR ?_|refine bdL ?_)<;>(conv=>whnf))|(refine And.intro ?_ ?_;rotate_left;(conv=>whnf);rotate_right))
     all_goals first|(simp;done)|trace_state
open Go Go.RowKit Eng
open Go Go.RowKit Eng
abbrev zeroW13 : List AV:=[i64 0,.lit (.int .u64 0),i64 0,.lit (.slice none 0 0),.lit (.slice none 0 0)]
theorem r13copied_api (w : Wld) (hw : OkW w) : Api Try.prog 95 [wldV w] (wldV w):=by
 have h1:=hw.nc
 have h2:=hw.np
 refine Api.of_fin cfg_ok Try.func95 rfl (nt:=60) rfl rfl ?_
 ((try with_reducible refine evCut fun N hN hE hT=>?_);(conv=>whnf))
 repeat' (first|exact trivial|((first|((first|refine hT _ _ ?_|refine hE _ _ _ ?_|refine hN _ _ ?_);clear hN hE hT)|refine kL ?_|(refine ⟨fun hb=>?_,fun hb=>?_⟩<;>(try simp only [nrm] at hb)<;>(try (first|(exfalso;omega)|contradiction|exact kB hb)))|refine kW cfg_ok ?_|refine kC ?_|refine bdA ?_|refine bd2 ?_|refine bdR ?_|refine bdL ?_)<;>((try with_reducible refine evCut fun N hN hE hT=>?_);(conv=>whnf)))|(refine And.intro ?_ ?_;rotate_left;(conv=>whnf);rotate_right))
 refine Runs.loopS cfg_ok (σ:=Nat) [1,2,3,4] (fun k=>[.ptr 2 0,.ptr 4 0,.ptr 6 0,i64 k]) (fun k=>[(2,.box (wldC w)),(4,.box zeroW13),(6,.box [i64 w.size,.lit (.int .u64 w.seed),i64 w.tick,.own .chunk 150101 0 k none,.lit (.slice none 0 0)]),(150101,.row .chunk (w.chunks.take k))]) (fun k=>k ≤ w.chunks.length) (fun k=>w.chunks.length - k) 0 (by omega) ?_ ?_
 · conv=>whnf
   repeat' (first|exact trivial|((first|((first|refine hT _ _ ?_|refine hE _ _ _ ?_|refine hN _ _ ?_);clear hN hE hT)|refine kL ?_|(refine ⟨fun hb=>?_,fun hb=>?_⟩<;>(try simp only [nrm] at hb)<;>(try (first|(exfalso;omega)|contradiction|exact kB hb)))|refine kW cfg_ok ?_|refine kC ?_|refine bdA ?_|refine bd2 ?_|refine bdR ?_|refine bdL ?_)<;>((try with_reducible refine evCut fun N hN hE hT=>?_);(conv=>whnf)))|(refine And.intro ?_ ?_;rotate_left;(conv=>whnf);rotate_right))
   all_goals first|rfl|(simp;done)|trace_state
 · intro k hk
   by_cases hlt : k < w.chunks.length
   · have hf:=hw.fit _ (elt_mem (t:=.chunk) hlt)
     have hcp:=r11copied_ev (elt .chunk w.chunks k) hf
     have hnx:=take_next (tt:=.chunk) hlt
     conv=>whnf
     repeat' (first|exact trivial|((first|((first|refine hT _ _ ?_|refine hE _ _ _ ?_|refine hN _ _ ?_);clear hN hE hT)|refine kL ?_|(refine ⟨fun hb=>?_,fun hb=>?_⟩<;>(try simp only [nrm] at hb)<;>(try (first|(exfalso;omega)|contradiction|exact kB hb)))|refine kE hcp [(390001,150001),(390003,150003),(390005,150005)] rfl ?_|refine kF hcp [(390001,150001),(390003,150003),(390005,150005)] rfl ?_|refine kW cfg_ok ?_|refine kC ?_|refine bdA ?_|refine bd2 ?_|refine bdR ?_|refine bdL ?_)<;>((try with_reducible refine evCut fun N hN hE hT=>?_);(conv=>whnf)))|(refine And.intro ?_ ?_;rotate_left;(conv=>whnf);rotate_right))
     refine .to (k + 1) hlt (by omega) ?_
     conv=>whnf
     repeat' (first|exact trivial|((first|((first|refine hT _ _ ?_|refine hE _ _ _ ?_|refine hN _ _ ?_);clear hN hE hT)|refine kL ?_|(refine ⟨fun hb=>?_,fun hb=>?_⟩<;>(try simp only [nrm] at hb)<;>(try (first|(exfalso;omega)|contradiction|exact kB hb)))|refine kW cfg_ok ?_|refine kC ?_|refine bdA ?_|refine bd2 ?_|refine bdR ?_|refine bdL ?_)<;>((try with_reducible refine evCut fun N hN hE hT=>?_);(conv=>whnf)))|(refine And.intro ?_ ?_;rotate_left;(conv=>whnf);rotate_right))
     all_goals first|rfl|(simp;done)|(simp;exact app1 hnx hlt (takekk _ _) rfl rfl)|trace_state
   · obtain rfl : k = w.chunks.length:=by omega
     rw [List.take_length]
     conv=>whnf
     repeat' (first|exact trivial|((first|((first|refine hT _ _ ?_|refine hE _ _ _ ?_|refine hN _ _ ?_);clear hN hE hT)|refine kL ?_|(refine ⟨fun hb=>?_,fun hb=>?_⟩<;>(try simp only [nrm] at hb)<;>(try (first|(exfalso;omega)|contradiction|exact kB hb)))|refine kW cfg_ok ?_|refine kC ?_|refine bdA ?_|refine bd2 ?_|refine bdR ?_|refine bdL ?_)<;>((try with_reducible refine evCut fun N hN hE hT=>?_);(conv=>whnf)))|(refine And.intro ?_ ?_;rotate_left;(conv=>whnf);rotate_right))
     refine Runs.loopS cfg_ok (σ:=Nat) [1,2,3,5] (fun k=>[.ptr 2 0,.ptr 4 0,.ptr 6 0,i64 k]) (fun k=>[(2,.box (wldC w)),(4,.box zeroW13),(6,.box [i64 w.size,.lit (.int .u64 w.seed),i64 w.tick,.own .chunk 150101 0 w.chunks.length none,.own .player 150103 0 k none]),(150101,.row .chunk w.chunks),(150103,.row .player (w.players.take k))]) (fun k=>k ≤ w.players.length) (fun k=>w.players.length - k) 0 (by omega) ?_ ?_
     · conv=>whnf
       repeat' (first|exact trivial|((first|((first|refine hT _ _ ?_|refine hE _ _ _ ?_|refine hN _ _ ?_);clear hN hE hT)|refine kL ?_|(refine ⟨fun hb=>?_,fun hb=>?_⟩<;>(try simp only [nrm] at hb)<;>(try (first|(exfalso;omega)|contradiction|exact kB hb)))|refine kW cfg_ok ?_|refine kC ?_|refine bdA ?_|refine bd2 ?_|refine bdR ?_|refine bdL ?_)<;>((try with_reducible refine evCut fun N hN hE hT=>?_);(conv=>whnf)))|(refine And.intro ?_ ?_;rotate_left;(conv=>whnf);rotate_right))
       all_goals first|rfl|(simp;done)|trace_state
     · intro k hk
       by_cases hlt : k < w.players.length
       · have hf:=hw.players _ (elt_mem (t:=.player) hlt)
         have n1:=hf.nb
         have n2:=hf.no
         have hnx:=take_next (tt:=.player) hlt
         conv=>whnf
         repeat' (first|exact trivial|((first|((first|refine hT _ _ ?_|refine hE _ _ _ ?_|refine hN _ _ ?_);clear hN hE hT)|refine kL ?_|(refine ⟨fun hb=>?_,fun hb=>?_⟩<;>(try simp only [nrm] at hb)<;>(try (first|(exfalso;omega)|contradiction|exact kB hb)))|refine kW cfg_ok ?_|refine kC ?_|refine bdA ?_|refine bd2 ?_|refine bdR ?_|refine bdL ?_)<;>((try with_reducible refine evCut fun N hN hE hT=>?_);(conv=>whnf)))|(refine And.intro ?_ ?_;rotate_left;(conv=>whnf);rotate_right))
         refine .to (k + 1) hlt (by omega) ?_
         conv=>whnf
         repeat' (first|exact trivial|((first|((first|refine hT _ _ ?_|refine hE _ _ _ ?_|refine hN _ _ ?_);clear hN hE hT)|refine kL ?_|(refine ⟨fun hb=>?_,fun hb=>?_⟩<;>(try simp only [nrm] at hb)<;>(try (first|(exfalso;omega)|contradiction|exact kB hb)))|refine kW cfg_ok ?_|refine kC ?_|refine bdA ?_|refine bd2 ?_|refine bdR ?_|refine bdL ?_)<;>((try with_reducible refine evCut fun N hN hE hT=>?_);(conv=>whnf)))|(refine And.intro ?_ ?_;rotate_left;(conv=>whnf);rotate_right))
         all_goals first|rfl|(simp;done)|(simp;exact app1 hnx hlt (takekk _ _) rfl rfl)|trace_state
       · obtain rfl : k = w.players.length:=by omega
         rw [List.take_length]
         conv=>whnf
         repeat' (first|exact trivial|((first|((first|refine hT _ _ ?_|refine hE _ _ _ ?_|refine hN _ _ ?_);clear hN hE hT)|refine kL ?_|(refine ⟨fun hb=>?_,fun hb=>?_⟩<;>(try simp only [nrm] at hb)<;>(try (first|(exfalso;omega)|contradiction|exact kB hb)))|refine kW cfg_ok ?_|refine kC ?_|refine bdA ?_|refine bd2 ?_|refine bdR ?_|refine bdL ?_)<;>((try with_reducible refine evCut fun N hN hE hT=>?_);(conv=>whnf)))|(refine And.intro ?_ ?_;rotate_left;(conv=>whnf);rotate_right))
         all_goals first|rfl|(simp;done)|trace_state
theorem withinS {s x y : Int} (hs : 1 ≤ s ∧ s ≤ 16) : withinW s x y = true ↔ 0 ≤ x ∧ 0 ≤ y ∧ x < 8 * s ∧ y < 8 * s:=by
 unfold withinW
 rw [wr8_eq (by omega) (by omega)]
 simp only [Bool.and_eq_true,decide_eq_true_eq]
 omega
theorem r13there_api (w : Wld) (p : Player) (hs : 1 ≤ w.size ∧ w.size ≤ 16) : Api Try.prog 64 [wldV w,playerV p] (bol (withinW w.size p.x p.y)):=by
 have h:=withinS (x:=p.x) (y:=p.y) hs
 cases hW : withinW w.size p.x p.y with
 | true =>
   obtain ⟨h1,h2,h3,h4⟩:=h.1 hW
   refine Api.of_fin cfg_ok Try.func64 rfl (nt:=27) rfl rfl ?_
   conv=>whnf
   repeat' (first|exact trivial|((first|refine kL ?_|(refine ⟨fun hb=>?_,fun hb=>?_⟩<;>(try simp only [nrm] at hb)<;>(try (first|(exfalso;omega)|contradiction|exact kB hb)))|refine kW cfg_ok ?_|refine kC ?_|refine bdA ?_|refine bd2 ?_|refine bdR ?_|refine bdL ?_)<;>(conv=>whnf))|(refine And.intro ?_ ?_;rotate_left;(conv=>whnf);rotate_right))
   all_goals (refine congrArg Value.bool ?_;simp;omega)
 | false =>
   have h5 : ¬ (0 ≤ p.x ∧ 0 ≤ p.y ∧ p.x < 8 * w.size ∧ p.y < 8 * w.size):=fun hx=>by rw [h.2 hx] at hW;cases hW
   refine Api.of_fin cfg_ok Try.func64 rfl (nt:=27) rfl rfl ?_
   conv=>whnf
   repeat' (first|exact trivial|((first|refine kL ?_|(refine ⟨fun hb=>?_,fun hb=>?_⟩<;>(try simp only [nrm] at hb)<;>(try (first|(exfalso;omega)|contradiction|exact kB hb)))|refine kW cfg_ok ?_|refine kC ?_|refine bdA ?_|refine bd2 ?_|refine bdR ?_|refine bdL ?_)<;>(conv=>whnf))|(refine And.intro ?_ ?_;rotate_left;(conv=>whnf);rotate_right))
   all_goals (refine congrArg Value.bool ?_;simp;omega)
theorem seenC_next {w : Wld} {k : Nat} (h : SeenC w k) (hlt : k < w.chunks.length) (h1 : rightB (elt .chunk w.chunks k) = true) (h2 : (elt .chunk w.chunks k).x < w.size) (h3 : (elt .chunk w.chunks k).y < w.size) (h4 : ∀ j,j + 1 = k → keyC (elt .chunk w.chunks j) < keyC (elt .chunk w.chunks k)) : SeenC w (k + 1):=by
 refine ⟨hlt,fun i hi=>?_,fun i hi=>?_⟩
 · rcases Nat.lt_succ_iff_lt_or_eq.1 hi with h'|rfl
   · exact h.right i h'
   · exact ⟨h1,h2,h3⟩
 · rcases Nat.lt_or_ge (i + 1) k with h'|h'
   · exact h.up i h'
   · have e : i + 1 = k:=by omega
     subst e
     exact h4 i rfl
theorem seenP_next {w : Wld} {k : Nat} (h : SeenP w k) (hlt : k < w.players.length) (h1 : soundB (elt .player w.players k) = true) (h2 : withinW w.size (elt .player w.players k).x (elt .player w.players k).y = true) (h4 : ∀ j,j + 1 = k → (elt .player w.players j).id < (elt .player w.players k).id) : SeenP w (k + 1):=by
 refine ⟨hlt,fun i hi=>?_,fun i hi=>?_⟩
 · rcases Nat.lt_succ_iff_lt_or_eq.1 hi with h'|rfl
   · exact h.right i h'
   · exact ⟨h1,h2⟩
 · rcases Nat.lt_or_ge (i + 1) k with h'|h'
   · exact h.up i h'
   · have e : i + 1 = k:=by omega
     subst e
     exact h4 i rfl
theorem r13right_api (w : Wld) (hw : OkW w) : Api Try.prog 30 [wldV w] (bol (rightW w)):=by
 have h1:=hw.nc
 have h2:=hw.np
 refine Api.of_fin cfg_ok Try.func30 rfl (nt:=137) rfl rfl ?_
 conv=>whnf
 repeat' (first|exact trivial|((first|refine kL ?_|(refine ⟨fun hb=>?_,fun hb=>?_⟩<;>(try simp only [nrm] at hb)<;>(try (first|(exfalso;omega)|contradiction|exact kB hb)))|refine kW cfg_ok ?_|refine kC ?_|refine bdA ?_|refine bd2 ?_|refine bdR ?_|refine bdL ?_)<;>(conv=>whnf))|(refine And.intro ?_ ?_;rotate_left;(conv=>whnf);rotate_right))
 all_goals (try (rw [wrong_of (p:=True) (fun h=>by have:=h.size;have:=h.few;omega)];done))
 have hH : headW w = true:=by simp only [headW,Bool.and_eq_true,decide_eq_true_eq];omega
 refine Runs.loopS cfg_ok (σ:=Nat) [1,3] (fun k=>[.ptr 2 0,i64 k]) (fun _=>[(2,.box (wldC w))]) (fun k=>SeenC w k) (fun k=>w.chunks.length - k) 0 ⟨by omega,by omega,by omega⟩ ?_ ?_
 · conv=>whnf
   repeat' (first|exact trivial|((first|refine kL ?_|(refine ⟨fun hb=>?_,fun hb=>?_⟩<;>(try simp only [nrm] at hb)<;>(try (first|(exfalso;omega)|contradiction|exact kB hb)))|refine kW cfg_ok ?_|refine kC ?_|refine bdA ?_|refine bd2 ?_|refine bdR ?_|refine bdL ?_)<;>(conv=>whnf))|(refine And.intro ?_ ?_;rotate_left;(conv=>whnf);rotate_right))
 · intro k hs
   have hk:=hs.le
   by_cases hlt : k < w.chunks.length
   · have hcr:=r11right_api _ (hw.chunks _ (elt_mem (t:=.chunk) hlt))
     cases hB : rightB (elt .chunk w.chunks k) with
     | false =>
       rw [wrong_of (p:=True) (fun h=>by have:=(h.chunkAt hlt).1;rw [hB] at this;cases this)]
       rw [hB] at hcr
       conv=>whnf
       repeat' (first|exact trivial|((first|refine kL ?_|(refine ⟨fun hb=>?_,fun hb=>?_⟩<;>(try simp only [nrm] at hb)<;>(try (first|(exfalso;omega)|contradiction|exact kB hb)))|refine kA hcr ?_|refine kD hcr ?_|refine kW cfg_ok ?_|refine kC ?_|refine bdA ?_|refine bd2 ?_|refine bdR ?_|refine bdL ?_)<;>(conv=>whnf))|(refine And.intro ?_ ?_;rotate_left;(conv=>whnf);rotate_right))
     | true =>
       rw [hB] at hcr
       have hp:=rightB_pos hB
       have q0 : (elt .chunk w.chunks (k : Int).toNat).x = (elt .chunk w.chunks k).x:=rfl
       have q1 : (elt .chunk w.chunks (k : Int).toNat).y = (elt .chunk w.chunks k).y:=rfl
       cases k with
       | zero =>
         conv=>whnf
         repeat' (first|exact trivial|((first|refine kL ?_|(refine ⟨fun hb=>?_,fun hb=>?_⟩<;>(try simp only [nrm] at hb)<;>(try (first|(exfalso;omega)|contradiction|exact kB hb)))|refine kA hcr ?_|refine kD hcr ?_|refine kW cfg_ok ?_|refine kC ?_|refine bdA ?_|refine bd2 ?_|refine bdR ?_|refine bdL ?_)<;>(conv=>whnf))|(refine And.intro ?_ ?_;rotate_left;(conv=>whnf);rotate_right))
         all_goals first
           | (rw [wrong_of (p:=True) (fun h=>by have:=h.chunkAt hlt;omega)];done)
           | (refine .to (0 + 1) (seenC_next hs hlt hB (by omega) (by omega) (by omega)) (by omega) ?_;(conv=>whnf))
           | trace_state
         repeat' (first|exact trivial|((first|refine kL ?_|(refine ⟨fun hb=>?_,fun hb=>?_⟩<;>(try simp only [nrm] at hb)<;>(try (first|(exfalso;omega)|contradiction|exact kB hb)))|refine kW cfg_ok ?_|refine kC ?_|refine bdA ?_|refine bd2 ?_|refine bdR ?_|refine bdL ?_)<;>(conv=>whnf))|(refine And.intro ?_ ?_;rotate_left;(conv=>whnf);rotate_right))
       | succ j =>
         have hpj:=rightB_pos (hs.right j (by omega)).1
         have e : (((j + 1 : Nat) : Int) - 1).toNat = j:=by omega
         have q2 : (elt .chunk w.chunks (((j + 1 : Nat) : Int) - 1).toNat).x = (elt .chunk w.chunks j).x:=by rw [e]
         have q3 : (elt .chunk w.chunks (((j + 1 : Nat) : Int) - 1).toNat).y = (elt .chunk w.chunks j).y:=by rw [e]
         conv=>whnf
         repeat' (first|exact trivial|((first|refine kL ?_|(refine ⟨fun hb=>?_,fun hb=>?_⟩<;>(try simp only [nrm] at hb)<;>(try (first|(exfalso;omega)|contradiction|exact kB hb)))|refine kA hcr ?_|refine kD hcr ?_|refine kW cfg_ok ?_|refine kC ?_|refine bdA ?_|refine bd2 ?_|refine bdR ?_|refine bdL ?_)<;>(conv=>whnf))|(refine And.intro ?_ ?_;rotate_left;(conv=>whnf);rotate_right))
         all_goals first
           | (rw [wrong_of (p:=True) (fun h=>by have:=h.chunkAt hlt;omega)];done)
           | (rw [wrong_of (p:=True) (fun h=>by have:=h.chunkUp hlt;unfold keyC at this;omega)];done)
           | (have hk2 : keyC (elt .chunk w.chunks j) < keyC (elt .chunk w.chunks (j + 1)):=(by unfold keyC;omega);refine .to (j + 1 + 1) (seenC_next hs hlt hB (by omega) (by omega) (fun i hi=>by rw [show i = j by omega];exact hk2)) (by omega) ?_;(conv=>whnf))
           | trace_state
         repeat' (first|exact trivial|((first|refine kL ?_|(refine ⟨fun hb=>?_,fun hb=>?_⟩<;>(try simp only [nrm] at hb)<;>(try (first|(exfalso;omega)|contradiction|exact kB hb)))|refine kW cfg_ok ?_|refine kC ?_|refine bdA ?_|refine bd2 ?_|refine bdR ?_|refine bdL ?_)<;>(conv=>whnf))|(refine And.intro ?_ ?_;rotate_left;(conv=>whnf);rotate_right))
   · obtain rfl : k = w.chunks.length:=by omega
     conv=>whnf
     repeat' (first|exact trivial|((first|refine kL ?_|(refine ⟨fun hb=>?_,fun hb=>?_⟩<;>(try simp only [nrm] at hb)<;>(try (first|(exfalso;omega)|contradiction|exact kB hb)))|refine kW cfg_ok ?_|refine kC ?_|refine bdA ?_|refine bd2 ?_|refine bdR ?_|refine bdL ?_)<;>(conv=>whnf))|(refine And.intro ?_ ?_;rotate_left;(conv=>whnf);rotate_right))
     have hsC:=hs
     clear hs
     have hsz : 1 ≤ w.size ∧ w.size ≤ 16:=by omega
     refine Runs.loopS cfg_ok (σ:=Nat) [1,5] (fun k=>[.ptr 2 0,i64 k]) (fun _=>[(2,.box (wldC w))]) (fun k=>SeenP w k) (fun k=>w.players.length - k) 0 ⟨by omega,by omega,by omega⟩ ?_ ?_
     · conv=>whnf
       repeat' (first|exact trivial|((first|refine kL ?_|(refine ⟨fun hb=>?_,fun hb=>?_⟩<;>(try simp only [nrm] at hb)<;>(try (first|(exfalso;omega)|contradiction|exact kB hb)))|refine kW cfg_ok ?_|refine kC ?_|refine bdA ?_|refine bd2 ?_|refine bdR ?_|refine bdL ?_)<;>(conv=>whnf))|(refine And.intro ?_ ?_;rotate_left;(conv=>whnf);rotate_right))
     · intro k hs
       have hk:=hs.le
       by_cases hlt : k < w.players.length
       · have hpr:=rplayer_api _ (hw.players _ (elt_mem (t:=.player) hlt))
         have hth:=r13there_api w (elt .player w.players k) hsz
         cases hB : soundB (elt .player w.players k) with
         | false =>
           rw [wrong_of (p:=True) (fun h=>by have:=(h.playerAt hlt).1;rw [hB] at this;cases this)]
           rw [hB] at hpr
           conv=>whnf
           repeat' (first|exact trivial|((first|refine kL ?_|(refine ⟨fun hb=>?_,fun hb=>?_⟩<;>(try simp only [nrm] at hb)<;>(try (first|(exfalso;omega)|contradiction|exact kB hb)))|refine kA hpr ?_|refine kD hpr ?_|refine kA hth ?_|refine kD hth ?_|refine kW cfg_ok ?_|refine kC ?_|refine bdA ?_|refine bd2 ?_|refine bdR ?_|refine bdL ?_)<;>(conv=>whnf))|(refine And.intro ?_ ?_;rotate_left;(conv=>whnf);rotate_right))
         | true =>
           rw [hB] at hpr
           cases hI : withinW w.size (elt .player w.players k).x (elt .player w.players k).y with
           | false =>
             rw [wrong_of (p:=True) (fun h=>by have:=(h.playerAt hlt).2;rw [hI] at this;cases this)]
             rw [hI] at hth
             conv=>whnf
             repeat' (first|exact trivial|((first|refine kL ?_|(refine ⟨fun hb=>?_,fun hb=>?_⟩<;>(try simp only [nrm] at hb)<;>(try (first|(exfalso;omega)|contradiction|exact kB hb)))|refine kA hpr ?_|refine kD hpr ?_|refine kA hth ?_|refine kD hth ?_|refine kW cfg_ok ?_|refine kC ?_|refine bdA ?_|refine bd2 ?_|refine bdR ?_|refine bdL ?_)<;>(conv=>whnf))|(refine And.intro ?_ ?_;rotate_left;(conv=>whnf);rotate_right))
           | true =>
             rw [hI] at hth
             have q0 : (elt .player w.players (k : Int).toNat).id = (elt .player w.players k).id:=rfl
             cases k with
             | zero =>
               conv=>whnf
               repeat' (first|exact trivial|((first|refine kL ?_|(refine ⟨fun hb=>?_,fun hb=>?_⟩<;>(try simp only [nrm] at hb)<;>(try (first|(exfalso;omega)|contradiction|exact kB hb)))|refine kA hpr ?_|refine kD hpr ?_|refine kA hth ?_|refine kD hth ?_|refine kW cfg_ok ?_|refine kC ?_|refine bdA ?_|refine bd2 ?_|refine bdR ?_|refine bdL ?_)<;>(conv=>whnf))|(refine And.intro ?_ ?_;rotate_left;(conv=>whnf);rotate_right))
               refine .to (0 + 1) (seenP_next hs hlt hB hI (by omega)) (by omega) ?_
               conv=>whnf
               repeat' (first|exact trivial|((first|refine kL ?_|(refine ⟨fun hb=>?_,fun hb=>?_⟩<;>(try simp only [nrm] at hb)<;>(try (first|(exfalso;omega)|contradiction|exact kB hb)))|refine kW cfg_ok ?_|refine kC ?_|refine bdA ?_|refine bd2 ?_|refine bdR ?_|refine bdL ?_)<;>(conv=>whnf))|(refine And.intro ?_ ?_;rotate_left;(conv=>whnf);rotate_right))
             | succ j =>
               have e : (((j + 1 : Nat) : Int) - 1).toNat = j:=by omega
               have q2 : (elt .player w.players (((j + 1 : Nat) : Int) - 1).toNat).id = (elt .player w.players j).id:=by rw [e]
               conv=>whnf
               repeat' (first|exact trivial|((first|refine kL ?_|(refine ⟨fun hb=>?_,fun hb=>?_⟩<;>(try simp only [nrm] at hb)<;>(try (first|(exfalso;omega)|contradiction|exact kB hb)))|refine kA hpr ?_|refine kD hpr ?_|refine kA hth ?_|refine kD hth ?_|refine kW cfg_ok ?_|refine kC ?_|refine bdA ?_|refine bd2 ?_|refine bdR ?_|refine bdL ?_)<;>(conv=>whnf))|(refine And.intro ?_ ?_;rotate_left;(conv=>whnf);rotate_right))
               all_goals first
                 | (rw [wrong_of (p:=True) (fun h=>by have:=h.playerUp hlt;omega)];done)
                 | (refine .to (j + 1 + 1) (seenP_next hs hlt hB hI (fun i hi=>by rw [show i = j by omega];omega)) (by omega) ?_;(conv=>whnf))
                 | trace_state
               repeat' (first|exact trivial|((first|refine kL ?_|(refine ⟨fun hb=>?_,fun hb=>?_⟩<;>(try simp only [nrm] at hb)<;>(try (first|(exfalso;omega)|contradiction|exact kB hb)))|refine kW cfg_ok ?_|refine kC ?_|refine bdA ?_|refine bd2 ?_|refine bdR ?_|refine bdL ?_)<;>(conv=>whnf))|(refine And.intro ?_ ?_;rotate_left;(conv=>whnf);rotate_right))
       · obtain rfl : k = w.players.length:=by omega
         rw [right_seen hH hsC hs]
         conv=>whnf
         repeat' (first|exact trivial|((first|refine kL ?_|(refine ⟨fun hb=>?_,fun hb=>?_⟩<;>(try simp only [nrm] at hb)<;>(try (first|(exfalso;omega)|contradiction|exact kB hb)))|refine kW cfg_ok ?_|refine kC ?_|refine bdA ?_|refine bd2 ?_|refine bdR ?_|refine bdL ?_)<;>(conv=>whnf))|(refine And.intro ?_ ?_;rotate_left;(conv=>whnf);rotate_right))
theorem r13player_api (w : Wld) (id : Int) (hw : OkW w) : Api Try.prog 57 [wldV w,i64 id] (.tup [playerV (playerW w id).1,bol (playerW w id).2]):=by
 have hrt:=r13right_api w hw
 have hcp:=r13copied_api w hw
 have hnp:=hw.np
 cases hR : rightW w with
 | false =>
   rw [hR] at hrt
   have hs : playerW w id = (zeroP,false):=by unfold playerW;rw [if_pos hR]
   rw [hs]
   refine Api.of_fin cfg_ok Try.func57 rfl (nt:=29) rfl rfl ?_
   conv=>whnf
   repeat' (first|exact trivial|((first|refine kL ?_|(refine ⟨fun hb=>?_,fun hb=>?_⟩<;>(try simp only [nrm] at hb)<;>(try (first|(exfalso;omega)|contradiction|exact kB hb)))|refine kA hrt ?_|refine kD hrt ?_|refine kW cfg_ok ?_|refine kC ?_|refine bdA ?_|refine bd2 ?_|refine bdR ?_|refine bdL ?_)<;>(conv=>whnf))|(refine And.intro ?_ ?_;rotate_left;(conv=>whnf);rotate_right))
   all_goals first|rfl|trace_state
 | true =>
   rw [hR] at hrt
   have hRW:=rightW_iff.1 hR
   have e : playerW w id = match getK pid w.players id with|some p=>(p,true)|none=>(zeroP,false):=by
     unfold playerW;rw [if_neg (by rw [hR];simp)];rfl
   rw [e]
   refine Api.of_fin cfg_ok Try.func57 rfl (nt:=29) rfl rfl ?_
   conv=>whnf
   repeat' (first|exact trivial|((first|refine kL ?_|(refine ⟨fun hb=>?_,fun hb=>?_⟩<;>(try simp only [nrm] at hb)<;>(try (first|(exfalso;omega)|contradiction|exact kB hb)))|refine kA hrt ?_|refine kD hrt ?_|refine kW cfg_ok ?_|refine kC ?_|refine bdA ?_|refine bd2 ?_|refine bdR ?_|refine bdL ?_)<;>(conv=>whnf))|(refine And.intro ?_ ?_;rotate_left;(conv=>whnf);rotate_right))
   refine Runs.loopS cfg_ok (σ:=Nat) [1,2,4,6] (fun i=>[i64 id,.ptr 4 0,.ptr 8 0,i64 i]) (fun _=>[(4,.box (wldC w)),(8,.box [i64 0,i64 0,i64 0,nilS,i64 0,nilS,bol false])]) (fun i=>i ≤ w.players.length ∧ ∀ k < i,¬ (elt .player w.players k).id = id) (fun i=>w.players.length - i) 0 ⟨by omega,by omega⟩ ?_ ?_
   · conv=>whnf
     repeat' (first|exact trivial|((first|refine kL ?_|(refine ⟨fun hb=>?_,fun hb=>?_⟩<;>(try simp only [nrm] at hb)<;>(try (first|(exfalso;omega)|contradiction|exact kB hb)))|refine kW cfg_ok ?_|refine kC ?_|refine bdA ?_|refine bd2 ?_|refine bdR ?_|refine bdL ?_)<;>(conv=>whnf))|(refine And.intro ?_ ?_;rotate_left;(conv=>whnf);rotate_right))
   · rintro i ⟨hi,hno⟩
     by_cases hlt : i < w.players.length
     · have hE : (elt .player w.players (i : Int).toNat).id = (elt .player w.players i).id:=rfl
       by_cases he : (elt .player w.players i).id = id
       · have hg:=getP_at hRW.rp hlt
         rw [he] at hg
         rw [hg]
         conv=>whnf
         repeat' (first|exact trivial|((first|refine kL ?_|(refine ⟨fun hb=>?_,fun hb=>?_⟩<;>(try simp only [nrm] at hb)<;>(try (first|(exfalso;omega)|contradiction|exact kB hb)))|refine kA hcp ?_|refine kD hcp ?_|refine kW cfg_ok ?_|refine kC ?_|refine bdA ?_|refine bd2 ?_|refine bdR ?_|refine bdL ?_)<;>(conv=>whnf))|(refine And.intro ?_ ?_;rotate_left;(conv=>whnf);rotate_right))
         all_goals first|rfl|omega|trace_state
       · conv=>whnf
         repeat' (first|exact trivial|((first|refine kL ?_|(refine ⟨fun hb=>?_,fun hb=>?_⟩<;>(try simp only [nrm] at hb)<;>(try (first|(exfalso;omega)|contradiction|exact kB hb)))|refine kW cfg_ok ?_|refine kC ?_|refine bdA ?_|refine bd2 ?_|refine bdR ?_|refine bdL ?_)<;>(conv=>whnf))|(refine And.intro ?_ ?_;rotate_left;(conv=>whnf);rotate_right))
         refine .to (i + 1) ⟨hlt,fun k hk=>?_⟩ (by omega) ?_
         · rcases Nat.lt_succ_iff_lt_or_eq.1 hk with h|rfl
           · exact hno k h
           · exact he
         conv=>whnf
         repeat' (first|exact trivial|((first|refine kL ?_|(refine ⟨fun hb=>?_,fun hb=>?_⟩<;>(try simp only [nrm] at hb)<;>(try (first|(exfalso;omega)|contradiction|exact kB hb)))|refine kW cfg_ok ?_|refine kC ?_|refine bdA ?_|refine bd2 ?_|refine bdR ?_|refine bdL ?_)<;>(conv=>whnf))|(refine And.intro ?_ ?_;rotate_left;(conv=>whnf);rotate_right))
     · obtain rfl : i = w.players.length:=by omega
       rw [getP_none hno]
       conv=>whnf
       repeat' (first|exact trivial|((first|refine kL ?_|(refine ⟨fun hb=>?_,fun hb=>?_⟩<;>(try simp only [nrm] at hb)<;>(try (first|(exfalso;omega)|contradiction|exact kB hb)))|refine kW cfg_ok ?_|refine kC ?_|refine bdA ?_|refine bd2 ?_|refine bdR ?_|refine bdL ?_)<;>(conv=>whnf))|(refine And.intro ?_ ?_;rotate_left;(conv=>whnf);rotate_right))
       all_goals first|rfl|trace_state
theorem r13chunk_api (w : Wld) (x y : Int) (hw : OkW w) : Api Try.prog 58 [wldV w,i64 x,i64 y] (.tup [chunkV (chunkW w x y).1,bol (chunkW w x y).2]):=by
 have hrt:=r13right_api w hw
 have hnc:=hw.nc
 cases hR : rightW w with
 | false =>
   rw [hR] at hrt
   rw [chunkW_out (.inl hR)]
   refine Api.of_fin cfg_ok Try.func58 rfl (nt:=66) rfl rfl ?_
   conv=>whnf
   repeat' (first|exact trivial|((first|refine kL ?_|(refine ⟨fun hb=>?_,fun hb=>?_⟩<;>(try simp only [nrm] at hb)<;>(try (first|(exfalso;omega)|contradiction|exact kB hb)))|refine kA hrt ?_|refine kD hrt ?_|refine kW cfg_ok ?_|refine kC ?_|refine bdA ?_|refine bd2 ?_|refine bdR ?_|refine bdL ?_)<;>(conv=>whnf))|(refine And.intro ?_ ?_;rotate_left;(conv=>whnf);rotate_right))
   all_goals first|rfl|trace_state
 | true =>
   rw [hR] at hrt
   by_cases hin : 0 ≤ x ∧ x < w.size ∧ 0 ≤ y ∧ y < w.size
   · have hRW:=rightW_iff.1 hR
     have hs:=hRW.size
     rw [chunkW_get hRW hin.1 hin.2.1 hin.2.2.1 hin.2.2.2]
     have hgn:=r12chunk_api w.seed x y hin.1 (by omega) hin.2.2.1 (by omega)
     refine Api.of_fin cfg_ok Try.func58 rfl (nt:=66) rfl rfl ?_
     conv=>whnf
     repeat' (first|exact trivial|((first|refine kL ?_|(refine ⟨fun hb=>?_,fun hb=>?_⟩<;>(try simp only [nrm] at hb)<;>(try (first|(exfalso;omega)|contradiction|exact kB hb)))|refine kA hrt ?_|refine kD hrt ?_|refine kW cfg_ok ?_|refine kC ?_|refine bdA ?_|refine bd2 ?_|refine bdR ?_|refine bdL ?_)<;>(conv=>whnf))|(refine And.intro ?_ ?_;rotate_left;(conv=>whnf);rotate_right))
     refine Runs.loopS cfg_ok (σ:=Nat) [1,2,3,6,8] (fun i=>[i64 x,i64 y,.ptr 6 0,.ptr 12 0,i64 i]) (fun _=>[(6,.box (wldC w)),(12,.box (chunkC ⟨0,0,[],[],[]⟩))]) (fun i=>i ≤ w.chunks.length ∧ ∀ k < i,¬ ((elt .chunk w.chunks k).x = x ∧ (elt .chunk w.chunks k).y = y)) (fun i=>w.chunks.length - i) 0 ⟨by omega,by omega⟩ ?_ ?_
     · conv=>whnf
       repeat' (first|exact trivial|((first|refine kL ?_|(refine ⟨fun hb=>?_,fun hb=>?_⟩<;>(try simp only [nrm] at hb)<;>(try (first|(exfalso;omega)|contradiction|exact kB hb)))|refine kW cfg_ok ?_|refine kC ?_|refine bdA ?_|refine bd2 ?_|refine bdR ?_|refine bdL ?_)<;>(conv=>whnf))|(refine And.intro ?_ ?_;rotate_left;(conv=>whnf);rotate_right))
       all_goals first|rfl|trace_state
     · rintro i ⟨hi,hno⟩
       by_cases hlt : i < w.chunks.length
       · have q0 : (elt .chunk w.chunks (i : Int).toNat).x = (elt .chunk w.chunks i).x:=rfl
         have q1 : (elt .chunk w.chunks (i : Int).toNat).y = (elt .chunk w.chunks i).y:=rfl
         by_cases he : (elt .chunk w.chunks i).x = x ∧ (elt .chunk w.chunks i).y = y
         · have hg:=getC_at hRW.rc hRW.xy hlt
           rw [he.1,he.2] at hg
           rw [hg]
           obtain ⟨he1,he2⟩:=he
           have hcp:=r11copied_ev (elt .chunk w.chunks i) (hw.fit _ (elt_mem (t:=.chunk) hlt))
           conv=>whnf
           repeat' (first|exact trivial|((first|refine kL ?_|(refine ⟨fun hb=>?_,fun hb=>?_⟩<;>(try simp only [nrm] at hb)<;>(try (first|(exfalso;omega)|contradiction|exact kB hb)))|refine kE hcp [(390001,150001),(390003,150003),(390005,150005)] rfl ?_|refine kF hcp [(390001,150001),(390003,150003),(390005,150005)] rfl ?_|refine kW cfg_ok ?_|refine kC ?_|refine bdA ?_|refine bd2 ?_|refine bdR ?_|refine bdL ?_)<;>(conv=>whnf))|(refine And.intro ?_ ?_;rotate_left;(conv=>whnf);rotate_right))
           all_goals first|rfl|(simp;done)|omega|trace_state
         · have he1 : (elt .chunk w.chunks i).x = x → ¬ (elt .chunk w.chunks i).y = y:=fun h1 h2=>he ⟨h1,h2⟩
           conv=>whnf
           repeat' (first|exact trivial|((first|refine kL ?_|(refine ⟨fun hb=>?_,fun hb=>?_⟩<;>(try simp only [nrm] at hb)<;>(try (first|(exfalso;omega)|contradiction|exact kB hb)))|refine kW cfg_ok ?_|refine kC ?_|refine bdA ?_|refine bd2 ?_|refine bdR ?_|refine bdL ?_)<;>(conv=>whnf))|(refine And.intro ?_ ?_;rotate_left;(conv=>whnf);rotate_right))
           all_goals
             refine .to (i + 1) ⟨hlt,fun k hk=>?_⟩ (by omega) ?_
             · rcases Nat.lt_succ_iff_lt_or_eq.1 hk with h|rfl
               · exact hno k h
               · exact he
             conv=>whnf
             repeat' (first|exact trivial|((first|refine kL ?_|(refine ⟨fun hb=>?_,fun hb=>?_⟩<;>(try simp only [nrm] at hb)<;>(try (first|(exfalso;omega)|contradiction|exact kB hb)))|refine kW cfg_ok ?_|refine kC ?_|refine bdA ?_|refine bd2 ?_|refine bdR ?_|refine bdL ?_)<;>(conv=>whnf))|(refine And.intro ?_ ?_;rotate_left;(conv=>whnf);rotate_right))
             all_goals first|rfl|trace_state
       · obtain rfl : i = w.chunks.length:=by omega
         rw [getC_none hRW.xy hin.1 (by omega) hno]
         conv=>whnf
         repeat' (first|exact trivial|((first|refine kL ?_|(refine ⟨fun hb=>?_,fun hb=>?_⟩<;>(try simp only [nrm] at hb)<;>(try (first|(exfalso;omega)|contradiction|exact kB hb)))|refine kA hgn ?_|refine kD hgn ?_|refine kW cfg_ok ?_|refine kC ?_|refine bdA ?_|refine bd2 ?_|refine bdR ?_|refine bdL ?_)<;>(conv=>whnf))|(refine And.intro ?_ ?_;rotate_left;(conv=>whnf);rotate_right))
         all_goals first|rfl|trace_state
   · rw [chunkW_out (.inr hin)]
     refine Api.of_fin cfg_ok Try.func58 rfl (nt:=66) rfl rfl ?_
     conv=>whnf
     repeat' (first|exact trivial|((first|refine kL ?_|(refine ⟨fun hb=>?_,fun hb=>?_⟩<;>(try simp only [nrm] at hb)<;>(try (first|(exfalso;omega)|contradiction|exact kB hb)))|refine kA hrt ?_|refine kD hrt ?_|refine kW cfg_ok ?_|refine kC ?_|refine bdA ?_|refine bd2 ?_|refine bdR ?_|refine bdL ?_)<;>(conv=>whnf))|(refine And.intro ?_ ?_;rotate_left;(conv=>whnf);rotate_right))
     all_goals first|rfl|omega|trace_state
open Go Go.RowKit Eng
def knownW (w : Wld) (e P : Pos) (r : Nat) (c : Pos) : Prop:=(airW w c ∨ c = P) ∧ ∃ d,d ≤ r ∧ fst (airW w) e d c
open Classical in
noncomputable def offW (w : Wld) (e P : Pos) (r : Nat) (c : Pos) : Int:=if h : knownW w e P r c then ((Classical.choose h.2 : Nat) : Int) else -1
theorem off_is {w : Wld} {e P : Pos} {r d : Nat} {c : Pos} (hc : airW w c ∨ c = P) (hd : d ≤ r) (hf : fst (airW w) e d c) : offW w e P r c = d:=by
 have hk : knownW w e P r c:=⟨hc,d,hd,hf⟩
 unfold offW
 rw [dif_pos hk]
 have h1:=Classical.choose_spec hk.2
 rw [fst_one h1.2 hf]
theorem off_not {w : Wld} {e P : Pos} {r : Nat} {c : Pos} (h : ¬ knownW w e P r c) : offW w e P r c = -1:=by
 unfold offW;rw [dif_neg h]
theorem off_cases (w : Wld) (e P : Pos) (r : Nat) (c : Pos) : (¬ knownW w e P r c ∧ offW w e P r c = -1) ∨ ∃ d : Nat,d ≤ r ∧ (airW w c ∨ c = P) ∧ fst (airW w) e d c ∧ offW w e P r c = d:=by
 by_cases h : knownW w e P r c
 · obtain ⟨h1,d,hd,hf⟩:=h
   exact .inr ⟨d,hd,h1,hf,off_is h1 hd hf⟩
 · exact .inl ⟨h,off_not h⟩
theorem off_zero {w : Wld} {e P : Pos} (he : airW w e) : offW w e P 0 e = 0:=off_is (.inl he) (Nat.le_refl 0) fst_zero
theorem off_nought {w : Wld} {e P c : Pos} (h : ¬ c = e) : offW w e P 0 c = -1:=by
 refine off_not fun hk=>?_
 obtain ⟨_,d,hd,hf⟩:=hk
 have : d = 0:=by omega
 subst this
 exact h hf.1
theorem off_keep {w : Wld} {e P c : Pos} {r : Nat} (h : 0 ≤ offW w e P r c ∨ ¬ (airW w c ∨ c = P)) : offW w e P (r + 1) c = offW w e P r c:=by
 rcases off_cases w e P r c with ⟨h1,h2⟩|⟨d,hd,h1,hf,h2⟩
 · rcases h with h|h
   · omega
   · rw [h2];exact off_not fun hk=>h hk.1
 · rw [h2];exact off_is h1 (by omega) hf
theorem off_same {w : Wld} {e P c : Pos} {r : Nat} : offW w e P (r + 1) c = r ↔ offW w e P r c = r:=by
 rcases off_cases w e P r c with ⟨h1,h2⟩|⟨d,hd,h1,hf,h2⟩
 · rw [h2]
   rcases off_cases w e P (r + 1) c with ⟨h3,h4⟩|⟨d,hd,h3,hf,h4⟩
   · rw [h4]
   · rw [h4]
     constructor
     · intro h
       have : d = r:=by omega
       subst this
       exact absurd ⟨h3,d,Nat.le_refl _,hf⟩ h1
     · intro h;omega
 · rw [h2,off_is h1 (show d ≤ r + 1 by omega) hf]
def nextW (w : Wld) (e P : Pos) (r : Nat) (c : Pos) : Prop:=airW w c ∧ offW w e P r c = r
theorem next_fst {w : Wld} {e P c : Pos} {r : Nat} : nextW w e P r c ↔ airW w c ∧ fst (airW w) e r c:=by
 unfold nextW
 constructor
 · rintro ⟨h1,h2⟩
   rcases off_cases w e P r c with ⟨_,h3⟩|⟨d,hd,_,hf,h3⟩
   · omega
   · have : d = r:=by omega
     subst this;exact ⟨h1,hf⟩
 · rintro ⟨h1,h2⟩
   exact ⟨h1,off_is (.inl h1) (Nat.le_refl _) h2⟩
theorem off_hit {w : Wld} {e P c : Pos} {r : Nat} (h : ¬ 0 ≤ offW w e P r c) (hc : airW w c ∨ c = P) {s : Pos} (hs : s ∈ stepsL) (hn : nextW w e P r (addP c s)) : offW w e P (r + 1) c = r + 1:=by
 rcases off_cases w e P r c with ⟨h1,_⟩|⟨d,_,_,_,h3⟩
 · have hn:=next_fst.1 hn
   have:=fst_of_step (fun m hm hf=>h1 ⟨hc,m,hm,hf⟩) hs hn.1 hn.2
   exact off_is hc (Nat.le_refl _) this
 · omega
theorem off_miss {w : Wld} {e P c : Pos} {r : Nat} (h : ¬ 0 ≤ offW w e P r c) (hn : ∀ s ∈ stepsL,¬ nextW w e P r (addP c s)) : offW w e P (r + 1) c = -1:=by
 refine off_not fun hk=>?_
 obtain ⟨h1,d,hd,hf⟩:=hk
 by_cases hdr : d ≤ r
 · rw [off_is h1 hdr hf] at h;omega
 · have : d = r + 1:=by omega
   subst this
   obtain ⟨s,hs,ha,hf2⟩:=fst_step hf
   exact hn s hs (next_fst.2 ⟨ha,hf2⟩)
def cellN (n k : Nat) : Pos:=⟨((k % n : Nat) : Int),((k / n : Nat) : Int)⟩
def rowN {α : Type} (n : Nat) (f : Nat → α) : List α:=(List.range (n * n)).map f
theorem rowN_len {α : Type} (n : Nat) (f : Nat → α) : (rowN n f).length = n * n:=by unfold rowN;rw [List.length_map,List.length_range]
theorem rowN_get {α : Type} {n : Nat} {f : Nat → α} {k : Nat} (hk : k < n * n) : (rowN n f)[k]? = some (f k):=by
 unfold rowN;rw [List.getElem?_map,List.getElem?_range hk];rfl
theorem rowN_int {n : Nat} {f : Nat → Int} {k : Nat} (hk : k < n * n) : elt .i64 (rowN n f) k = f k:=by
 show ((rowN n f)[k]?).getD (dflt .i64) = _
 rw [rowN_get hk];rfl
theorem rowN_flag {n : Nat} {f : Nat → Bool} {k : Nat} (hk : k < n * n) : elt .flag (rowN n f) k = f k:=by
 show ((rowN n f)[k]?).getD (dflt .flag) = _
 rw [rowN_get hk];rfl
theorem rowN_ext {α : Type} {n : Nat} {f g : Nat → α} (h : ∀ k,k < n * n → f k = g k) : rowN n f = rowN n g:=by
 refine List.ext_getElem? fun k=>?_
 by_cases hk : k < n * n
 · rw [rowN_get hk,rowN_get hk,h k hk]
 · rw [List.getElem?_eq_none (by rw [rowN_len];omega),List.getElem?_eq_none (by rw [rowN_len];omega)]
theorem rowN_set {α : Type} {n : Nat} {f g : Nat → α} {j : Nat} {v : α} (hv : j < n * n → g j = v) (h : ∀ k,k < n * n → k ≠ j → g k = f k) : (rowN n f).set j v = rowN n g:=by
 refine List.ext_getElem? fun k=>?_
 by_cases hk : k < n * n
 · rw [List.getElem?_set,rowN_len]
   by_cases hj : j = k
   · subst hj
     rw [if_pos rfl,if_pos hk,rowN_get hk,hv hk]
   · rw [if_neg hj,rowN_get hk,rowN_get hk,h k hk (fun e=>hj e.symm)]
 · rw [List.getElem?_eq_none (by rw [List.length_set,rowN_len];omega),List.getElem?_eq_none (by rw [rowN_len];omega)]
def doneN (n cy cx k i : Nat) : Prop:=i / n / 8 < cy ∨ (i / n / 8 = cy ∧ (i % n / 8 < cx ∨ (i % n / 8 = cx ∧ i / n % 8 * 8 + i % n % 8 < k)))
instance (n cy cx k i : Nat) : Decidable (doneN n cy cx k i):=inferInstanceAs (Decidable (_ ∨ _))
def openN (w : Wld) (n i : Nat) : Bool:=decide (cellAt w (cellN n i).x (cellN n i).y = 0)
def airN (w : Wld) (n cy cx k : Nat) : List Bool:=rowN n fun i=>if doneN n cy cx k i then openN w n i else false
def needN (n cy cx k : Nat) : List Int:=rowN n fun i=>if doneN n cy cx k i then -1 else 0
def sizeN (n : Nat) : Prop:=n = 8 ∨ n = 16 ∨ n = 24 ∨ n = 32
theorem done_cell {n cy cx k : Nat} (hn : sizeN n) (hy : 8 * cy < n) (hx : 8 * cx < n) (hk : k < 64) :
   (cy * 8 + k / 8) * n + cx * 8 + k % 8 < n * n ∧ ((cy * 8 + k / 8) * n + cx * 8 + k % 8) % n = cx * 8 + k % 8 ∧ ((cy * 8 + k / 8) * n + cx * 8 + k % 8) / n = cy * 8 + k / 8:=by
 rcases hn with rfl|rfl|rfl|rfl<;>omega
theorem done_succ {n cy cx k i : Nat} (hn : sizeN n) (hy : 8 * cy < n) (hx : 8 * cx < n) (hk : k < 64) (hi : i < n * n) : doneN n cy cx (k + 1) i ↔ doneN n cy cx k i ∨ i = (cy * 8 + k / 8) * n + cx * 8 + k % 8:=by
 unfold doneN
 rcases hn with rfl|rfl|rfl|rfl<;>omega
theorem done_row {n cy cx i : Nat} (hn : sizeN n) (hi : i < n * n) : doneN n cy cx 64 i ↔ doneN n cy (cx + 1) 0 i:=by
 unfold doneN
 rcases hn with rfl|rfl|rfl|rfl<;>omega
theorem done_col {n cy cx i : Nat} (hn : sizeN n) (hx : 8 * cx = n) (hi : i < n * n) : doneN n cy cx 0 i ↔ doneN n (cy + 1) 0 0 i:=by
 unfold doneN
 rcases hn with rfl|rfl|rfl|rfl<;>omega
theorem done_all {n cy i : Nat} (hn : sizeN n) (hy : 8 * cy = n) (hi : i < n * n) : doneN n cy 0 0 i:=by
 unfold doneN
 rcases hn with rfl|rfl|rfl|rfl<;>omega
theorem done_none {n i : Nat} : ¬ doneN n 0 0 0 i:=by
 unfold doneN
 generalize i / n = q
 generalize i % n = r
 omega
theorem airN_set {w : Wld} {n cy cx k : Nat} (hn : sizeN n) (hy : 8 * cy < n) (hx : 8 * cx < n) (hk : k < 64) {v : Bool} (hv : v = decide (cellAt w (cx * 8 + (k : Int) % 8) (cy * 8 + (k : Int) / 8) = 0)) :
   (airN w n cy cx k).set ((cy * 8 + k / 8) * n + cx * 8 + k % 8) v = airN w n cy cx (k + 1):=by
 unfold airN
 obtain ⟨h1,h2,h3⟩:=done_cell hn hy hx hk
 refine rowN_set (fun hj=>?_) fun i hi hij=>?_
 · rw [if_pos ((done_succ hn hy hx hk hj).2 (.inr rfl))]
   unfold openN cellN
   rw [h2,h3,hv]
   dsimp only
   rw [show ((cx * 8 + k % 8 : Nat) : Int) = cx * 8 + (k : Int) % 8 by omega,show ((cy * 8 + k / 8 : Nat) : Int) = cy * 8 + (k : Int) / 8 by omega]
 · have:=done_succ hn hy hx hk hi
   by_cases hd : doneN n cy cx k i
   · rw [if_pos hd,if_pos (this.2 (.inl hd))]
   · rw [if_neg hd,if_neg fun e=>(this.1 e).elim hd hij]
theorem needN_set {n cy cx k : Nat} (hn : sizeN n) (hy : 8 * cy < n) (hx : 8 * cx < n) (hk : k < 64) :
   (needN n cy cx k).set ((cy * 8 + k / 8) * n + cx * 8 + k % 8) (-1) = needN n cy cx (k + 1):=by
 unfold needN
 refine rowN_set (fun hj=>?_) fun i hi hij=>?_
 · rw [if_pos ((done_succ hn hy hx hk hj).2 (.inr rfl))]
 · have:=done_succ hn hy hx hk hi
   by_cases hd : doneN n cy cx k i
   · rw [if_pos hd,if_pos (this.2 (.inl hd))]
   · rw [if_neg hd,if_neg fun e=>(this.1 e).elim hd hij]
theorem ite_iff {α : Type} {p q : Prop} [Decidable p] [Decidable q] {a b : α} (h : p ↔ q) : (if p then a else b) = if q then a else b:=by
 by_cases hp : p
 · rw [if_pos hp,if_pos (h.1 hp)]
 · rw [if_neg hp,if_neg fun e=>hp (h.2 e)]
theorem airN_row {w : Wld} {n cy cx : Nat} (hn : sizeN n) : airN w n cy cx 64 = airN w n cy (cx + 1) 0:=rowN_ext fun _ hi=>ite_iff (done_row hn hi)
theorem needN_row {n cy cx : Nat} (hn : sizeN n) : needN n cy cx 64 = needN n cy (cx + 1) 0:=rowN_ext fun _ hi=>ite_iff (done_row hn hi)
theorem airN_col {w : Wld} {n cy cx : Nat} (hn : sizeN n) (hx : 8 * cx = n) : airN w n cy cx 0 = airN w n (cy + 1) 0 0:=rowN_ext fun _ hi=>ite_iff (done_col hn hx hi)
theorem needN_col {n cy cx : Nat} (hn : sizeN n) (hx : 8 * cx = n) : needN n cy cx 0 = needN n (cy + 1) 0 0:=rowN_ext fun _ hi=>ite_iff (done_col hn hx hi)
theorem airN_all {w : Wld} {n cy : Nat} (hn : sizeN n) (hy : 8 * cy = n) : airN w n cy 0 0 = rowN n (openN w n):=rowN_ext fun _ hi=>if_pos (done_all hn hy hi)
theorem needN_all {n cy : Nat} (hn : sizeN n) (hy : 8 * cy = n) : needN n cy 0 0 = rowN n (fun _=>-1):=rowN_ext fun _ hi=>if_pos (done_all hn hy hi)
theorem airN_none (w : Wld) (n : Nat) : airN w n 0 0 0 = List.replicate (n * n) false:=by
 refine List.ext_getElem? fun k=>?_
 unfold airN
 by_cases hk : k < n * n
 · rw [rowN_get hk,if_neg done_none,List.getElem?_replicate,if_pos hk]
 · rw [List.getElem?_eq_none (by rw [rowN_len];omega),List.getElem?_eq_none (by rw [List.length_replicate];omega)]
theorem needN_none (n : Nat) : needN n 0 0 0 = List.replicate (n * n) 0:=by
 refine List.ext_getElem? fun k=>?_
 unfold needN
 by_cases hk : k < n * n
 · rw [rowN_get hk,if_neg done_none,List.getElem?_replicate,if_pos hk]
 · rw [List.getElem?_eq_none (by rw [rowN_len];omega),List.getElem?_eq_none (by rw [List.length_replicate];omega)]
theorem pos_idx {n : Nat} (hn : sizeN n) {x y : Int} (hx : 0 ≤ x ∧ x < n) (hy : 0 ≤ y ∧ y < n) : (y * n + x).toNat < n * n ∧ cellN n (y * n + x).toNat = ⟨x,y⟩ ∧ 0 ≤ y * n + x:=by
 unfold cellN
 rcases hn with rfl|rfl|rfl|rfl<;>exact ⟨by omega,pos_ext (by dsimp only;omega) (by dsimp only;omega),by omega⟩
theorem idx_bd {n : Nat} (hn : sizeN n) {k : Nat} (hk : k < n * n) : 0 ≤ (cellN n k).x ∧ (cellN n k).x < n ∧ 0 ≤ (cellN n k).y ∧ (cellN n k).y < n:=by
 unfold cellN
 rcases hn with rfl|rfl|rfl|rfl<;>dsimp only<;>omega
theorem idx_pos {n : Nat} (hn : sizeN n) {k : Nat} (hk : k < n * n) : (cellN n k).y * n + (cellN n k).x = k:=by
 unfold cellN
 rcases hn with rfl|rfl|rfl|rfl<;>dsimp only<;>omega
theorem idx_one {n : Nat} (hn : sizeN n) {k : Nat} (hk : k < n * n) {c : Pos} (hx : 0 ≤ c.x ∧ c.x < n) (hy : 0 ≤ c.y ∧ c.y < n) : (k : Int) = c.y * n + c.x ↔ cellN n k = c:=by
 constructor
 · intro h
   have:=(pos_idx hn hx hy).2.1
   rw [← h] at this
   exact this
 · intro h
   rw [← h];exact (idx_pos hn hk).symm
noncomputable def rowO (w : Wld) (e P : Pos) (n r k : Nat) : List Int:=rowN n fun i=>if i < k then offW w e P (r + 1) (cellN n i) else offW w e P r (cellN n i)
theorem rowO_zero (w : Wld) (e P : Pos) (n r : Nat) : rowO w e P n r 0 = rowN n fun i=>offW w e P r (cellN n i):=rowN_ext fun _ _=>if_neg (by omega)
theorem rowO_all (w : Wld) (e P : Pos) (n r : Nat) : rowO w e P n r (n * n) = rowO w e P n (r + 1) 0:=by
 rw [rowO_zero]
 exact rowN_ext fun _ hi=>if_pos hi
theorem rowO_init {w : Wld} {e P : Pos} {n : Nat} (hn : sizeN n) (he : airW w e) (hx : 0 ≤ e.x ∧ e.x < n) (hy : 0 ≤ e.y ∧ e.y < n) : (rowN n (fun _=>(-1 : Int))).set (e.y * n + e.x).toNat 0 = rowO w e P n 0 0:=by
 rw [rowO_zero]
 obtain ⟨h1,h2,h3⟩:=pos_idx hn hx hy
 refine rowN_set (fun hj=>?_) fun i hi hij=>?_
 · rw [h2];exact off_zero he
 · refine off_nought fun h=>?_
   have:=(idx_one hn hi hx hy).2 h
   omega
theorem rowO_keep {w : Wld} {e P : Pos} {n r k : Nat} (h : offW w e P (r + 1) (cellN n k) = offW w e P r (cellN n k)) : rowO w e P n r (k + 1) = rowO w e P n r k:=by
 refine rowN_ext fun i hi=>?_
 by_cases hk : i = k
 · subst hk;rw [if_pos (by omega),if_neg (by omega),h]
 · by_cases h2 : i < k
   · rw [if_pos h2,if_pos (by omega)]
   · rw [if_neg h2,if_neg (by omega)]
theorem rowO_set {w : Wld} {e P : Pos} {n r k : Nat} {v : Int} (h : offW w e P (r + 1) (cellN n k) = v) : (rowO w e P n r k).set k v = rowO w e P n r (k + 1):=by
 refine rowN_set (fun hj=>?_) fun i hi hij=>?_
 · rw [if_pos (by omega),h]
 · by_cases h2 : i < k
   · rw [if_pos h2,if_pos (by omega)]
   · rw [if_neg h2,if_neg (by omega)]
theorem rowO_at {w : Wld} {e P : Pos} {n r k : Nat} (hk : k < n * n) : elt .i64 (rowO w e P n r k) k = offW w e P r (cellN n k):=by
 unfold rowO
 rw [rowN_int hk,if_neg (by omega)]
noncomputable def rowD (w : Wld) (e P : Pos) (n r k : Nat) (hit : Bool) : List Int:=if hit = true then (rowO w e P n r k).set k (r + 1) else rowO w e P n r k
theorem rowD_len (w : Wld) (e P : Pos) (n r k : Nat) (hit : Bool) : (rowD w e P n r k hit).length = n * n:=by
 unfold rowD;split
 · rw [List.length_set];exact rowN_len _ _
 · exact rowN_len _ _
theorem rowO_len (w : Wld) (e P : Pos) (n r k : Nat) : (rowO w e P n r k).length = n * n:=rowN_len _ _
theorem rowD_test {w : Wld} {e P : Pos} {n r k : Nat} (hit : Bool) {i : Nat} (hi : i < n * n) (hk : ¬ 0 ≤ offW w e P r (cellN n k)) : elt .i64 (rowD w e P n r k hit) i = r ↔ offW w e P r (cellN n i) = r:=by
 have key : elt .i64 (rowO w e P n r k) i = r ↔ offW w e P r (cellN n i) = r:=by
   unfold rowO
   rw [rowN_int hi]
   by_cases h2 : i < k
   · rw [if_pos h2];exact off_same
   · rw [if_neg h2]
 unfold rowD
 by_cases hh : hit = true
 · rw [if_pos hh]
   by_cases hik : i = k
   · subst hik
     have h1 : elt .i64 ((rowO w e P n r i).set i (r + 1)) i = (r : Int) + 1:=by
       show (((rowO w e P n r i).set i ((r : Int) + 1))[i]?).getD _ = _
       rw [List.getElem?_set_self (by rw [rowO_len];exact hi)];rfl
     rw [h1]
     constructor
     · intro h
       have h : (r : Int) + 1 = r:=h
       omega
     · intro h;omega
   · have h1 : elt .i64 ((rowO w e P n r k).set k (r + 1)) i = elt .i64 (rowO w e P n r k) i:=by
       show (((rowO w e P n r k).set k ((r : Int) + 1))[i]?).getD _ = ((rowO w e P n r k)[i]?).getD _
       rw [List.getElem?_set_ne (by omega)]
     rw [h1];exact key
 · rw [if_neg hh];exact key
theorem rowD_set (w : Wld) (e P : Pos) (n r k : Nat) (hit : Bool) : (rowD w e P n r k hit).set k ((r : Int) + 1) = rowD w e P n r k true:=by
 unfold rowD
 rw [if_pos rfl]
 split
 · rw [List.set_set]
 · rfl
theorem rowD_end {w : Wld} {e P : Pos} {n r k : Nat} (hit : Bool) (hk : ¬ 0 ≤ offW w e P r (cellN n k)) (hc : airW w (cellN n k) ∨ cellN n k = P) (hy : hit = true → ∃ s ∈ stepsL,nextW w e P r (addP (cellN n k) s)) (hno : hit = false → ∀ s ∈ stepsL,¬ nextW w e P r (addP (cellN n k) s)) : rowD w e P n r k hit = rowO w e P n r (k + 1):=by
 unfold rowD
 cases hit with
 | true =>
   obtain ⟨s,hs,hn⟩:=hy rfl
   rw [if_pos rfl]
   exact rowO_set (off_hit hk hc hs hn)
 | false =>
   rw [if_neg (by decide)]
   refine (rowO_keep ?_).symm
   rw [off_miss hk (hno rfl)]
   rcases off_cases w e P r (cellN n k) with ⟨_,h⟩|⟨d,_,_,_,h⟩
   · rw [h]
   · omega
theorem air_of_open {w : Wld} {n : Nat} (hn : sizeN n) (hw : (n : Int) = 8 * w.size) {i : Nat} (hi : i < n * n) : openN w n i = true ↔ airW w (cellN n i):=by
 have:=idx_bd hn hi
 unfold openN airW
 rw [decide_eq_true_eq]
 constructor
 · intro h;exact ⟨this.1,this.2.2.1,by omega,by omega,h⟩
 · intro h;exact h.2.2.2.2
def askP (n : Nat) (k : Nat) (s : Pos) : Prop:=0 ≤ (cellN n k).x + s.x ∧ 0 ≤ (cellN n k).y + s.y ∧ (cellN n k).x + s.x < n ∧ (cellN n k).y + s.y < n
instance (n k : Nat) (s : Pos) : Decidable (askP n k s):=inferInstanceAs (Decidable (_ ∧ _ ∧ _ ∧ _))
open Go Go.RowKit Eng
theorem size_of {w : Wld} (hR : RW w) (h4 : w.size ≤ 4) : ∃ n : Nat,(n : Int) = 8 * w.size ∧ sizeN n:=by
 have:=hR.size
 refine ⟨(8 * w.size).toNat,by omega,?_⟩
 unfold sizeN
 omega
theorem size_sq {w : Wld} {n : Nat} (hn : (n : Int) = 8 * w.size) (hs : sizeN n) : 8 * w.size * (8 * w.size) = ((n * n : Nat) : Int) ∧ 64 ≤ n * n ∧ n * n ≤ 1024 ∧ 8 ≤ n ∧ n ≤ 32:=by
 rw [← hn]
 rcases hs with rfl|rfl|rfl|rfl<;>decide
theorem bld_idx {w : Wld} {n : Nat} (hn : (n : Int) = 8 * w.size) (hs : sizeN n) {cy cx k : Nat} (hy : 8 * cy < n) (hx : 8 * cx < n) (hk : k < 64) :
   0 ≤ ((cy : Int) * 8 + (k : Int) / 8) * (8 * w.size) ∧ ((cy : Int) * 8 + (k : Int) / 8) * (8 * w.size) ≤ 1024 ∧ ((cy : Int) * 8 + (k : Int) / 8) * (8 * w.size) + (cx : Int) * 8 + (k : Int) % 8 < ((n * n : Nat) : Int) ∧ (((cy : Int) * 8 + (k : Int) / 8) * (8 * w.size) + (cx : Int) * 8 + (k : Int) % 8).toNat = (cy * 8 + k / 8) * n + cx * 8 + k % 8:=by
 rw [← hn]
 rcases hs with rfl|rfl|rfl|rfl<;>omega
theorem bld_cell (w : Wld) {cy cx k : Nat} (hk : k < 64) : cellAt w (cx * 8 + (k : Int) % 8) (cy * 8 + (k : Int) / 8) = elt .u8 (chunkW w cx cy).1.cells k:=by
 unfold cellAt
 rw [show ((cx : Int) * 8 + (k : Int) % 8) / 8 = cx by omega,show ((cy : Int) * 8 + (k : Int) / 8) / 8 = cy by omega,show (((cy : Int) * 8 + (k : Int) / 8) % 8 * 8 + ((cx : Int) * 8 + (k : Int) % 8) % 8).toNat = k by omega]
theorem airN_len (w : Wld) (n cy cx k : Nat) : (airN w n cy cx k).length = n * n:=rowN_len _ _
theorem needN_len (n cy cx k : Nat) : (needN n cy cx k).length = n * n:=rowN_len _ _
theorem bld_air {w : Wld} {n cy cx k : Nat} (hn : sizeN n) (hy : 8 * cy < n) (hx : 8 * cx < n) (hk : k < 64) : (airN w n cy cx k).set ((cy * 8 + k / 8) * n + cx * 8 + k % 8) (elt .u8 (chunkW w cx cy).1.cells k == (0 : Int)) = airN w n cy cx (k + 1):=by
 refine airN_set hn hy hx hk ?_
 rw [bld_cell w hk]
 by_cases h : elt .u8 (chunkW w cx cy).1.cells k = (0 : Int)
 · rw [decide_eq_true h];exact beq_iff_eq.2 h
 · rw [decide_eq_false h];exact beq_eq_false_iff_ne.2 h
theorem WW_last {air : Pos → Prop} {e : Pos} : ∀ (n : Nat) (b : Pos),WW air e (n + 1) b → air e:=by
 intro n
 induction n with
 | zero=>rintro b ⟨s,_,ha,hw⟩;have h : addP b s = e:=hw;rw [h] at ha;exact ha
 | succ n ih=>rintro b ⟨s,_,_,hw⟩;exact ih _ hw
theorem cell_idx {w : Wld} {n : Nat} (hn : (n : Int) = 8 * w.size) (hs : sizeN n) {x y : Int} (hx : 0 ≤ x ∧ x < 8 * w.size) (hy : 0 ≤ y ∧ y < 8 * w.size) :
   0 ≤ y * (8 * w.size) ∧ y * (8 * w.size) ≤ 1024 ∧ 0 ≤ y * (8 * w.size) + x ∧ y * (8 * w.size) + x < ((n * n : Nat) : Int) ∧ (y * (8 * w.size) + x).toNat < n * n ∧ cellN n (y * (8 * w.size) + x).toNat = ⟨x,y⟩:=by
 rw [← hn] at *
 obtain ⟨h1,h2,h3⟩:=pos_idx hs hx hy
 refine ⟨?_,?_,h3,by omega,h1,h2⟩
 · rcases hs with rfl|rfl|rfl|rfl<;>omega
 · rcases hs with rfl|rfl|rfl|rfl<;>omega
theorem cell_div {w : Wld} {n : Nat} (hn : (n : Int) = 8 * w.size) (k : Nat) : (k : Int) % (8 * w.size) = (cellN n k).x ∧ (k : Int) / (8 * w.size) = (cellN n k).y:=by
 rw [← hn];unfold cellN;dsimp only
 exact ⟨by omega,by omega⟩
def dxL : List Int:=[-1,0,1,-1,1,-1,0,1]
def dyL : List Int:=[-1,-1,-1,0,0,1,1,1]
theorem step_xy {d : Nat} (hd : d < 8) : elt .i64 dxL d = (elt .pos stepsL d).x ∧ elt .i64 dyL d = (elt .pos stepsL d).y:=by
 have e : d = 0 ∨ d = 1 ∨ d = 2 ∨ d = 3 ∨ d = 4 ∨ d = 5 ∨ d = 6 ∨ d = 7:=by omega
 rcases e with rfl|rfl|rfl|rfl|rfl|rfl|rfl|rfl<;>exact ⟨rfl,rfl⟩
theorem step_in {d : Nat} (hd : d < 8) : elt .pos stepsL d ∈ stepsL:=elt_mem (t:=.pos) (show d < stepsL.length from hd)
theorem step_all {p : Pos → Prop} (h : ∀ d,d < 8 → p (elt .pos stepsL d)) : ∀ s ∈ stepsL,p s:=by
 intro s hs
 obtain ⟨k,hk,rfl⟩:=List.mem_iff_getElem.1 hs
 have h2:=h k hk
 have h3:=elt_get .pos stepsL k hk
 rw [List.getElem?_eq_getElem hk] at h3
 rw [Option.some.inj h3];exact h2
def posI (c : Pos) (ls : List Pos) (i : Nat) : Pos:=(ls.take i).foldl addP c
theorem posI_succ (c : Pos) {ls : List Pos} {i : Nat} (hi : i < ls.length) : posI c ls (i + 1) = addP (posI c ls i) (elt .pos ls i):=by
 unfold posI
 rw [List.take_add_one,elt_get .pos ls i hi,Option.toList_some,List.foldl_append];rfl
structure Trk (w : Wld) (e P : Pos) (d : Nat) (ls : List Pos) (i : Nat) : Prop where
 fst : fst (airW w) e (d - i) (posI P ls i)
 told : Told (airW w) e (d - i) (posI P ls i) (ls.drop i)
 air : airW w (posI P ls i) ∨ posI P ls i = P
theorem trk_zero {w : Wld} {e P : Pos} {d : Nat} {ls : List Pos} (hf : fst (airW w) e d P) (ht : Told (airW w) e d P ls) : Trk w e P d ls 0:=⟨hf,ht,.inr rfl⟩
theorem trk_step {w : Wld} {e P : Pos} {d : Nat} {ls : List Pos} {i : Nat} (h : Trk w e P d ls i) (hl : ls.length = d) (hi : i < d) :
   Trk w e P d ls (i + 1) ∧ ∃ k,k < 8 ∧ elt .pos stepsL k = elt .pos ls i ∧ ∀ j,j ≤ k → ((airW w (addP (posI P ls i) (elt .pos stepsL j)) ∧ fst (airW w) e (d - (i + 1)) (addP (posI P ls i) (elt .pos stepsL j))) ↔ j = k):=by
 have ht:=h.told
 rw [drop_elt (t:=.pos) (show i < ls.length by omega),show d - i = (d - (i + 1)) + 1 by omega] at ht
 obtain ⟨s,r,he,hn,ht2⟩:=ht
 have he1 : elt .pos ls i = s:=(List.cons.inj he).1
 have he2 : ls.drop (i + 1) = r:=(List.cons.inj he).2
 obtain ⟨k,k1,k2,k3⟩:=hn
 have hk8 : k < 8:=by
   have:=(List.getElem?_eq_some_iff.1 k1).1
   exact this
 have hk : elt .pos stepsL k = s:=by
   have:=elt_get .pos stepsL k hk8
   rw [k1] at this
   exact (Option.some.inj this).symm
 have hp : posI P ls (i + 1) = addP (posI P ls i) s:=by rw [posI_succ P (show i < ls.length by omega),he1]
 refine ⟨⟨by rw [hp];exact k2.2,by rw [hp,he2];exact ht2,.inl (by rw [hp];exact k2.1)⟩,k,hk8,by rw [hk,he1],fun j hj=>⟨fun hx=>?_,fun hx=>?_⟩⟩
 · by_cases hjk : j = k
   · exact hjk
   · exact absurd hx (k3 j (elt .pos stepsL j) (by omega) (elt_get .pos stepsL j (by show j < 8;omega)))
 · subst hx;rw [hk];exact k2
theorem at_div {w : Wld} {n : Nat} (hn : (n : Int) = 8 * w.size) (hs : sizeN n) {c : Pos} (hx : 0 ≤ c.x ∧ c.x < 8 * w.size) (hy : 0 ≤ c.y ∧ c.y < 8 * w.size) :
   (c.y * (8 * w.size) + c.x) % (8 * w.size) = c.x ∧ (c.y * (8 * w.size) + c.x) / (8 * w.size) = c.y:=by
 rw [← hn] at *
 rcases hs with rfl|rfl|rfl|rfl<;>omega
theorem off_eq {w : Wld} {e P c : Pos} {r m : Nat} (hm : m ≤ r) (hc : airW w c) : offW w e P r c = m ↔ fst (airW w) e m c:=by
 constructor
 · intro h
   rcases off_cases w e P r c with ⟨_,h2⟩|⟨d,_,_,hf,h2⟩
   · omega
   · have : d = m:=by omega
     subst this;exact hf
 · intro h;exact off_is (.inl hc) hm h
theorem grow_cmd (S : List Cmd) (z : Cmd) : List.take (S.length + (List.take 1 (List.drop 0 [z])).length) (List.take S.length S ++ List.take 1 (List.drop 0 [z])) = S ++ [z]:=by
 simp only [List.drop_zero,List.take_length]
 exact List.take_of_length_le (by simp)
theorem cmds_succ {ls : List Pos} {i : Nat} (hi : i < ls.length) : (ls.take (i + 1)).map cmdOf = (ls.take i).map cmdOf ++ [cmdOf (elt .pos ls i)]:=by
 rw [List.take_add_one,elt_get .pos ls i hi,Option.toList_some,List.map_append];rfl
end Go.Proofs.Ytchdgiooggdfeaa
