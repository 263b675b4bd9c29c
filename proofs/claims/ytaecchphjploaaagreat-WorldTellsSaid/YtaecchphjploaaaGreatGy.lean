/- homesteadref01.GetUint, GetBlob; readers of homesteadref11. -/
import Derived.Test.YtaecchphjploaaaGreatGm
import Derived.Test.YtaecchphjploaaaGreatGw
import Derived.Test.YtaecchphjploaaaGreatGn
set_option linter.unusedSimpArgs false
set_option linter.unusedVariables false
set_option maxRecDepth 100000
set_option maxHeartbeats 16000000
namespace Go.Proofs.YtaecchphjploaaaGreat
open Go Go.RowKit Eng
theorem end_lt {l : List (El .u8)} {k : Nat} (h : k < l.length) : idxGo more7 (l.drop k) 0 = (if (elt .u8 l k : Int) < 128 then 0 else if idxGo more7 (l.drop (k + 1)) 0 < 0 then -1 else idxGo more7 (l.drop (k + 1)) 0 + 1):=by
 rw [drop_elt (t:=.u8) h]
 conv=>lhs;unfold idxGo
 by_cases h1 : (elt .u8 l k : Int) < 128
 · rw [if_pos (by simp [more7,h1]),if_pos h1];rfl
 · rw [if_neg (by simp only [more7,decide_eq_true_eq];exact h1),if_neg h1,idxGo_shift]
theorem guN_ref {b : List Int} (hb : okU8 b) {pos : Nat} :
   (idxGo more7 ((b.drop pos).take 10) 0 < 0 → guN b pos = (0,0,if ((b.drop pos).take 10).length < 10 then 11 else 10)) ∧
   (0 ≤ idxGo more7 ((b.drop pos).take 10) 0 → (uintL (valF (((b.drop pos).take 10).take ((idxGo more7 ((b.drop pos).take 10) 0).toNat + 1)) % 18446744073709551616) = ((b.drop pos).take 10).take ((idxGo more7 ((b.drop pos).take 10) 0).toNat + 1) → guN b pos = (valF (((b.drop pos).take 10).take ((idxGo more7 ((b.drop pos).take 10) 0).toNat + 1)) % 18446744073709551616,pos + ((idxGo more7 ((b.drop pos).take 10) 0).toNat + 1),0)) ∧
     (¬ uintL (valF (((b.drop pos).take 10).take ((idxGo more7 ((b.drop pos).take 10) 0).toNat + 1)) % 18446744073709551616) = ((b.drop pos).take 10).take ((idxGo more7 ((b.drop pos).take 10) 0).toNat + 1) → guN b pos = (0,0,10))):=by
 have hG:=getF_take 9 (b.drop pos)
 have h8 : okU8 ((b.drop pos).take 10):=fun i hi=>hb i (List.mem_of_mem_drop (List.mem_of_mem_take hi))
 have hi:=getF_idx 9 ((b.drop pos).take 10) h8 (by rw [List.length_take];omega)
 rw [hG] at hi
 have hlt:=idxGo_lt more7 ((b.drop pos).take 10) 0
 unfold guN errU
 have hgu:=fun n k=>uintF_getF 9 ((b.drop pos).take 10) n k h8
 have hug:=fun n r h=>getF_uintF 9 n r h
 rw [show getF 9 ((b.drop pos).take 10) = getF 9 (b.drop pos) from hG] at hgu
 generalize hL : (b.drop pos).take 10 = L at *
 generalize hI : idxGo more7 L 0 = I at *
 refine ⟨fun c1=>?_,fun c1=>⟨fun c2=>?_,fun c2=>?_⟩⟩
 · rw [if_pos c1] at hi
   rw [hi]
   dsimp only
   by_cases c3 : L.length < 10
   · rw [if_pos ⟨c1,c3⟩,if_pos c3]
   · rw [if_neg fun h=>c3 h.2,if_neg c3]
 · have c4 : L = uintL (valF (L.take (I.toNat + 1)) % 18446744073709551616) ++ L.drop (I.toNat + 1):=by rw [c2,List.take_append_drop]
   have c5:=hug (valF (L.take (I.toNat + 1)) % 18446744073709551616) (L.drop (I.toNat + 1)) (by show _ < 18446744073709551616;exact Nat.mod_lt _ (by decide))
   rw [show uintF 9 (valF (L.take (I.toNat + 1)) % 18446744073709551616) ++ L.drop (I.toNat + 1) = L from c4.symm] at c5
   have c6 : getF 9 L = getF 9 (b.drop pos):=hG
   rw [← c6,c5]
   have c7 : (uintF 9 (valF (L.take (I.toNat + 1)) % 18446744073709551616)).length = I.toNat + 1:=by
     show (uintL _).length = _
     rw [c2,List.length_take];omega
   dsimp only
   rw [c7]
 · have hn : getF 9 (b.drop pos) = none:=by
     cases hg : getF 9 (b.drop pos) with
     | none=>rfl
     | some p =>
       obtain ⟨n,k⟩:=p
       obtain ⟨d1,d2,d3,d4⟩:=hgu n k hg
       rw [hg,if_neg (by omega)] at hi
       split at hi
       · cases hi
       · have e:=Option.some.inj hi
         have e1:=congrArg Prod.fst e
         have e2:=congrArg Prod.snd e
         dsimp only at e1 e2
         exfalso
         apply c2
         rw [← e1,Nat.mod_eq_of_lt (by exact d4),← e2]
         exact d1.symm
   rw [hn,if_neg fun h=>absurd h.1 (by omega)]
theorem wrapU64 (z : Int) : IntKind.u64.wrap z = z % 18446744073709551616:=by
 simp only [IntKind.wrap,IntKind.bits,IntKind.signed]
 simp
theorem qdM {a b : Int} {c d : Prop} (ha : 0 ≤ a) (k : c) (hb : 0 < b:=by omega) : (0 ≤ a ∧ 0 < b ∧ c) ∨ d:=.inl ⟨ha,hb,k⟩
theorem w64K {n : Int} {c d : Prop} (h : d) : (inR .u64 n ∧ c) ∨ d:=.inr h
theorem r01equal_api (a b : List (El .u8)) (ha : okU8 a) (hc : okU8 b) : Api Tryz.prog 184 [.vec .u8 a,.vec .u8 b] (bol (eqL a b)):=by
 refine Api.of_fin cfg_ok Tryz.func184 rfl (nt:=8) rfl rfl ?_
 ((repeat (first|(with_reducible refine evCut fun N hN hE hT=>?_)|(with_reducible refine evBlk fun N hN hE hT=>?_)));(try with_reducible refine evCnd fun X Y hX hY=>?_);(conv=>whnf))
 repeat' (first|exact trivial|((first|((first|refine hT _ _ ?_|refine hE _ _ _ ?_|refine hN _ _ ?_);clear hN hE hT)|((first|refine hX ?_|refine hY ?_);clear hX hY)|refine kL ?_|(refine ⟨fun hb=>?_,fun hb=>?_⟩<;>(try simp only [nrm] at hb)<;>(try (first|(exfalso;omega)|contradiction|exact kB hb)))|refine kW cfg_ok ?_|refine kC ?_|refine bdA ?_|refine bd2 ?_|refine bdR ?_|refine bdL ?_)<;>((repeat (first|(with_reducible refine evCut fun N hN hE hT=>?_)|(with_reducible refine evBlk fun N hN hE hT=>?_)));(try with_reducible refine evCnd fun X Y hX hY=>?_);(conv=>whnf)))|(refine And.intro ?_ ?_;rotate_left;(conv=>whnf);rotate_right))
 all_goals first|exact congrArg Value.bool (strOf_eq ha hc)|trace_state
theorem r01getU_api (b : List (El .u8)) (pos : Nat) (h8 : okU8 b) (hl : b.length ≤ 1000000000000) (hp : pos ≤ b.length) (R : Nat × Nat × Int) (hR : guN b pos = R) : Api Tryz.prog 156 [.vec .u8 b,i64 pos] (.tup [.lit (.int .u64 R.1),i64 R.2.1,i64 R.2.2]):=by
 obtain ⟨g1,g2⟩:=guN_ref h8 (pos:=pos)
 rw [hR] at g1 g2
 have hRl : ((b.drop pos).take 10).length = min 10 (b.length - pos):=by rw [List.length_take,List.length_drop]
 have hLe : ∀ k,k < ((b.drop pos).take 10).length → elt .u8 ((b.drop pos).take 10) k = elt .u8 b (pos + k):=fun k hk=>by
   have h1:=elt_get .u8 ((b.drop pos).take 10) k hk
   rw [List.getElem?_take,if_pos (by omega),List.getElem?_drop,elt_get .u8 b (pos + k) (by omega)] at h1
   exact (Option.some.inj h1).symm
 have hend:=fun k hk=>end_lt (l:=(b.drop pos).take 10) (k:=k) hk
 have hcut : ∀ k,pos + k < b.length → k < 10 → (b.drop (pos : Int).toNat).take (((pos + k : Nat) : Int) + 1 - pos).toNat = ((b.drop pos).take 10).take (k + 1):=fun k hk hk2=>by
   rw [Int.toNat_natCast,show (((pos + k : Nat) : Int) + 1 - pos).toNat = k + 1 by omega,List.take_take,Nat.min_eq_left (by omega)]
 have hD8 : ∀ k,okU8 (((b.drop pos).take 10).take (k + 1)):=fun k i hi=>h8 i (List.mem_of_mem_drop (List.mem_of_mem_take (List.mem_of_mem_take hi)))
 generalize (b.drop pos).take 10 = L at *
 clear hR
 refine Api.of_fin cfg_ok Tryz.func156 rfl (nt:=71) rfl rfl ?_
 ((repeat (first|(with_reducible refine evCut fun N hN hE hT=>?_)|(with_reducible refine evBlk fun N hN hE hT=>?_)));(try with_reducible refine evCnd fun X Y hX hY=>?_);(conv=>whnf))
 repeat' (first|exact trivial|((first|((first|refine hT _ _ ?_|refine hE _ _ _ ?_|refine hN _ _ ?_);clear hN hE hT)|((first|refine hX ?_|refine hY ?_);clear hX hY)|refine kL ?_|(refine ⟨fun hb=>?_,fun hb=>?_⟩<;>(try simp only [nrm] at hb)<;>(try (first|(exfalso;omega)|contradiction|exact kB hb)))|refine kW cfg_ok ?_|refine kC ?_|refine bdA ?_|refine bd2 ?_|refine bdR ?_|refine bdL ?_)<;>((repeat (first|(with_reducible refine evCut fun N hN hE hT=>?_)|(with_reducible refine evBlk fun N hN hE hT=>?_)));(try with_reducible refine evCnd fun X Y hX hY=>?_);(conv=>whnf)))|(refine And.intro ?_ ?_;rotate_left;(conv=>whnf);rotate_right))
 refine Runs.loopS cfg_ok (σ:=Nat) [0,1,7] (fun k=>[.vec .u8 b,i64 pos,i64 ((pos + k : Nat) : Int)]) (fun _=>[]) (fun k=>k ≤ L.length ∧ idxGo more7 L 0 = if idxGo more7 (L.drop k) 0 < 0 then -1 else idxGo more7 (L.drop k) 0 + k) (fun k=>10 - k) 0 ⟨Nat.zero_le _,by rw [List.drop_zero];have:=(idxGo_lt more7 L 0).2.2;split<;>omega⟩ ?_ ?_
 · conv=>whnf
   repeat' (first|exact trivial|((first|((first|refine hT _ _ ?_|refine hE _ _ _ ?_|refine hN _ _ ?_);clear hN hE hT)|((first|refine hX ?_|refine hY ?_);clear hX hY)|refine kL ?_|(refine ⟨fun hb=>?_,fun hb=>?_⟩<;>(try simp only [nrm] at hb)<;>(try (first|(exfalso;omega)|contradiction|exact kB hb)))|refine kW cfg_ok ?_|refine kC ?_|refine bdA ?_|refine bd2 ?_|refine bdR ?_|refine bdL ?_)<;>((repeat (first|(with_reducible refine evCut fun N hN hE hT=>?_)|(with_reducible refine evBlk fun N hN hE hT=>?_)));(try with_reducible refine evCnd fun X Y hX hY=>?_);(conv=>whnf)))|(refine And.intro ?_ ?_;rotate_left;(conv=>whnf);rotate_right))
 · rintro k ⟨hk,hI⟩
   by_cases hlt : pos + k < b.length
   · obtain ⟨F,hF⟩ : ∃ F : Int,elt .u8 b ((pos + k : Nat) : Int).toNat = F:=⟨_,rfl⟩
     have hFm : 0 ≤ F ∧ F ≤ 255:=by rw [← hF];exact h8 _ (elt_mem (t:=.u8) (by omega))
     have hF2 : elt .u8 b (pos + k) = F:=hF
     by_cases hk10 : k < 10
     · have he:=hend k (by omega)
       rw [hLe k (by omega),hF2] at he
       by_cases hF7 : F < 128
       · rw [if_pos hF7] at he
         rw [he,if_neg (by omega)] at hI
         have hI2 : idxGo more7 L 0 = k:=by omega
         clear hI he
         have c3:=g2 (by omega)
         rw [hI2,Int.toNat_natCast] at c3
         clear g1 g2
         have hc:=hcut k hlt hk10
         have hd8:=hD8 k
         have hDl : (L.take (k + 1)).length = k + 1:=by rw [List.length_take];omega
         have hDe : ∀ j,j < k + 1 → elt .u8 (L.take (k + 1)) j = elt .u8 b (pos + j):=fun j hj=>by
           rw [← hLe j (by omega)]
           have h1:=elt_get .u8 (L.take (k + 1)) j (by omega)
           rw [List.getElem?_take,if_pos (by omega),elt_get .u8 L j (by omega)] at h1
           exact (Option.some.inj h1).symm
         clear hcut hD8 hLe hend hI2
         generalize L.take (k + 1) = D at hc hd8 hDl hDe c3
         have hv:=r01varint 9 (Nat.le_refl 9) (valF D % 18446744073709551616) (Nat.lt_of_lt_of_le (Nat.mod_lt _ (by decide)) (by decide)) (Nat.mod_lt _ (by decide))
         have hu8 : okU8 (uintL (valF D % 18446744073709551616)):=u8_uintF 9 _ (Nat.lt_of_lt_of_le (Nat.mod_lt _ (by decide)) (by decide))
         have hq:=r01equal_api (uintL (valF D % 18446744073709551616)) D hu8 hd8
         change Api _ _ _ (.vec .u8 (uintL (valF D % 18446744073709551616))) at hv
         have hEq : eqL (uintL (valF D % 18446744073709551616)) D = true ∨ eqL (uintL (valF D % 18446744073709551616)) D = false:=by cases eqL (uintL (valF D % 18446744073709551616)) D<;>simp
         have w1 : eqL (uintL (valF D % 18446744073709551616)) D = true → R = (valF D % 18446744073709551616,pos + (k + 1),0):=fun h=>c3.1 (of_decide_eq_true h)
         have w2 : eqL (uintL (valF D % 18446744073709551616)) D = false → R = (0,0,10):=fun h=>c3.2 (of_decide_eq_false h)
         clear c3
         generalize eqL (uintL (valF D % 18446744073709551616)) D = Q at hq hEq w1 w2
         generalize uintL (valF D % 18446744073709551616) = U at hq hv hu8
         conv=>whnf
         repeat' (first|exact trivial|((first|((first|refine hT _ _ ?_|refine hE _ _ _ ?_|refine hN _ _ ?_);clear hN hE hT)|((first|refine hX ?_|refine hY ?_);clear hX hY)|refine kL ?_|(refine ⟨fun hb=>?_,fun hb=>?_⟩<;>(try simp only [nrm] at hb)<;>(try (first|(exfalso;omega)|contradiction|exact kB hb)))|(rw [hF])|refine kW cfg_ok ?_|refine kC ?_|refine bdA ?_|refine bd2 ?_|refine bdR ?_|refine bdL ?_)<;>((repeat (first|(with_reducible refine evCut fun N hN hE hT=>?_)|(with_reducible refine evBlk fun N hN hE hT=>?_)));(try with_reducible refine evCnd fun X Y hX hY=>?_);(conv=>whnf)))|(refine And.intro ?_ ?_;rotate_left;(conv=>whnf);rotate_right))
         refine Runs.loopS cfg_ok (σ:=Nat) [0,1,7,8,9] (fun j=>[.vec .u8 b,i64 pos,i64 ((pos + k : Nat) : Int),.lit (.int .u64 ((valF (D.drop j) % 18446744073709551616 : Nat) : Int)),i64 ((pos : Int) + j - 1)]) (fun _=>[]) (fun j=>j ≤ k + 1) (fun j=>j) (k + 1) (Nat.le_refl _) ?_ ?_
         · conv=>whnf
           repeat' (first|exact trivial|((first|((first|refine hT _ _ ?_|refine hE _ _ _ ?_|refine hN _ _ ?_);clear hN hE hT)|((first|refine hX ?_|refine hY ?_);clear hX hY)|refine kL ?_|(refine ⟨fun hb=>?_,fun hb=>?_⟩<;>(try simp only [nrm] at hb)<;>(try (first|(exfalso;omega)|contradiction|exact kB hb)))|refine kW cfg_ok ?_|refine kC ?_|refine bdA ?_|refine bd2 ?_|refine bdR ?_|refine bdL ?_)<;>((repeat (first|(with_reducible refine evCut fun N hN hE hT=>?_)|(with_reducible refine evBlk fun N hN hE hT=>?_)));(try with_reducible refine evCnd fun X Y hX hY=>?_);(conv=>whnf)))|(refine And.intro ?_ ?_;rotate_left;(conv=>whnf);rotate_right))
           all_goals first|(rw [List.drop_of_length_le (by omega)];rfl)|exact congrArg (Value.int _) (by omega)|trace_state
         · intro j hj
           cases j with
           | zero =>
             rw [List.drop_zero]
             rcases hEq with hEq|hEq
             · have hRv:=w1 hEq
               rw [hEq] at hq
               conv=>whnf
               repeat' (first|exact trivial|((first|((first|refine hT _ _ ?_|refine hE _ _ _ ?_|refine hN _ _ ?_);clear hN hE hT)|((first|refine hX ?_|refine hY ?_);clear hX hY)|refine kL ?_|(refine ⟨fun hb=>?_,fun hb=>?_⟩<;>(try simp only [nrm] at hb)<;>(try (first|(exfalso;omega)|contradiction|exact kB hb)))|(rw [hc])|refine kA hv ?_|refine kD hv ?_|refine kA hq ?_|refine kD hq ?_|refine kW cfg_ok ?_|refine kC ?_|refine bdA ?_|refine bd2 ?_|refine bdR ?_|refine bdL ?_)<;>((repeat (first|(with_reducible refine evCut fun N hN hE hT=>?_)|(with_reducible refine evBlk fun N hN hE hT=>?_)));(try with_reducible refine evCnd fun X Y hX hY=>?_);(conv=>whnf)))|(refine And.intro ?_ ?_;rotate_left;(conv=>whnf);rotate_right))
               all_goals first|(rw [hRv];done)|(rw [hRv];rfl)|(rw [hRv];exact congrArg (Value.int _) (by first|omega|(dsimp only;omega)))|trace_state
             · have hRv:=w2 hEq
               rw [hEq] at hq
               conv=>whnf
               repeat' (first|exact trivial|((first|((first|refine hT _ _ ?_|refine hE _ _ _ ?_|refine hN _ _ ?_);clear hN hE hT)|((first|refine hX ?_|refine hY ?_);clear hX hY)|refine kL ?_|(refine ⟨fun hb=>?_,fun hb=>?_⟩<;>(try simp only [nrm] at hb)<;>(try (first|(exfalso;omega)|contradiction|exact kB hb)))|(rw [hc])|refine kA hv ?_|refine kD hv ?_|refine kA hq ?_|refine kD hq ?_|refine kW cfg_ok ?_|refine kC ?_|refine bdA ?_|refine bd2 ?_|refine bdR ?_|refine bdL ?_)<;>((repeat (first|(with_reducible refine evCut fun N hN hE hT=>?_)|(with_reducible refine evBlk fun N hN hE hT=>?_)));(try with_reducible refine evCnd fun X Y hX hY=>?_);(conv=>whnf)))|(refine And.intro ?_ ?_;rotate_left;(conv=>whnf);rotate_right))
               all_goals first|(rw [hRv];done)|(rw [hRv];rfl)|(rw [hRv];exact congrArg (Value.int _) (by first|omega|(dsimp only;omega)))|trace_state
           | succ j =>
             have hd:=valF_drop (l:=D) (j:=j) (by omega)
             have hEj : elt .u8 b ((pos : Int) + ((j + 1 : Nat) : Int) - 1).toNat = elt .u8 D j:=by rw [hDe j (by omega)];exact congrArg (elt .u8 b) (by omega)
             have hGm : 0 ≤ (elt .u8 D j : Int) ∧ (elt .u8 D j : Int) ≤ 255:=hd8 _ (elt_mem (t:=.u8) (by omega))
             generalize (elt .u8 D j : Int) = G at hd hEj hGm
             have hs : ((valF (D.drop j) % 18446744073709551616 : Nat) : Int) = IntKind.u64.wrap (IntKind.u64.wrap (((valF (D.drop (j + 1)) % 18446744073709551616 : Nat) : Int) * 128) + G % 128):=by
               rw [wrapU64,wrapU64,hd];omega
             have hs2 : ((valF (D.drop j) % 18446744073709551616 : Nat) : Int) = IntKind.u64.wrap (((valF (D.drop (j + 1)) % 18446744073709551616 : Nat) : Int) * 128 + G % 128):=by
               rw [wrapU64,hd];omega
             generalize valF (D.drop (j + 1)) % 18446744073709551616 = V at hs hs2 ⊢
             conv=>whnf
             repeat' (first|exact trivial|((first|((first|refine hT _ _ ?_|refine hE _ _ _ ?_|refine hN _ _ ?_);clear hN hE hT)|((first|refine hX ?_|refine hY ?_);clear hX hY)|refine kL ?_|(refine ⟨fun hb=>?_,fun hb=>?_⟩<;>(try simp only [nrm] at hb)<;>(try (first|(exfalso;omega)|contradiction|exact kB hb)))|(rw [hEj])|(refine qdM hGm.1 ?_)|(refine w64K ?_)|refine kW cfg_ok ?_|refine kC ?_|refine bdA ?_|refine bd2 ?_|refine bdR ?_|refine bdL ?_)<;>((repeat (first|(with_reducible refine evCut fun N hN hE hT=>?_)|(with_reducible refine evBlk fun N hN hE hT=>?_)));(try with_reducible refine evCnd fun X Y hX hY=>?_);(conv=>whnf)))|(refine And.intro ?_ ?_;rotate_left;(conv=>whnf);rotate_right))
             refine .to j (by omega) (by omega) ?_
             conv=>whnf
             repeat' (first|exact trivial|((first|((first|refine hT _ _ ?_|refine hE _ _ _ ?_|refine hN _ _ ?_);clear hN hE hT)|((first|refine hX ?_|refine hY ?_);clear hX hY)|refine kL ?_|(refine ⟨fun hb=>?_,fun hb=>?_⟩<;>(try simp only [nrm] at hb)<;>(try (first|(exfalso;omega)|contradiction|exact kB hb)))|refine kW cfg_ok ?_|refine kC ?_|refine bdA ?_|refine bd2 ?_|refine bdR ?_|refine bdL ?_)<;>((repeat (first|(with_reducible refine evCut fun N hN hE hT=>?_)|(with_reducible refine evBlk fun N hN hE hT=>?_)));(try with_reducible refine evCnd fun X Y hX hY=>?_);(conv=>whnf)))|(refine And.intro ?_ ?_;rotate_left;(conv=>whnf);rotate_right))
             all_goals first|rfl|exact congrArg (Value.int _) (by omega)|exact congrArg (Value.int .u64) hs.symm|exact congrArg (Value.int .u64) hs2.symm|trace_state
       · rw [if_neg hF7] at he
         have hI3 : idxGo more7 L 0 = if idxGo more7 (L.drop (k + 1)) 0 < 0 then -1 else idxGo more7 (L.drop (k + 1)) 0 + ((k + 1 : Nat) : Int):=by
           rw [hI,he]
           have:=(idxGo_lt more7 (L.drop (k + 1)) 0).2.2
           split<;>split<;>(try split at *)<;>omega
         conv=>whnf
         repeat' (first|exact trivial|((first|((first|refine hT _ _ ?_|refine hE _ _ _ ?_|refine hN _ _ ?_);clear hN hE hT)|((first|refine hX ?_|refine hY ?_);clear hX hY)|refine kL ?_|(refine ⟨fun hb=>?_,fun hb=>?_⟩<;>(try simp only [nrm] at hb)<;>(try (first|(exfalso;omega)|contradiction|exact kB hb)))|(rw [hF])|refine kW cfg_ok ?_|refine kC ?_|refine bdA ?_|refine bd2 ?_|refine bdR ?_|refine bdL ?_)<;>((repeat (first|(with_reducible refine evCut fun N hN hE hT=>?_)|(with_reducible refine evBlk fun N hN hE hT=>?_)));(try with_reducible refine evCnd fun X Y hX hY=>?_);(conv=>whnf)))|(refine And.intro ?_ ?_;rotate_left;(conv=>whnf);rotate_right))
         refine .to (k + 1) ⟨by omega,hI3⟩ (by omega) ?_
         conv=>whnf
         repeat' (first|exact trivial|((first|((first|refine hT _ _ ?_|refine hE _ _ _ ?_|refine hN _ _ ?_);clear hN hE hT)|((first|refine hX ?_|refine hY ?_);clear hX hY)|refine kL ?_|(refine ⟨fun hb=>?_,fun hb=>?_⟩<;>(try simp only [nrm] at hb)<;>(try (first|(exfalso;omega)|contradiction|exact kB hb)))|refine kW cfg_ok ?_|refine kC ?_|refine bdA ?_|refine bd2 ?_|refine bdR ?_|refine bdL ?_)<;>((repeat (first|(with_reducible refine evCut fun N hN hE hT=>?_)|(with_reducible refine evBlk fun N hN hE hT=>?_)));(try with_reducible refine evCnd fun X Y hX hY=>?_);(conv=>whnf)))|(refine And.intro ?_ ?_;rotate_left;(conv=>whnf);rotate_right))
     · have hk' : k = 10:=by omega
       rw [List.drop_of_length_le (by omega)] at hI
       have hRv:=g1 (by rw [hI];simp [idxGo])
       rw [if_neg (by omega)] at hRv
       conv=>whnf
       repeat' (first|exact trivial|((first|((first|refine hT _ _ ?_|refine hE _ _ _ ?_|refine hN _ _ ?_);clear hN hE hT)|((first|refine hX ?_|refine hY ?_);clear hX hY)|refine kL ?_|(refine ⟨fun hb=>?_,fun hb=>?_⟩<;>(try simp only [nrm] at hb)<;>(try (first|(exfalso;omega)|contradiction|exact kB hb)))|(rw [hF])|refine kW cfg_ok ?_|refine kC ?_|refine bdA ?_|refine bd2 ?_|refine bdR ?_|refine bdL ?_)<;>((repeat (first|(with_reducible refine evCut fun N hN hE hT=>?_)|(with_reducible refine evBlk fun N hN hE hT=>?_)));(try with_reducible refine evCnd fun X Y hX hY=>?_);(conv=>whnf)))|(refine And.intro ?_ ?_;rotate_left;(conv=>whnf);rotate_right))
       all_goals first|(rw [hRv];done)|(rw [hRv];rfl)|trace_state
   · rw [List.drop_of_length_le (by omega)] at hI
     have hRv:=g1 (by rw [hI];simp [idxGo])
     by_cases hk10 : k < 10
     · rw [if_pos (by omega)] at hRv
       conv=>whnf
       repeat' (first|exact trivial|((first|((first|refine hT _ _ ?_|refine hE _ _ _ ?_|refine hN _ _ ?_);clear hN hE hT)|((first|refine hX ?_|refine hY ?_);clear hX hY)|refine kL ?_|(refine ⟨fun hb=>?_,fun hb=>?_⟩<;>(try simp only [nrm] at hb)<;>(try (first|(exfalso;omega)|contradiction|exact kB hb)))|refine kW cfg_ok ?_|refine kC ?_|refine bdA ?_|refine bd2 ?_|refine bdR ?_|refine bdL ?_)<;>((repeat (first|(with_reducible refine evCut fun N hN hE hT=>?_)|(with_reducible refine evBlk fun N hN hE hT=>?_)));(try with_reducible refine evCnd fun X Y hX hY=>?_);(conv=>whnf)))|(refine And.intro ?_ ?_;rotate_left;(conv=>whnf);rotate_right))
       all_goals first|(rw [hRv];done)|(rw [hRv];rfl)|trace_state
     · rw [if_neg (by omega)] at hRv
       conv=>whnf
       repeat' (first|exact trivial|((first|((first|refine hT _ _ ?_|refine hE _ _ _ ?_|refine hN _ _ ?_);clear hN hE hT)|((first|refine hX ?_|refine hY ?_);clear hX hY)|refine kL ?_|(refine ⟨fun hb=>?_,fun hb=>?_⟩<;>(try simp only [nrm] at hb)<;>(try (first|(exfalso;omega)|contradiction|exact kB hb)))|refine kW cfg_ok ?_|refine kC ?_|refine bdA ?_|refine bd2 ?_|refine bdR ?_|refine bdL ?_)<;>((repeat (first|(with_reducible refine evCut fun N hN hE hT=>?_)|(with_reducible refine evBlk fun N hN hE hT=>?_)));(try with_reducible refine evCnd fun X Y hX hY=>?_);(conv=>whnf)))|(refine And.intro ?_ ?_;rotate_left;(conv=>whnf);rotate_right))
       all_goals first|(rw [hRv];done)|(rw [hRv];rfl)|trace_state
theorem r01getB_api (b : List (El .u8)) (pos most : Nat) (h8 : okU8 b) (hl : b.length ≤ 1000000000000) (hp : pos ≤ b.length) (hm : most ≤ 1000000000000) (R : List (El .u8) × Nat × Int) (hR : gbN b pos most = R) : Api Tryz.prog 90 [.vec .u8 b,i64 pos,i64 most] (.tup [.vec .u8 R.1,i64 R.2.1,i64 R.2.2]):=by
 have hu:=r01getU_api b pos h8 hl hp _ rfl
 obtain ⟨h1,h2⟩:=guN_le h8 hp
 unfold gbN at hR
 generalize guN b pos = G at *
 obtain ⟨n,f,e⟩:=G
 dsimp only at *
 have W1 : ¬ e = 0 → R = ([],0,e):=fun h=>by rw [← hR,if_pos h]
 have W2 : e = 0 → most < n → R = ([],0,3):=fun h1 h2=>by rw [← hR,if_neg (not_not_intro h1),if_pos h2]
 have W3 : e = 0 → ¬ most < n → b.length - f < n → R = ([],0,11):=fun h1 h2 h3=>by rw [← hR,if_neg (not_not_intro h1),if_neg h2,if_pos h3]
 have W4 : e = 0 → ¬ most < n → ¬ b.length - f < n → R = ((b.drop f).take n,f + n,0):=fun h1 h2 h3=>by rw [← hR,if_neg (not_not_intro h1),if_neg h2,if_neg h3]
 clear hR
 have hc:=r01beh_nil ((b.drop (f : Int).toNat).take (((f : Int) + n) - f).toNat) (by rw [List.length_take,List.length_drop];omega)
 by_cases c1 : e = 0
 · by_cases c2 : most < n
   · rw [W2 c1 c2]
     subst c1
     refine Api.of_fin cfg_ok Tryz.func90 rfl (nt:=53) rfl rfl ?_
     ((repeat (first|(with_reducible refine evCut fun N hN hE hT=>?_)|(with_reducible refine evBlk fun N hN hE hT=>?_)));(try with_reducible refine evCnd fun X Y hX hY=>?_);(conv=>whnf))
     repeat' (first|exact trivial|((first|((first|refine hT _ _ ?_|refine hE _ _ _ ?_|refine hN _ _ ?_);clear hN hE hT)|((first|refine hX ?_|refine hY ?_);clear hX hY)|refine kL ?_|(refine ⟨fun hb=>?_,fun hb=>?_⟩<;>(try simp only [nrm] at hb)<;>(try (first|(exfalso;omega)|contradiction|exact kB hb)))|refine kA hu ?_|refine kD hu ?_|refine kW cfg_ok ?_|refine kC ?_|refine bdA ?_|refine bd2 ?_|refine bdR ?_|refine bdL ?_)<;>((repeat (first|(with_reducible refine evCut fun N hN hE hT=>?_)|(with_reducible refine evBlk fun N hN hE hT=>?_)));(try with_reducible refine evCnd fun X Y hX hY=>?_);(conv=>whnf)))|(refine And.intro ?_ ?_;rotate_left;(conv=>whnf);rotate_right))
   · by_cases c3 : b.length - f < n
     · rw [W3 c1 c2 c3]
       subst c1
       refine Api.of_fin cfg_ok Tryz.func90 rfl (nt:=53) rfl rfl ?_
       ((repeat (first|(with_reducible refine evCut fun N hN hE hT=>?_)|(with_reducible refine evBlk fun N hN hE hT=>?_)));(try with_reducible refine evCnd fun X Y hX hY=>?_);(conv=>whnf))
       repeat' (first|exact trivial|((first|((first|refine hT _ _ ?_|refine hE _ _ _ ?_|refine hN _ _ ?_);clear hN hE hT)|((first|refine hX ?_|refine hY ?_);clear hX hY)|refine kL ?_|(refine ⟨fun hb=>?_,fun hb=>?_⟩<;>(try simp only [nrm] at hb)<;>(try (first|(exfalso;omega)|contradiction|exact kB hb)))|refine kA hu ?_|refine kD hu ?_|refine kW cfg_ok ?_|refine kC ?_|refine bdA ?_|refine bd2 ?_|refine bdR ?_|refine bdL ?_)<;>((repeat (first|(with_reducible refine evCut fun N hN hE hT=>?_)|(with_reducible refine evBlk fun N hN hE hT=>?_)));(try with_reducible refine evCnd fun X Y hX hY=>?_);(conv=>whnf)))|(refine And.intro ?_ ?_;rotate_left;(conv=>whnf);rotate_right))
     · rw [W4 c1 c2 c3]
       subst c1
       refine Api.of_fin cfg_ok Tryz.func90 rfl (nt:=53) rfl rfl ?_
       ((repeat (first|(with_reducible refine evCut fun N hN hE hT=>?_)|(with_reducible refine evBlk fun N hN hE hT=>?_)));(try with_reducible refine evCnd fun X Y hX hY=>?_);(conv=>whnf))
       repeat' (first|exact trivial|((first|((first|refine hT _ _ ?_|refine hE _ _ _ ?_|refine hN _ _ ?_);clear hN hE hT)|((first|refine hX ?_|refine hY ?_);clear hX hY)|refine kL ?_|(refine ⟨fun hb=>?_,fun hb=>?_⟩<;>(try simp only [nrm] at hb)<;>(try (first|(exfalso;omega)|contradiction|exact kB hb)))|refine kE hc [(390001,150001)] rfl ?_|refine kF hc [(390001,150001)] rfl ?_|refine kA hu ?_|refine kD hu ?_|refine kW cfg_ok ?_|refine kC ?_|refine bdA ?_|refine bd2 ?_|refine bdR ?_|refine bdL ?_)<;>((repeat (first|(with_reducible refine evCut fun N hN hE hT=>?_)|(with_reducible refine evBlk fun N hN hE hT=>?_)));(try with_reducible refine evCnd fun X Y hX hY=>?_);(conv=>whnf)))|(refine And.intro ?_ ?_;rotate_left;(conv=>whnf);rotate_right))
       all_goals first|rfl|(show List.take (List.take ((f : Int) + n - f).toNat (List.drop (f : Int).toNat b)).length (List.drop 0 (List.take ((f : Int) + n - f).toNat (List.drop (f : Int).toNat b))) = List.take n (List.drop f b);rw [List.drop_zero,List.take_length,show ((f : Int) + n - f).toNat = n by omega,Int.toNat_natCast])|trace_state
 · rw [W1 c1]
   refine Api.of_fin cfg_ok Tryz.func90 rfl (nt:=53) rfl rfl ?_
   ((repeat (first|(with_reducible refine evCut fun N hN hE hT=>?_)|(with_reducible refine evBlk fun N hN hE hT=>?_)));(try with_reducible refine evCnd fun X Y hX hY=>?_);(conv=>whnf))
   repeat' (first|exact trivial|((first|((first|refine hT _ _ ?_|refine hE _ _ _ ?_|refine hN _ _ ?_);clear hN hE hT)|((first|refine hX ?_|refine hY ?_);clear hX hY)|refine kL ?_|(refine ⟨fun hb=>?_,fun hb=>?_⟩<;>(try simp only [nrm] at hb)<;>(try (first|(exfalso;omega)|contradiction|exact kB hb)))|refine kA hu ?_|refine kD hu ?_|refine kW cfg_ok ?_|refine kC ?_|refine bdA ?_|refine bd2 ?_|refine bdR ?_|refine bdL ?_)<;>((repeat (first|(with_reducible refine evCut fun N hN hE hT=>?_)|(with_reducible refine evBlk fun N hN hE hT=>?_)));(try with_reducible refine evCnd fun X Y hX hY=>?_);(conv=>whnf)))|(refine And.intro ?_ ?_;rotate_left;(conv=>whnf);rotate_right))
open Go Go.RowKit Eng
def atI (s : Rd) : Int:=if s.bad = true then -1 else s.pos
theorem atI_ways (s : Rd) : (s.bad = true ∧ atI s = -1) ∨ (s.bad = false ∧ atI s = s.pos):=by
 unfold atI
 cases h : s.bad
 · right;simp
 · left;simp
def slotE (b : List Int) (s : Rd) : Slot × Rd:=
 (⟨(numI b 1000 s).1 % 256,(numI b 1000 (numI b 1000 s).2).1⟩,if 255 < (numI b 1000 s).1 then ⟨(numI b 1000 (numI b 1000 s).2).2.pos,true⟩ else (numI b 1000 (numI b 1000 s).2).2)
def heapE (b : List Int) (s : Rd) : Heap × Rd:=(⟨(numI b 1000 s).1,(slotE b (numI b 1000 s).2).1⟩,(slotE b (numI b 1000 s).2).2)
structure Rel {α : Type} (f g : Rd → α × Rd) : Prop where
 fine : ∀ s,(f s).2.bad = false → f s = g s
 bad : ∀ s,(f s).2.bad = true → (g s).2.bad = true
theorem numI_255 {b : List Int} {s : Rd} : (255 < (numI b 1000 s).1 → (numI b 255 s).2.bad = true) ∧ ((numI b 1000 s).1 ≤ 255 → numI b 255 s = numI b 1000 s):=by
 cases hs : s.bad with
 | true =>
   rw [numI_bad hs,numI_bad hs]
   exact ⟨fun h=>absurd h (by show ¬ (255 : Int) < 0;omega),fun _=>rfl⟩
 | false =>
   rw [numI_gu hs,numI_gu hs]
   by_cases h1 : (guN b s.pos).2.2 = 0 ∧ (guN b s.pos).1 ≤ 1000
   · rw [if_pos h1]
     dsimp only
     refine ⟨fun h=>?_,fun h=>?_⟩
     · rw [if_neg (by omega)]
     · rw [if_pos (by omega)]
   · rw [if_neg h1]
     refine ⟨fun h=>absurd h (by show ¬ (255 : Int) < 0;omega),fun _=>?_⟩
     rw [if_neg (by omega)]
theorem slotE_stays {b : List Int} {s : Rd} (h : s.bad = true) : (slotE b s).2.bad = true:=by
 unfold slotE
 dsimp only
 split
 · rfl
 · exact numI_stays (numI_stays h)
theorem slotR_stays {b : List Int} {s : Rd} (h : s.bad = true) : (slotR b s).2.bad = true:=numI_stays (numI_stays h)
theorem slotE_rel (b : List Int) : Rel (slotE b) (slotR b):=by
 refine ⟨fun s h=>?_,fun s h=>?_⟩
 · obtain ⟨h1,h2⟩:=numI_255 (b:=b) (s:=s)
   unfold slotE slotR at *
   by_cases hc : 255 < (numI b 1000 s).1
   · rw [if_pos hc] at h;cases h
   · rw [if_neg hc,h2 (by omega)]
     have:=numI_le (b:=b) (most:=1000) (s:=s)
     rw [Int.emod_eq_of_lt this.1 (by omega)]
 · obtain ⟨h1,h2⟩:=numI_255 (b:=b) (s:=s)
   unfold slotE slotR at *
   by_cases hc : 255 < (numI b 1000 s).1
   · exact numI_stays (h1 hc)
   · rw [if_neg hc] at h
     rw [h2 (by omega)];exact h
theorem heapE_rel (b : List Int) : Rel (heapE b) (heapR b):=by
 refine ⟨fun s h=>?_,fun s h=>(slotE_rel b).bad _ h⟩
 unfold heapE heapR
 rw [(slotE_rel b).fine _ h]
theorem all_stays2 {α : Type} {f : Rd → α × Rd} (hf : ∀ s,s.bad = true → (f s).2.bad = true) : ∀ (n : Nat) (s : Rd),s.bad = true → (allR f n s).2.bad = true
 | 0,_,h=>h
 | n + 1,s,h=>all_stays2 hf n (f s).2 (hf s h)
theorem many_rel {α : Type} {f g : Rd → α × Rd} (h : Rel f g) : ∀ n,Rel (manyR f n) (manyR g n)
 | 0=>⟨fun _ _=>rfl,fun _ h=>h⟩
 | n + 1=>by
   have ih:=many_rel h n
   refine ⟨fun s hb=>?_,fun s hb=>?_⟩
   · unfold manyR at hb ⊢
     by_cases hs : s.bad = true
     · rw [if_pos hs,if_pos hs]
     · rw [if_neg hs] at hb
       rw [if_neg hs,if_neg hs]
       have h1 : (f s).2.bad = false:=by
         cases hx : (f s).2.bad with
         | false=>rfl
         | true =>
           rw [show (manyR f n (f s).2) = ([],(f s).2) from many_stays n _ hx] at hb
           rw [show (f s).2.bad = false from hb] at hx;cases hx
       rw [h.fine s h1] at hb ⊢
       rw [ih.fine _ hb]
   · unfold manyR at hb ⊢
     by_cases hs : s.bad = true
     · rw [if_pos hs];exact hs
     · rw [if_neg hs] at hb
       rw [if_neg hs]
       cases hx : (f s).2.bad with
       | true =>
         have:=h.bad s hx
         show (manyR g n (g s).2).2.bad = true
         rw [many_stays n _ this];exact this
       | false =>
         rw [h.fine s hx] at hb
         exact ih.bad _ hb
theorem all_rel {α : Type} {f g : Rd → α × Rd} (h : Rel f g) (hf : ∀ s,s.bad = true → (f s).2.bad = true) (hg : ∀ s,s.bad = true → (g s).2.bad = true) : ∀ n,Rel (allR f n) (allR g n)
 | 0=>⟨fun _ _=>rfl,fun _ h=>h⟩
 | n + 1=>by
   have ih:=all_rel h hf hg n
   refine ⟨fun s hb=>?_,fun s hb=>?_⟩
   · unfold allR at hb ⊢
     dsimp only at hb
     have h1 : (f s).2.bad = false:=by
       cases hx : (f s).2.bad with
       | false=>rfl
       | true=>rw [all_stays2 hf n _ hx] at hb;cases hb
     rw [h.fine s h1] at hb ⊢
     rw [ih.fine _ hb]
   · unfold allR at hb ⊢
     dsimp only at hb ⊢
     cases hx : (f s).2.bad with
     | true=>exact all_stays2 hg n _ (h.bad s hx)
     | false =>
       rw [h.fine s hx] at hb
       exact ih.bad _ hb
def boxesE (b : List Int) : List Int → Nat → Rd → List Box × Rd
 | [],_,s=>([],s)
 | i :: r,k,s=>if i = 9 ∧ s.bad = false then ((⟨k,(allR (slotE b) 6 s).1⟩ : Box) :: (boxesE b r (k + 1) (allR (slotE b) 6 s).2).1,(boxesE b r (k + 1) (allR (slotE b) 6 s).2).2) else boxesE b r (k + 1) s
theorem boxesE_stays (b : List Int) : ∀ (l : List Int) (k : Nat) (s : Rd),s.bad = true → boxesE b l k s = ([],s)
 | [],_,_,_=>rfl
 | i :: r,k,s,h=>by
   have e : boxesE b (i :: r) k s = boxesE b r (k + 1) s:=if_neg fun e=>by rw [h] at e;exact Bool.noConfusion e.2
   rw [e];exact boxesE_stays b r (k + 1) s h
theorem boxes_rel (b : List Int) : ∀ (l : List Int) (k : Nat),Rel (boxesE b l k) (boxesR b l k)
 | [],_=>⟨fun _ _=>rfl,fun _ h=>h⟩
 | i :: r,k=>by
   have ih:=boxes_rel b r (k + 1)
   have ha:=all_rel (slotE_rel b) (fun s h=>slotE_stays h) (fun s h=>slotR_stays h) 6
   refine ⟨fun s hb=>?_,fun s hb=>?_⟩
   · unfold boxesE at hb ⊢
     unfold boxesR
     by_cases hc : i = 9 ∧ s.bad = false
     · rw [if_pos hc] at hb
       rw [if_pos hc,if_pos hc]
       dsimp only at hb
       have h1 : (allR (slotE b) 6 s).2.bad = false:=by
         cases hx : (allR (slotE b) 6 s).2.bad with
         | false=>rfl
         | true=>rw [boxesE_stays b r (k + 1) _ hx,hx] at hb;cases hb
       rw [ha.fine s h1] at hb ⊢
       rw [ih.fine _ hb]
     · rw [if_neg hc] at hb
       rw [if_neg hc,if_neg hc]
       exact ih.fine _ hb
   · unfold boxesE at hb
     unfold boxesR
     by_cases hc : i = 9 ∧ s.bad = false
     · rw [if_pos hc] at hb
       rw [if_pos hc]
       dsimp only at hb ⊢
       cases hx : (allR (slotE b) 6 s).2.bad with
       | true =>
         have:=ha.bad s hx
         rw [boxes_stays b r (k + 1) _ this];exact this
       | false =>
         rw [ha.fine s hx] at hb
         exact ih.bad _ hb
     · rw [if_neg hc] at hb
       rw [if_neg hc]
       exact ih.bad _ hb
def refK (b : List Int) : ReadK b:=
 let x:=numI b 1000 ⟨0,false⟩
 let y:=numI b 1000 x.2
 let n:=numI b 1000 ⟨y.2.pos + 64,false⟩
 let hs:=manyR (heapE b) n.1.toNat n.2
 ⟨x,y,n,hs,boxesE b ((b.drop y.2.pos).take 64) 0 hs.2⟩
def chunkE (b : List Int) : Chunk:=⟨(refK b).x.1,(refK b).y.1,(b.drop (refK b).y.2.pos).take 64,(refK b).hs.1,(refK b).bx.1⟩
theorem refK_fine {b : List Int} (h : (refK b).bx.2.bad = false) : refK b = readK b:=by
 have hh : (refK b).hs.2.bad = false:=by
   cases hx : (refK b).hs.2.bad with
   | false=>rfl
   | true =>
     have h2 : (boxesE b ((b.drop (refK b).y.2.pos).take 64) 0 (refK b).hs.2).2.bad = false:=h
     rw [boxesE_stays _ _ _ _ hx,hx] at h2;cases h2
 have h1:=(many_rel (heapE_rel b) (refK b).n.1.toNat).fine (refK b).n.2 hh
 have h2:=(boxes_rel b ((b.drop (refK b).y.2.pos).take 64) 0).fine (refK b).hs.2 h
 have e1 : (refK b).hs = (readK b).hs:=h1
 have e2 : (refK b).bx = boxesR b ((b.drop (refK b).y.2.pos).take 64) 0 (refK b).hs.2:=h2
 rw [e1] at e2
 have e3 : (refK b).bx = (readK b).bx:=e2
 have q : refK b = ⟨(refK b).x,(refK b).y,(refK b).n,(refK b).hs,(refK b).bx⟩:=rfl
 rw [q,e1,e3]
 rfl
theorem refK_bad {b : List Int} (h : (refK b).bx.2.bad = true) : (readK b).bx.2.bad = true:=by
 have h2:=(boxes_rel b ((b.drop (refK b).y.2.pos).take 64) 0).bad (refK b).hs.2 h
 cases hx : (refK b).hs.2.bad with
 | true =>
   have h1:=(many_rel (heapE_rel b) (refK b).n.1.toNat).bad (refK b).n.2 hx
   have h3 : (readK b).hs.2.bad = true:=h1
   show (boxesR b ((b.drop (readK b).y.2.pos).take 64) 0 (readK b).hs.2).2.bad = true
   rw [boxes_stays _ _ _ _ h3];exact h3
 | false =>
   have h1:=(many_rel (heapE_rel b) (refK b).n.1.toNat).fine (refK b).n.2 hx
   have e1 : (refK b).hs = (readK b).hs:=h1
   rw [e1] at h2
   exact h2
structure RefWays (b : List Int) (R : Chunk × Int) : Prop where
 w1 : ((refK b).y.2.bad = true ∨ b.length - (refK b).y.2.pos < 64) → R = (emptyK,101)
 w2 : (refK b).bx.2.bad = true → R = (emptyK,101)
 w3 : ¬ (refK b).bx.2.pos = b.length → R = (emptyK,101)
 w4 : rightB (chunkE b) = false → R = (emptyK,101)
 w5 : ¬ ((refK b).y.2.bad = true ∨ b.length - (refK b).y.2.pos < 64) → (refK b).bx.2.bad = false → (refK b).bx.2.pos = b.length → rightB (chunkE b) = true → R = (chunkE b,0) ∧ bytesC (chunkE b) = b
theorem refWays {b : List Int} (h8 : okU8 b) : RefWays b (readC b):=by
 by_cases c1 : (refK b).y.2.bad = true ∨ b.length - (refK b).y.2.pos < 64
 · have e : readC b = (emptyK,101):=if_pos c1
   exact ⟨fun _=>e,fun _=>e,fun _=>e,fun _=>e,fun h=>absurd c1 h⟩
 · have e0 : readC b = if (readK b).bx.2.bad = true ∨ ¬ (readK b).bx.2.pos = b.length ∨ rightB (chunkK b) = false then (emptyK,101) else (chunkK b,0):=if_neg c1
   cases c2 : (refK b).bx.2.bad with
   | true =>
     have e : readC b = (emptyK,101):=by rw [e0,if_pos (.inl (refK_bad c2))]
     exact ⟨fun _=>e,fun _=>e,fun _=>e,fun _=>e,fun _ h=>(by cases h.symm.trans c2)⟩
   | false =>
     have ek:=refK_fine c2
     have ec : chunkE b = chunkK b:=by unfold chunkE chunkK;rw [ek]
     have w3 : ¬ (refK b).bx.2.pos = b.length → readC b = (emptyK,101):=fun h=>by rw [e0,if_pos (.inr (.inl (by rw [← ek];exact h)))]
     have w4 : rightB (chunkE b) = false → readC b = (emptyK,101):=fun h=>by rw [e0,if_pos (.inr (.inr (by rw [← ec];exact h)))]
     refine ⟨fun h=>absurd h c1,fun h=>(by cases h.symm.trans c2),w3,w4,fun _ _ h3 h4=>?_⟩
     have e : readC b = (chunkK b,0):=by
       rw [e0,if_neg]
       rintro (h|h|h)
       · rw [← ek,c2] at h;cases h
       · rw [← ek] at h;exact h h3
       · rw [← ec,h4] at h;cases h
     have h5:=bytes_readC h8 (by rw [e])
     rw [e] at h5
     exact ⟨by rw [e,ec],by rw [ec];exact h5.1⟩
theorem slotE_ok {b : List Int} {s : Rd} : okSlot (slotE b s).1:=by
 show 0 ≤ (numI b 1000 s).1 % 256 ∧ (numI b 1000 s).1 % 256 ≤ 255
 omega
theorem boxesE_ok {b : List Int} : ∀ (l : List Int) (k : Nat) (s : Rd),(boxesE b l k s).1.length ≤ l.length ∧ ∀ x ∈ (boxesE b l k s).1,okBox x
 | [],_,_=>⟨Nat.le_refl _,fun x hx=>by cases hx⟩
 | i :: r,k,s=>by
   unfold boxesE
   split
   · obtain ⟨h1,h2⟩:=boxesE_ok (b:=b) r (k + 1) (allR (slotE b) 6 s).2
     dsimp only
     refine ⟨by simp only [List.length_cons];omega,fun x hx=>?_⟩
     rcases List.mem_cons.1 hx with rfl|hx
     · obtain ⟨a1,a2⟩:=all_mem (f:=slotE b) (p:=okSlot) (fun s=>slotE_ok) 6 s
       exact ⟨a2,by show (allR (slotE b) 6 s).1.length ≤ big;rw [a1];unfold big;omega⟩
     · exact h2 x hx
   · obtain ⟨h1,h2⟩:=boxesE_ok (b:=b) r (k + 1) s
     exact ⟨by simp only [List.length_cons];omega,h2⟩
theorem okC_E {b : List Int} (hb : okU8 b) : OkC (chunkE b):=by
 obtain ⟨h1,h2⟩:=many_mem (f:=heapE b) (p:=okHeap) (fun s=>slotE_ok) (refK b).n.1.toNat (refK b).n.2
 obtain ⟨h3,h4⟩:=boxesE_ok (b:=b) ((b.drop (refK b).y.2.pos).take 64) 0 (refK b).hs.2
 have h5 : (refK b).n.1 ≤ (1000 : Nat):=(numI_le (b:=b) (most:=1000)).2
 have h6 : ((b.drop (refK b).y.2.pos).take 64).length ≤ 64:=by rw [List.length_take];omega
 refine ⟨fun i hi=>hb i (List.mem_of_mem_drop (List.mem_of_mem_take hi)),h2,h4,?_,?_,?_⟩
 · show ((b.drop (refK b).y.2.pos).take 64).length ≤ big
   unfold big;omega
 · show (manyR (heapE b) (refK b).n.1.toNat (refK b).n.2).1.length ≤ big
   unfold big;omega
 · show (boxesE b ((b.drop (refK b).y.2.pos).take 64) 0 (refK b).hs.2).1.length ≤ big
   unfold big;omega
open Go Go.RowKit Eng
theorem r11bytesE_api (c : Chunk) (hc : OkC c) : Api Tryz.prog 82 [chunkV c] (.tup [.vec .u8 (if rightB c = true then bytesC c else []),i64 (if rightB c = true then 0 else 101)]):=by
 have hrt:=r11right_api c hc
 cases hR : rightB c with
 | true=>simpa using r11bytes_api c hc hR
 | false =>
   rw [hR] at hrt
   rw [if_neg (by simp),if_neg (by simp)]
   refine Api.of_fin cfg_ok Tryz.func82 rfl (nt:=112) rfl rfl ?_
   ((repeat (first|(with_reducible refine evCut fun N hN hE hT=>?_)|(with_reducible refine evBlk fun N hN hE hT=>?_)));(try with_reducible refine evCnd fun X Y hX hY=>?_);(conv=>whnf))
   repeat' (first|exact trivial|((first|((first|refine hT _ _ ?_|refine hE _ _ _ ?_|refine hN _ _ ?_);clear hN hE hT)|((first|refine hX ?_|refine hY ?_);clear hX hY)|refine kL ?_|(refine ⟨fun hb=>?_,fun hb=>?_⟩<;>(try simp only [nrm] at hb)<;>(try (first|(exfalso;omega)|contradiction|exact kB hb)))|refine kA hrt ?_|refine kD hrt ?_|refine kW cfg_ok ?_|refine kC ?_|refine bdA ?_|refine bd2 ?_|refine bdR ?_|refine bdL ?_)<;>((repeat (first|(with_reducible refine evCut fun N hN hE hT=>?_)|(with_reducible refine evBlk fun N hN hE hT=>?_)));(try with_reducible refine evCnd fun X Y hX hY=>?_);(conv=>whnf)))|(refine And.intro ?_ ?_;rotate_left;(conv=>whnf);rotate_right))
   all_goals first|rfl|trace_state
theorem atI_bad {s : Rd} (h : s.bad = true) : atI s = -1:=if_pos h
theorem atI_fine {s : Rd} (h : s.bad = false) : atI s = s.pos:=if_neg (by rw [h];simp)
theorem r11next_api (b : List (El .u8)) (A : Int) (s : Rd) (hA : A = atI s) (h8 : okU8 b) (hl : b.length ≤ 1000000000000) (hp : s.pos ≤ b.length) : Api Tryz.prog 157 [.vec .u8 b,i64 A] (.tup [i64 (numI b 1000 s).1,i64 (atI (numI b 1000 s).2)]):=by
 have hu:=r01getU_api b s.pos h8 hl hp _ rfl
 obtain ⟨h1,h2⟩:=guN_le h8 hp
 cases hs : s.bad with
 | true =>
   rw [numI_bad hs]
   rw [atI_bad hs] at hA
   rw [atI_bad hs]
   subst hA
   refine Api.of_fin cfg_ok Tryz.func157 rfl (nt:=25) rfl rfl ?_
   ((repeat (first|(with_reducible refine evCut fun N hN hE hT=>?_)|(with_reducible refine evBlk fun N hN hE hT=>?_)));(try with_reducible refine evCnd fun X Y hX hY=>?_);(conv=>whnf))
   repeat' (first|exact trivial|((first|((first|refine hT _ _ ?_|refine hE _ _ _ ?_|refine hN _ _ ?_);clear hN hE hT)|((first|refine hX ?_|refine hY ?_);clear hX hY)|refine kL ?_|(refine ⟨fun hb=>?_,fun hb=>?_⟩<;>(try simp only [nrm] at hb)<;>(try (first|(exfalso;omega)|contradiction|exact kB hb)))|refine kW cfg_ok ?_|refine kC ?_|refine bdA ?_|refine bd2 ?_|refine bdR ?_|refine bdL ?_)<;>((repeat (first|(with_reducible refine evCut fun N hN hE hT=>?_)|(with_reducible refine evBlk fun N hN hE hT=>?_)));(try with_reducible refine evCnd fun X Y hX hY=>?_);(conv=>whnf)))|(refine And.intro ?_ ?_;rotate_left;(conv=>whnf);rotate_right))
 | false =>
   rw [atI_fine hs] at hA
   subst hA
   rw [numI_gu hs]
   generalize guN b s.pos = G at *
   obtain ⟨n,f,e⟩:=G
   dsimp only at *
   by_cases c1 : e = 0 ∧ n ≤ 1000
   · rw [if_pos c1]
     obtain ⟨rfl,c2⟩:=c1
     dsimp only
     rw [atI_fine rfl]
     refine Api.of_fin cfg_ok Tryz.func157 rfl (nt:=25) rfl rfl ?_
     ((repeat (first|(with_reducible refine evCut fun N hN hE hT=>?_)|(with_reducible refine evBlk fun N hN hE hT=>?_)));(try with_reducible refine evCnd fun X Y hX hY=>?_);(conv=>whnf))
     repeat' (first|exact trivial|((first|((first|refine hT _ _ ?_|refine hE _ _ _ ?_|refine hN _ _ ?_);clear hN hE hT)|((first|refine hX ?_|refine hY ?_);clear hX hY)|refine kL ?_|(refine ⟨fun hb=>?_,fun hb=>?_⟩<;>(try simp only [nrm] at hb)<;>(try (first|(exfalso;omega)|contradiction|exact kB hb)))|refine kA hu ?_|refine kD hu ?_|refine kW cfg_ok ?_|refine kC ?_|refine bdA ?_|refine bd2 ?_|refine bdR ?_|refine bdL ?_)<;>((repeat (first|(with_reducible refine evCut fun N hN hE hT=>?_)|(with_reducible refine evBlk fun N hN hE hT=>?_)));(try with_reducible refine evCnd fun X Y hX hY=>?_);(conv=>whnf)))|(refine And.intro ?_ ?_;rotate_left;(conv=>whnf);rotate_right))
   · rw [if_neg c1]
     dsimp only
     rw [atI_bad rfl]
     refine Api.of_fin cfg_ok Tryz.func157 rfl (nt:=25) rfl rfl ?_
     ((repeat (first|(with_reducible refine evCut fun N hN hE hT=>?_)|(with_reducible refine evBlk fun N hN hE hT=>?_)));(try with_reducible refine evCnd fun X Y hX hY=>?_);(conv=>whnf))
     repeat' (first|exact trivial|((first|((first|refine hT _ _ ?_|refine hE _ _ _ ?_|refine hN _ _ ?_);clear hN hE hT)|((first|refine hX ?_|refine hY ?_);clear hX hY)|refine kL ?_|(refine ⟨fun hb=>?_,fun hb=>?_⟩<;>(try simp only [nrm] at hb)<;>(try (first|(exfalso;omega)|contradiction|exact kB hb)))|refine kA hu ?_|refine kD hu ?_|refine kW cfg_ok ?_|refine kC ?_|refine bdA ?_|refine bd2 ?_|refine bdR ?_|refine bdL ?_)<;>((repeat (first|(with_reducible refine evCut fun N hN hE hT=>?_)|(with_reducible refine evBlk fun N hN hE hT=>?_)));(try with_reducible refine evCnd fun X Y hX hY=>?_);(conv=>whnf)))|(refine And.intro ?_ ?_;rotate_left;(conv=>whnf);rotate_right))
     all_goals first|omega|trace_state
theorem wrapU8 (z : Int) : IntKind.u8.wrap z = z % 256:=by
 simp only [IntKind.wrap,IntKind.bits,IntKind.signed]
 simp
theorem wU8 {z : Int} (h : 0 ≤ z) (h2 : z ≤ 255) : z % 256 = z:=Int.emod_eq_of_lt h (by omega)
theorem u8K {n : Int} {c d : Prop} (h : d) : (inR .u8 n ∧ c) ∨ d:=.inr h
end Go.Proofs.YtaecchphjploaaaGreat
