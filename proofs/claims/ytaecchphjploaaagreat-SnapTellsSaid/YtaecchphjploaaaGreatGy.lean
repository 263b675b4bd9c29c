/- homesteadref01.GetUint, GetBlob; readers of homesteadref11. -/
import Derived.Test.YtaecchphjploaaaGreatGm
import Derived.Test.YtaecchphjploaaaGreatGw
import Derived.Test.YtaecchphjploaaaGreatGn
set_option linter.unusedSimpArgs false
set_option linter.unusedVariables false
set_option maxRecDepth 100000
set_option maxHeartbeats 16000000
namespace Go.Proofs.YtaecchphjploaaaGreat
open Go Go.RowKit Eng
theorem F3 {l : List (El .u8)} {k : Nat} (h : k < l.length) : am aH (l.drop k) 0 = (if (elt .u8 l k : Int) < 128 then 0 else if am aH (l.drop (k + 1)) 0 < 0 then -1 else am aH (l.drop (k + 1)) 0 + 1):=by
 rw [bJ (t:=.u8) h]
 conv=>lhs;unfold am
 by_cases h1 : (elt .u8 l k : Int) < 128
 ·rw [if_pos (by simp [aH,h1]),if_pos h1];rfl
 ·rw [if_neg (by simp only [aH,decide_eq_true_eq];exact h1),if_neg h1,jg]
theorem Fm {b : List Int} (hb : au b) {pos : Nat} :
  (am aH ((b.drop pos).take 10) 0 < 0 → guN b pos = (0,0,if ((b.drop pos).take 10).length < 10 then 11 else 10)) ∧
  (0 ≤ am aH ((b.drop pos).take 10) 0 → (aj (bU (((b.drop pos).take 10).take ((am aH ((b.drop pos).take 10) 0).toNat + 1)) % 18446744073709551616) = ((b.drop pos).take 10).take ((am aH ((b.drop pos).take 10) 0).toNat + 1) → guN b pos = (bU (((b.drop pos).take 10).take ((am aH ((b.drop pos).take 10) 0).toNat + 1)) % 18446744073709551616,pos + ((am aH ((b.drop pos).take 10) 0).toNat + 1),0)) ∧
   (¬ aj (bU (((b.drop pos).take 10).take ((am aH ((b.drop pos).take 10) 0).toNat + 1)) % 18446744073709551616) = ((b.drop pos).take 10).take ((am aH ((b.drop pos).take 10) 0).toNat + 1) → guN b pos = (0,0,10))):=by
 have hG:=ou 9 (b.drop pos)
 have h8 : au ((b.drop pos).take 10):=fun i hi=>hb i (List.mem_of_mem_drop (List.mem_of_mem_take hi))
 have hi:=wl 9 ((b.drop pos).take 10) h8 (by rw [List.length_take];omega)
 rw [hG] at hi
 have hlt:=fX aH ((b.drop pos).take 10) 0
 unfold guN qm
 have hgu:=fun n k=>jK 9 ((b.drop pos).take 10) n k h8
 have hug:=fun n r h=>rq 9 n r h
 rw [show dB 9 ((b.drop pos).take 10) = dB 9 (b.drop pos) from hG] at hgu
 generalize hL : (b.drop pos).take 10 = L at *
 generalize hI : am aH L 0 = I at *
 refine ⟨fun c1=>?_,fun c1=>⟨fun c2=>?_,fun c2=>?_⟩⟩
 ·rw [if_pos c1] at hi
  rw [hi]
  dsimp only
  by_cases c3 : L.length < 10
  ·rw [if_pos ⟨c1,c3⟩,if_pos c3]
  ·rw [if_neg fun h=>c3 h.2,if_neg c3]
 ·have c4 : L = aj (bU (L.take (I.toNat + 1)) % 18446744073709551616) ++ L.drop (I.toNat + 1):=by rw [c2,List.take_append_drop]
  have c5:=hug (bU (L.take (I.toNat + 1)) % 18446744073709551616) (L.drop (I.toNat + 1)) (by show _ < 18446744073709551616;exact Nat.mod_lt _ (by decide))
  rw [show aC 9 (bU (L.take (I.toNat + 1)) % 18446744073709551616) ++ L.drop (I.toNat + 1) = L from c4.symm] at c5
  have c6 : dB 9 L = dB 9 (b.drop pos):=hG
  rw [← c6,c5]
  have c7 : (aC 9 (bU (L.take (I.toNat + 1)) % 18446744073709551616)).length = I.toNat + 1:=by
   show (aj _).length = _
   rw [c2,List.length_take];omega
  dsimp only
  rw [c7]
 ·have hn : dB 9 (b.drop pos) = none:=by
   cases hg : dB 9 (b.drop pos) with
   | none=>rfl
   | some p =>
    obtain ⟨n,k⟩:=p
    obtain ⟨d1,d2,d3,d4⟩:=hgu n k hg
    rw [hg,if_neg (by omega)] at hi
    split at hi
    ·cases hi
    ·have e:=Option.some.inj hi
     have e1:=congrArg Prod.fst e
     have e2:=congrArg Prod.snd e
     dsimp only at e1 e2
     exfalso
     apply c2
     rw [← e1,Nat.mod_eq_of_lt (by exact d4),← e2]
     exact d1.symm
  rw [hn,if_neg fun h=>absurd h.1 (by omega)]
theorem sB (z : Int) : IntKind.u64.wrap z = z % 18446744073709551616:=by
 simp only [IntKind.wrap,IntKind.bits,IntKind.signed]
 simp
theorem qdM {a b : Int} {c d : Prop} (ha : 0 ≤ a) (k : c) (hb : 0 < b:=by omega) : (0 ≤ a ∧ 0 < b ∧ c) ∨ d:=.inl ⟨ha,hb,k⟩
theorem GE {n : Int} {c d : Prop} (h : d) : (inR .u64 n ∧ c) ∨ d:=.inr h
theorem wt (a b : List (El .u8)) (ha : au a) (hc : au b) : Api Tryz.prog 184 [.vec .u8 a,.vec .u8 b] (bol (eqL a b)):=by
 refine aF Tryz.func184 8 ?_
 ((repeat (first|(with_reducible refine af fun N hN hE hT=>?_)|(with_reducible refine ah fun N hN hE hT=>?_)));(try with_reducible refine ai fun X Y hX hY=>?_);(conv=>whnf))
 repeat' (first|exact trivial|((first|((first|apply hT|apply hE|apply hN);clear hN hE hT)|((first|refine hX ?_|refine hY ?_);clear hX hY)|(refine ⟨fun hb=>?_,fun hb=>?_⟩<;>(try simp only [nrm] at hb)<;>try exact kZ hb)|refine kV ?_)<;>((repeat (first|(with_reducible refine af fun N hN hE hT=>?_)|(with_reducible refine ah fun N hN hE hT=>?_)));(try with_reducible refine ai fun X Y hX hY=>?_);(conv=>whnf)))|refine kY ?_ ?_)
 all_goals first|exact congrArg Value.bool (iU ha hc)|trace_state
theorem gy (b : List (El .u8)) (pos : Nat) (h8 : au b) (hl : b.length ≤ 1000000000000) (hp : pos ≤ b.length) (R : Nat × Nat × Int) (hR : guN b pos = R) : Api Tryz.prog 156 [.vec .u8 b,i64 pos] (.tup [.lit (.int .u64 R.1),i64 R.2.1,i64 R.2.2]):=by
 obtain ⟨g1,g2⟩:=Fm h8 (pos:=pos)
 rw [hR] at g1 g2
 have hRl : ((b.drop pos).take 10).length = min 10 (b.length - pos):=by rw [List.length_take,List.length_drop]
 have hLe : ∀ k,k < ((b.drop pos).take 10).length → elt .u8 ((b.drop pos).take 10) k = elt .u8 b (pos + k):=fun k hk=>by
  have h1:=aL .u8 ((b.drop pos).take 10) k hk
  rw [List.getElem?_take,if_pos (by omega),List.getElem?_drop,aL .u8 b (pos + k) (by omega)] at h1
  exact (Option.some.inj h1).symm
 have hend:=fun k hk=>F3 (l:=(b.drop pos).take 10) (k:=k) hk
 have hcut : ∀ k,pos + k < b.length → k < 10 → (b.drop (pos : Int).toNat).take (((pos + k : Nat) : Int) + 1 - pos).toNat = ((b.drop pos).take 10).take (k + 1):=fun k hk hk2=>by
  rw [Int.toNat_natCast,show (((pos + k : Nat) : Int) + 1 - pos).toNat = k + 1 by omega,List.take_take,Nat.min_eq_left (by omega)]
 have hD8 : ∀ k,au (((b.drop pos).take 10).take (k + 1)):=fun k i hi=>h8 i (List.mem_of_mem_drop (List.mem_of_mem_take (List.mem_of_mem_take hi)))
 generalize (b.drop pos).take 10 = L at *
 clear hR
 refine aF Tryz.func156 71 ?_
 ((repeat (first|(with_reducible refine af fun N hN hE hT=>?_)|(with_reducible refine ah fun N hN hE hT=>?_)));(try with_reducible refine ai fun X Y hX hY=>?_);(conv=>whnf))
 repeat' (first|exact trivial|((first|((first|apply hT|apply hE|apply hN);clear hN hE hT)|((first|refine hX ?_|refine hY ?_);clear hX hY)|(refine ⟨fun hb=>?_,fun hb=>?_⟩<;>(try simp only [nrm] at hb)<;>try exact kZ hb)|refine kV ?_)<;>((repeat (first|(with_reducible refine af fun N hN hE hT=>?_)|(with_reducible refine ah fun N hN hE hT=>?_)));(try with_reducible refine ai fun X Y hX hY=>?_);(conv=>whnf)))|refine kY ?_ ?_)
 refine aw.loopS aa (σ:=Nat) [0,1,7] (fun k=>[.vec .u8 b,i64 pos,i64 ((pos + k : Nat) : Int)]) (fun _=>[]) (fun k=>k ≤ L.length ∧ am aH L 0 = if am aH (L.drop k) 0 < 0 then -1 else am aH (L.drop k) 0 + k) (fun k=>10 - k) 0 ⟨Nat.zero_le _,by rw [List.drop_zero];have:=(fX aH L 0).2.2;split<;>omega⟩ ?_ ?_
 ·conv=>whnf
  repeat' (first|exact trivial|((first|((first|apply hT|apply hE|apply hN);clear hN hE hT)|((first|refine hX ?_|refine hY ?_);clear hX hY)|(refine ⟨fun hb=>?_,fun hb=>?_⟩<;>(try simp only [nrm] at hb)<;>try exact kZ hb)|refine kV ?_)<;>((repeat (first|(with_reducible refine af fun N hN hE hT=>?_)|(with_reducible refine ah fun N hN hE hT=>?_)));(try with_reducible refine ai fun X Y hX hY=>?_);(conv=>whnf)))|refine kY ?_ ?_)
 ·rintro k ⟨hk,hI⟩
  by_cases hlt : pos + k < b.length
  ·obtain ⟨F,hF⟩ : ∃ F : Int,elt .u8 b ((pos + k : Nat) : Int).toNat = F:=⟨_,rfl⟩
   have hFm : 0 ≤ F ∧ F ≤ 255:=by rw [← hF];exact h8 _ (ay (t:=.u8) (by omega))
   have hF2 : elt .u8 b (pos + k) = F:=hF
   by_cases hk10 : k < 10
   ·have he:=hend k (by omega)
    rw [hLe k (by omega),hF2] at he
    by_cases hF7 : F < 128
    ·rw [if_pos hF7] at he
     rw [he,if_neg (by omega)] at hI
     have hI2 : am aH L 0 = k:=by omega
     clear hI he
     have c3:=g2 (by omega)
     rw [hI2,Int.toNat_natCast] at c3
     clear g1 g2
     have hc:=hcut k hlt hk10
     have hd8:=hD8 k
     have hDl : (L.take (k + 1)).length = k + 1:=by rw [List.length_take];omega
     have hDe : ∀ j,j < k + 1 → elt .u8 (L.take (k + 1)) j = elt .u8 b (pos + j):=fun j hj=>by
      rw [← hLe j (by omega)]
      have h1:=aL .u8 (L.take (k + 1)) j (by omega)
      rw [List.getElem?_take,if_pos (by omega),aL .u8 L j (by omega)] at h1
      exact (Option.some.inj h1).symm
     clear hcut hD8 hLe hend hI2
     generalize L.take (k + 1) = D at hc hd8 hDl hDe c3
     have hv:=oB 9 (Nat.le_refl 9) (bU D % 18446744073709551616) (Nat.lt_of_lt_of_le (Nat.mod_lt _ (by decide)) (by decide)) (Nat.mod_lt _ (by decide))
     have hu8 : au (aj (bU D % 18446744073709551616)):=m8 9 _ (Nat.lt_of_lt_of_le (Nat.mod_lt _ (by decide)) (by decide))
     have hq:=wt (aj (bU D % 18446744073709551616)) D hu8 hd8
     change Api _ _ _ (.vec .u8 (aj (bU D % 18446744073709551616))) at hv
     have hEq : eqL (aj (bU D % 18446744073709551616)) D = true ∨ eqL (aj (bU D % 18446744073709551616)) D = false:=by cases eqL (aj (bU D % 18446744073709551616)) D<;>simp
     have w1 : eqL (aj (bU D % 18446744073709551616)) D = true → R = (bU D % 18446744073709551616,pos + (k + 1),0):=fun h=>c3.1 (of_decide_eq_true h)
     have w2 : eqL (aj (bU D % 18446744073709551616)) D = false → R = (0,0,10):=fun h=>c3.2 (of_decide_eq_false h)
     clear c3
     generalize eqL (aj (bU D % 18446744073709551616)) D = Q at hq hEq w1 w2
     generalize aj (bU D % 18446744073709551616) = U at hq hv hu8
     conv=>whnf
     repeat' (first|exact trivial|((first|((first|apply hT|apply hE|apply hN);clear hN hE hT)|((first|refine hX ?_|refine hY ?_);clear hX hY)|refine kL ?_|(refine ⟨fun hb=>?_,fun hb=>?_⟩<;>(try simp only [nrm] at hb)<;>try exact kZ hb)|(rw [hF])|refine kV ?_)<;>((repeat (first|(with_reducible refine af fun N hN hE hT=>?_)|(with_reducible refine ah fun N hN hE hT=>?_)));(try with_reducible refine ai fun X Y hX hY=>?_);(conv=>whnf)))|refine kY ?_ ?_)
     refine aw.loopS aa (σ:=Nat) [0,1,7,8,9] (fun j=>[.vec .u8 b,i64 pos,i64 ((pos + k : Nat) : Int),.lit (.int .u64 ((bU (D.drop j) % 18446744073709551616 : Nat) : Int)),i64 ((pos : Int) + j - 1)]) (fun _=>[]) (fun j=>j ≤ k + 1) (fun j=>j) (k + 1) (Nat.le_refl _) ?_ ?_
     ·conv=>whnf
      repeat' (first|exact trivial|((first|((first|apply hT|apply hE|apply hN);clear hN hE hT)|((first|refine hX ?_|refine hY ?_);clear hX hY)|(refine ⟨fun hb=>?_,fun hb=>?_⟩<;>(try simp only [nrm] at hb)<;>try exact kZ hb)|refine kV ?_)<;>((repeat (first|(with_reducible refine af fun N hN hE hT=>?_)|(with_reducible refine ah fun N hN hE hT=>?_)));(try with_reducible refine ai fun X Y hX hY=>?_);(conv=>whnf)))|refine kY ?_ ?_)
      all_goals first|(rw [List.drop_of_length_le (by omega)];rfl)|exact congrArg (Value.int _) (by omega)|trace_state
     ·intro j hj
      cases j with
      | zero =>
       rw [List.drop_zero]
       rcases hEq with hEq|hEq
       ·have hRv:=w1 hEq
        rw [hEq] at hq
        conv=>whnf
        repeat' (first|exact trivial|((first|((first|apply hT|apply hE|apply hN);clear hN hE hT)|((first|refine hX ?_|refine hY ?_);clear hX hY)|refine kL ?_|(refine ⟨fun hb=>?_,fun hb=>?_⟩<;>(try simp only [nrm] at hb)<;>try exact kZ hb)|(rw [hc])|refine kV ?_)<;>((repeat (first|(with_reducible refine af fun N hN hE hT=>?_)|(with_reducible refine ah fun N hN hE hT=>?_)));(try with_reducible refine ai fun X Y hX hY=>?_);(conv=>whnf)))|refine kY ?_ ?_)
        all_goals first|(rw [hRv];done)|(rw [hRv];rfl)|(rw [hRv];exact congrArg (Value.int _) (by first|omega|(dsimp only;omega)))|trace_state
       ·have hRv:=w2 hEq
        rw [hEq] at hq
        conv=>whnf
        repeat' (first|exact trivial|((first|((first|apply hT|apply hE|apply hN);clear hN hE hT)|((first|refine hX ?_|refine hY ?_);clear hX hY)|refine kL ?_|(refine ⟨fun hb=>?_,fun hb=>?_⟩<;>(try simp only [nrm] at hb)<;>try exact kZ hb)|(rw [hc])|refine kV ?_)<;>((repeat (first|(with_reducible refine af fun N hN hE hT=>?_)|(with_reducible refine ah fun N hN hE hT=>?_)));(try with_reducible refine ai fun X Y hX hY=>?_);(conv=>whnf)))|refine kY ?_ ?_)
        all_goals first|(rw [hRv];done)|(rw [hRv];rfl)|(rw [hRv];exact congrArg (Value.int _) (by first|omega|(dsimp only;omega)))|trace_state
      | succ j =>
       have hd:=ow (l:=D) (j:=j) (by omega)
       have hEj : elt .u8 b ((pos : Int) + ((j + 1 : Nat) : Int) - 1).toNat = elt .u8 D j:=by rw [hDe j (by omega)];exact congrArg (elt .u8 b) (by omega)
       have hGm : 0 ≤ (elt .u8 D j : Int) ∧ (elt .u8 D j : Int) ≤ 255:=hd8 _ (ay (t:=.u8) (by omega))
       generalize (elt .u8 D j : Int) = G at hd hEj hGm
       have hs : ((bU (D.drop j) % 18446744073709551616 : Nat) : Int) = IntKind.u64.wrap (IntKind.u64.wrap (((bU (D.drop (j + 1)) % 18446744073709551616 : Nat) : Int) * 128) + G % 128):=by
        rw [sB,sB,hd];omega
       have hs2 : ((bU (D.drop j) % 18446744073709551616 : Nat) : Int) = IntKind.u64.wrap (((bU (D.drop (j + 1)) % 18446744073709551616 : Nat) : Int) * 128 + G % 128):=by
        rw [sB,hd];omega
       generalize bU (D.drop (j + 1)) % 18446744073709551616 = V at hs hs2 ⊢
       conv=>whnf
       repeat' (first|exact trivial|((first|((first|apply hT|apply hE|apply hN);clear hN hE hT)|((first|refine hX ?_|refine hY ?_);clear hX hY)|refine kL ?_|(refine ⟨fun hb=>?_,fun hb=>?_⟩<;>(try simp only [nrm] at hb)<;>try exact kZ hb)|(rw [hEj])|(refine qdM hGm.1 ?_)|(refine GE ?_)|refine kV ?_)<;>((repeat (first|(with_reducible refine af fun N hN hE hT=>?_)|(with_reducible refine ah fun N hN hE hT=>?_)));(try with_reducible refine ai fun X Y hX hY=>?_);(conv=>whnf)))|refine kY ?_ ?_)
       refine .to j (by omega) (by omega) ?_
       conv=>whnf
       repeat' (first|exact trivial|((first|((first|apply hT|apply hE|apply hN);clear hN hE hT)|((first|refine hX ?_|refine hY ?_);clear hX hY)|(refine ⟨fun hb=>?_,fun hb=>?_⟩<;>(try simp only [nrm] at hb)<;>try exact kZ hb)|refine kV ?_)<;>((repeat (first|(with_reducible refine af fun N hN hE hT=>?_)|(with_reducible refine ah fun N hN hE hT=>?_)));(try with_reducible refine ai fun X Y hX hY=>?_);(conv=>whnf)))|refine kY ?_ ?_)
       all_goals first|rfl|exact congrArg (Value.int _) (by omega)|exact congrArg (Value.int .u64) hs.symm|exact congrArg (Value.int .u64) hs2.symm|trace_state
    ·rw [if_neg hF7] at he
     have hI3 : am aH L 0 = if am aH (L.drop (k + 1)) 0 < 0 then -1 else am aH (L.drop (k + 1)) 0 + ((k + 1 : Nat) : Int):=by
      rw [hI,he]
      have:=(fX aH (L.drop (k + 1)) 0).2.2
      split<;>split<;>(try split at *)<;>omega
     conv=>whnf
     repeat' (first|exact trivial|((first|((first|apply hT|apply hE|apply hN);clear hN hE hT)|((first|refine hX ?_|refine hY ?_);clear hX hY)|refine kL ?_|(refine ⟨fun hb=>?_,fun hb=>?_⟩<;>(try simp only [nrm] at hb)<;>try exact kZ hb)|(rw [hF])|refine kV ?_)<;>((repeat (first|(with_reducible refine af fun N hN hE hT=>?_)|(with_reducible refine ah fun N hN hE hT=>?_)));(try with_reducible refine ai fun X Y hX hY=>?_);(conv=>whnf)))|refine kY ?_ ?_)
     refine .to (k + 1) ⟨by omega,hI3⟩ (by omega) ?_
     conv=>whnf
     repeat' (first|exact trivial|((first|((first|apply hT|apply hE|apply hN);clear hN hE hT)|((first|refine hX ?_|refine hY ?_);clear hX hY)|(refine ⟨fun hb=>?_,fun hb=>?_⟩<;>(try simp only [nrm] at hb)<;>try exact kZ hb)|refine kV ?_)<;>((repeat (first|(with_reducible refine af fun N hN hE hT=>?_)|(with_reducible refine ah fun N hN hE hT=>?_)));(try with_reducible refine ai fun X Y hX hY=>?_);(conv=>whnf)))|refine kY ?_ ?_)
   ·have hk' : k = 10:=by omega
    rw [List.drop_of_length_le (by omega)] at hI
    have hRv:=g1 (by rw [hI];simp [am])
    rw [if_neg (by omega)] at hRv
    conv=>whnf
    repeat' (first|exact trivial|((first|((first|apply hT|apply hE|apply hN);clear hN hE hT)|((first|refine hX ?_|refine hY ?_);clear hX hY)|refine kL ?_|(refine ⟨fun hb=>?_,fun hb=>?_⟩<;>(try simp only [nrm] at hb)<;>try exact kZ hb)|(rw [hF])|refine kV ?_)<;>((repeat (first|(with_reducible refine af fun N hN hE hT=>?_)|(with_reducible refine ah fun N hN hE hT=>?_)));(try with_reducible refine ai fun X Y hX hY=>?_);(conv=>whnf)))|refine kY ?_ ?_)
    all_goals first|(rw [hRv];done)|(rw [hRv];rfl)|trace_state
  ·rw [List.drop_of_length_le (by omega)] at hI
   have hRv:=g1 (by rw [hI];simp [am])
   by_cases hk10 : k < 10
   ·rw [if_pos (by omega)] at hRv
    conv=>whnf
    repeat' (first|exact trivial|((first|((first|apply hT|apply hE|apply hN);clear hN hE hT)|((first|refine hX ?_|refine hY ?_);clear hX hY)|(refine ⟨fun hb=>?_,fun hb=>?_⟩<;>(try simp only [nrm] at hb)<;>try exact kZ hb)|refine kV ?_)<;>((repeat (first|(with_reducible refine af fun N hN hE hT=>?_)|(with_reducible refine ah fun N hN hE hT=>?_)));(try with_reducible refine ai fun X Y hX hY=>?_);(conv=>whnf)))|refine kY ?_ ?_)
    all_goals first|(rw [hRv];done)|(rw [hRv];rfl)|trace_state
   ·rw [if_neg (by omega)] at hRv
    conv=>whnf
    repeat' (first|exact trivial|((first|((first|apply hT|apply hE|apply hN);clear hN hE hT)|((first|refine hX ?_|refine hY ?_);clear hX hY)|(refine ⟨fun hb=>?_,fun hb=>?_⟩<;>(try simp only [nrm] at hb)<;>try exact kZ hb)|refine kV ?_)<;>((repeat (first|(with_reducible refine af fun N hN hE hT=>?_)|(with_reducible refine ah fun N hN hE hT=>?_)));(try with_reducible refine ai fun X Y hX hY=>?_);(conv=>whnf)))|refine kY ?_ ?_)
    all_goals first|(rw [hRv];done)|(rw [hRv];rfl)|trace_state
theorem xt (b : List (El .u8)) (pos most : Nat) (h8 : au b) (hl : b.length ≤ 1000000000000) (hp : pos ≤ b.length) (hm : most ≤ 1000000000000) (R : List (El .u8) × Nat × Int) (hR : gbN b pos most = R) : Api Tryz.prog 90 [.vec .u8 b,i64 pos,i64 most] (.tup [.vec .u8 R.1,i64 R.2.1,i64 R.2.2]):=by
 have hu:=gy b pos h8 hl hp _ rfl
 obtain ⟨h1,h2⟩:=fY h8 hp
 unfold gbN at hR
 generalize guN b pos = G at *
 obtain ⟨n,f,e⟩:=G
 dsimp only at *
 have W1 : ¬ e = 0 → R = ([],0,e):=fun h=>by rw [← hR,if_pos h]
 have W2 : e = 0 → most < n → R = ([],0,3):=fun h1 h2=>by rw [← hR,if_neg (not_not_intro h1),if_pos h2]
 have W3 : e = 0 → ¬ most < n → b.length - f < n → R = ([],0,11):=fun h1 h2 h3=>by rw [← hR,if_neg (not_not_intro h1),if_neg h2,if_pos h3]
 have W4 : e = 0 → ¬ most < n → ¬ b.length - f < n → R = ((b.drop f).take n,f + n,0):=fun h1 h2 h3=>by rw [← hR,if_neg (not_not_intro h1),if_neg h2,if_neg h3]
 clear hR
 have hc:=rI ((b.drop (f : Int).toNat).take (((f : Int) + n) - f).toNat) (by rw [List.length_take,List.length_drop];omega)
 by_cases c1 : e = 0
 ·by_cases c2 : most < n
  ·rw [W2 c1 c2]
   subst c1
   refine aF Tryz.func90 53 ?_
   ((repeat (first|(with_reducible refine af fun N hN hE hT=>?_)|(with_reducible refine ah fun N hN hE hT=>?_)));(try with_reducible refine ai fun X Y hX hY=>?_);(conv=>whnf))
   repeat' (first|exact trivial|((first|((first|apply hT|apply hE|apply hN);clear hN hE hT)|((first|refine hX ?_|refine hY ?_);clear hX hY)|(refine ⟨fun hb=>?_,fun hb=>?_⟩<;>(try simp only [nrm] at hb)<;>try exact kZ hb)|refine kV ?_)<;>((repeat (first|(with_reducible refine af fun N hN hE hT=>?_)|(with_reducible refine ah fun N hN hE hT=>?_)));(try with_reducible refine ai fun X Y hX hY=>?_);(conv=>whnf)))|refine kY ?_ ?_)
  ·by_cases c3 : b.length - f < n
   ·rw [W3 c1 c2 c3]
    subst c1
    refine aF Tryz.func90 53 ?_
    ((repeat (first|(with_reducible refine af fun N hN hE hT=>?_)|(with_reducible refine ah fun N hN hE hT=>?_)));(try with_reducible refine ai fun X Y hX hY=>?_);(conv=>whnf))
    repeat' (first|exact trivial|((first|((first|apply hT|apply hE|apply hN);clear hN hE hT)|((first|refine hX ?_|refine hY ?_);clear hX hY)|(refine ⟨fun hb=>?_,fun hb=>?_⟩<;>(try simp only [nrm] at hb)<;>try exact kZ hb)|refine kV ?_)<;>((repeat (first|(with_reducible refine af fun N hN hE hT=>?_)|(with_reducible refine ah fun N hN hE hT=>?_)));(try with_reducible refine ai fun X Y hX hY=>?_);(conv=>whnf)))|refine kY ?_ ?_)
   ·rw [W4 c1 c2 c3]
    subst c1
    refine aF Tryz.func90 53 ?_
    ((repeat (first|(with_reducible refine af fun N hN hE hT=>?_)|(with_reducible refine ah fun N hN hE hT=>?_)));(try with_reducible refine ai fun X Y hX hY=>?_);(conv=>whnf))
    repeat' (first|exact trivial|((first|((first|apply hT|apply hE|apply hN);clear hN hE hT)|((first|refine hX ?_|refine hY ?_);clear hX hY)|refine kL ?_|(refine ⟨fun hb=>?_,fun hb=>?_⟩<;>(try simp only [nrm] at hb)<;>try exact kZ hb)|refine kE hc [(390001,150001)] rfl ?_|refine kF hc [(390001,150001)] rfl ?_|refine kV ?_)<;>((repeat (first|(with_reducible refine af fun N hN hE hT=>?_)|(with_reducible refine ah fun N hN hE hT=>?_)));(try with_reducible refine ai fun X Y hX hY=>?_);(conv=>whnf)))|refine kY ?_ ?_)
    all_goals first|rfl|(show List.take (List.take ((f : Int) + n - f).toNat (List.drop (f : Int).toNat b)).length (List.drop 0 (List.take ((f : Int) + n - f).toNat (List.drop (f : Int).toNat b))) = List.take n (List.drop f b);rw [List.drop_zero,List.take_length,show ((f : Int) + n - f).toNat = n by omega,Int.toNat_natCast])|trace_state
 ·rw [W1 c1]
  refine aF Tryz.func90 53 ?_
  ((repeat (first|(with_reducible refine af fun N hN hE hT=>?_)|(with_reducible refine ah fun N hN hE hT=>?_)));(try with_reducible refine ai fun X Y hX hY=>?_);(conv=>whnf))
  repeat' (first|exact trivial|((first|((first|apply hT|apply hE|apply hN);clear hN hE hT)|((first|refine hX ?_|refine hY ?_);clear hX hY)|(refine ⟨fun hb=>?_,fun hb=>?_⟩<;>(try simp only [nrm] at hb)<;>try exact kZ hb)|refine kV ?_)<;>((repeat (first|(with_reducible refine af fun N hN hE hT=>?_)|(with_reducible refine ah fun N hN hE hT=>?_)));(try with_reducible refine ai fun X Y hX hY=>?_);(conv=>whnf)))|refine kY ?_ ?_)
open Go Go.RowKit Eng
def atI (s : Rd) : Int:=if s.bad = true then -1 else s.pos
theorem qo (s : Rd) : (s.bad = true ∧ atI s = -1) ∨ (s.bad = false ∧ atI s = s.pos):=by
 unfold atI
 cases h : s.bad
 ·right;simp
 ·left;simp
def ct (b : List Int) (s : Rd) : aG × Rd:=
 (⟨(ac b 1000 s).1 % 256,(ac b 1000 (ac b 1000 s).2).1⟩,if 255 < (ac b 1000 s).1 then ⟨(ac b 1000 (ac b 1000 s).2).2.pos,true⟩ else (ac b 1000 (ac b 1000 s).2).2)
def jN (b : List Int) (s : Rd) : c_ × Rd:=(⟨(ac b 1000 s).1,(ct b (ac b 1000 s).2).1⟩,(ct b (ac b 1000 s).2).2)
structure Rel {α : Type} (f g : Rd → α × Rd) : Prop where
 fine : ∀ s,(f s).2.bad = false → f s = g s
 bad : ∀ s,(f s).2.bad = true → (g s).2.bad = true
theorem wu {b : List Int} {s : Rd} : (255 < (ac b 1000 s).1 → (ac b 255 s).2.bad = true) ∧ ((ac b 1000 s).1 ≤ 255 → ac b 255 s = ac b 1000 s):=by
 cases hs : s.bad with
 | true =>
  rw [dy hs,dy hs]
  exact ⟨fun h=>absurd h (by show ¬ (255 : Int) < 0;omega),fun _=>rfl⟩
 | false =>
  rw [dq hs,dq hs]
  by_cases h1 : (guN b s.pos).2.2 = 0 ∧ (guN b s.pos).1 ≤ 1000
  ·rw [if_pos h1]
   dsimp only
   refine ⟨fun h=>?_,fun h=>?_⟩
   ·rw [if_neg (by omega)]
   ·rw [if_pos (by omega)]
  ·rw [if_neg h1]
   refine ⟨fun h=>absurd h (by show ¬ (255 : Int) < 0;omega),fun _=>?_⟩
   rw [if_neg (by omega)]
theorem xu {b : List Int} {s : Rd} (h : s.bad = true) : (ct b s).2.bad = true:=by
 unfold ct
 dsimp only
 split
 ·rfl
 ·exact bg (bg h)
theorem xv {b : List Int} {s : Rd} (h : s.bad = true) : (bv b s).2.bad = true:=bg (bg h)
theorem ox (b : List Int) : Rel (ct b) (bv b):=by
 refine ⟨fun s h=>?_,fun s h=>?_⟩
 ·obtain ⟨h1,h2⟩:=wu (b:=b) (s:=s)
  unfold ct bv at *
  by_cases hc : 255 < (ac b 1000 s).1
  ·rw [if_pos hc] at h;cases h
  ·rw [if_neg hc,h2 (by omega)]
   have:=bt (b:=b) (most:=1000) (s:=s)
   rw [Int.emod_eq_of_lt this.1 (by omega)]
 ·obtain ⟨h1,h2⟩:=wu (b:=b) (s:=s)
  unfold ct bv at *
  by_cases hc : 255 < (ac b 1000 s).1
  ·exact bg (h1 hc)
  ·rw [if_neg hc] at h
   rw [h2 (by omega)];exact h
theorem oy (b : List Int) : Rel (jN b) (ef b):=by
 refine ⟨fun s h=>?_,fun s h=>(ox b).bad _ h⟩
 unfold jN ef
 rw [(ox b).fine _ h]
theorem iE {α : Type} {f : Rd → α × Rd} (hf : ∀ s,s.bad = true → (f s).2.bad = true) : ∀ (n : Nat) (s : Rd),s.bad = true → (aO f n s).2.bad = true
 | 0,_,h=>h
 | n + 1,s,h=>iE hf n (f s).2 (hf s h)
theorem ne {α : Type} {f g : Rd → α × Rd} (h : Rel f g) : ∀ n,Rel (ao f n) (ao g n)
 | 0=>⟨fun _ _=>rfl,fun _ h=>h⟩
 | n + 1=>by
  have ih:=ne h n
  refine ⟨fun s hb=>?_,fun s hb=>?_⟩
  ·unfold ao at hb ⊢
   by_cases hs : s.bad = true
   ·rw [if_pos hs,if_pos hs]
   ·rw [if_neg hs] at hb
    rw [if_neg hs,if_neg hs]
    have h1 : (f s).2.bad = false:=by
     cases hx : (f s).2.bad with
     | false=>rfl
     | true =>
      rw [show (ao f n (f s).2) = ([],(f s).2) from cA n _ hx] at hb
      rw [show (f s).2.bad = false from hb] at hx;cases hx
    rw [h.fine s h1] at hb ⊢
    rw [ih.fine _ hb]
  ·unfold ao at hb ⊢
   by_cases hs : s.bad = true
   ·rw [if_pos hs];exact hs
   ·rw [if_neg hs] at hb
    rw [if_neg hs]
    cases hx : (f s).2.bad with
    | true =>
     have:=h.bad s hx
     show (ao g n (g s).2).2.bad = true
     rw [cA n _ this];exact this
    | false =>
     rw [h.fine s hx] at hb
     exact ih.bad _ hb
theorem yy {α : Type} {f g : Rd → α × Rd} (h : Rel f g) (hf : ∀ s,s.bad = true → (f s).2.bad = true) (hg : ∀ s,s.bad = true → (g s).2.bad = true) : ∀ n,Rel (aO f n) (aO g n)
 | 0=>⟨fun _ _=>rfl,fun _ h=>h⟩
 | n + 1=>by
  have ih:=yy h hf hg n
  refine ⟨fun s hb=>?_,fun s hb=>?_⟩
  ·unfold aO at hb ⊢
   dsimp only at hb
   have h1 : (f s).2.bad = false:=by
    cases hx : (f s).2.bad with
    | false=>rfl
    | true=>rw [iE hf n _ hx] at hb;cases hb
   rw [h.fine s h1] at hb ⊢
   rw [ih.fine _ hb]
  ·unfold aO at hb ⊢
   dsimp only at hb ⊢
   cases hx : (f s).2.bad with
   | true=>exact iE hg n _ (h.bad s hx)
   | false =>
    rw [h.fine s hx] at hb
    exact ih.bad _ hb
def cE (b : List Int) : List Int → Nat → Rd → List Box × Rd
 | [],_,s=>([],s)
 | i :: r,k,s=>if i = 9 ∧ s.bad = false then ((⟨k,(aO (ct b) 6 s).1⟩ : Box) :: (cE b r (k + 1) (aO (ct b) 6 s).2).1,(cE b r (k + 1) (aO (ct b) 6 s).2).2) else cE b r (k + 1) s
theorem iF (b : List Int) : ∀ (l : List Int) (k : Nat) (s : Rd),s.bad = true → cE b l k s = ([],s)
 | [],_,_,_=>rfl
 | i :: r,k,s,h=>by
  have e : cE b (i :: r) k s = cE b r (k + 1) s:=if_neg fun e=>by rw [h] at e;exact Bool.noConfusion e.2
  rw [e];exact iF b r (k + 1) s h
theorem oz (b : List Int) : ∀ (l : List Int) (k : Nat),Rel (cE b l k) (bm b l k)
 | [],_=>⟨fun _ _=>rfl,fun _ h=>h⟩
 | i :: r,k=>by
  have ih:=oz b r (k + 1)
  have ha:=yy (ox b) (fun s h=>xu h) (fun s h=>xv h) 6
  refine ⟨fun s hb=>?_,fun s hb=>?_⟩
  ·unfold cE at hb ⊢
   unfold bm
   by_cases hc : i = 9 ∧ s.bad = false
   ·rw [if_pos hc] at hb
    rw [if_pos hc,if_pos hc]
    dsimp only at hb
    have h1 : (aO (ct b) 6 s).2.bad = false:=by
     cases hx : (aO (ct b) 6 s).2.bad with
     | false=>rfl
     | true=>rw [iF b r (k + 1) _ hx,hx] at hb;cases hb
    rw [ha.fine s h1] at hb ⊢
    rw [ih.fine _ hb]
   ·rw [if_neg hc] at hb
    rw [if_neg hc,if_neg hc]
    exact ih.fine _ hb
  ·unfold cE at hb
   unfold bm
   by_cases hc : i = 9 ∧ s.bad = false
   ·rw [if_pos hc] at hb
    rw [if_pos hc]
    dsimp only at hb ⊢
    cases hx : (aO (ct b) 6 s).2.bad with
    | true =>
     have:=ha.bad s hx
     rw [gx b r (k + 1) _ this];exact this
    | false =>
     rw [ha.fine s hx] at hb
     exact ih.bad _ hb
   ·rw [if_neg hc] at hb
    rw [if_neg hc]
    exact ih.bad _ hb
def aP (b : List Int) : Em b:=
 let x:=ac b 1000 ⟨0,false⟩
 let y:=ac b 1000 x.2
 let n:=ac b 1000 ⟨y.2.pos + 64,false⟩
 let hs:=ao (jN b) n.1.toNat n.2
 ⟨x,y,n,hs,cE b ((b.drop y.2.pos).take 64) 0 hs.2⟩
def fc (b : List Int) : Chunk:=⟨(aP b).x.1,(aP b).y.1,(b.drop (aP b).y.2.pos).take 64,(aP b).hs.1,(aP b).bx.1⟩
theorem Co {b : List Int} (h : (aP b).bx.2.bad = false) : aP b = aq b:=by
 have hh : (aP b).hs.2.bad = false:=by
  cases hx : (aP b).hs.2.bad with
  | false=>rfl
  | true =>
   have h2 : (cE b ((b.drop (aP b).y.2.pos).take 64) 0 (aP b).hs.2).2.bad = false:=h
   rw [iF _ _ _ _ hx,hx] at h2;cases h2
 have h1:=(ne (oy b) (aP b).n.1.toNat).fine (aP b).n.2 hh
 have h2:=(oz b ((b.drop (aP b).y.2.pos).take 64) 0).fine (aP b).hs.2 h
 have e1 : (aP b).hs = (aq b).hs:=h1
 have e2 : (aP b).bx = bm b ((b.drop (aP b).y.2.pos).take 64) 0 (aP b).hs.2:=h2
 rw [e1] at e2
 have e3 : (aP b).bx = (aq b).bx:=e2
 have q : aP b = ⟨(aP b).x,(aP b).y,(aP b).n,(aP b).hs,(aP b).bx⟩:=rfl
 rw [q,e1,e3]
 rfl
theorem D0 {b : List Int} (h : (aP b).bx.2.bad = true) : (aq b).bx.2.bad = true:=by
 have h2:=(oz b ((b.drop (aP b).y.2.pos).take 64) 0).bad (aP b).hs.2 h
 cases hx : (aP b).hs.2.bad with
 | true =>
  have h1:=(ne (oy b) (aP b).n.1.toNat).bad (aP b).n.2 hx
  have h3 : (aq b).hs.2.bad = true:=h1
  show (bm b ((b.drop (aq b).y.2.pos).take 64) 0 (aq b).hs.2).2.bad = true
  rw [gx _ _ _ _ h3];exact h3
 | false =>
  have h1:=(ne (oy b) (aP b).n.1.toNat).fine (aP b).n.2 hx
  have e1 : (aP b).hs = (aq b).hs:=h1
  rw [e1] at h2
  exact h2
structure Fo (b : List Int) (R : Chunk × Int) : Prop where
 w1 : ((aP b).y.2.bad = true ∨ b.length - (aP b).y.2.pos < 64) → R = (bf,101)
 w2 : (aP b).bx.2.bad = true → R = (bf,101)
 w3 : ¬ (aP b).bx.2.pos = b.length → R = (bf,101)
 w4 : ar (fc b) = false → R = (bf,101)
 w5 : ¬ ((aP b).y.2.bad = true ∨ b.length - (aP b).y.2.pos < 64) → (aP b).bx.2.bad = false → (aP b).bx.2.pos = b.length → ar (fc b) = true → R = (fc b,0) ∧ aK (fc b) = b
theorem Fp {b : List Int} (h8 : au b) : Fo b (bh b):=by
 by_cases c1 : (aP b).y.2.bad = true ∨ b.length - (aP b).y.2.pos < 64
 ·have e : bh b = (bf,101):=if_pos c1
  exact ⟨fun _=>e,fun _=>e,fun _=>e,fun _=>e,fun h=>absurd c1 h⟩
 ·have e0 : bh b = if (aq b).bx.2.bad = true ∨ ¬ (aq b).bx.2.pos = b.length ∨ ar (dA b) = false then (bf,101) else (dA b,0):=if_neg c1
  cases c2 : (aP b).bx.2.bad with
  | true =>
   have e : bh b = (bf,101):=by rw [e0,if_pos (.inl (D0 c2))]
   exact ⟨fun _=>e,fun _=>e,fun _=>e,fun _=>e,fun _ h=>(by cases h.symm.trans c2)⟩
  | false =>
   have ek:=Co c2
   have ec : fc b = dA b:=by unfold fc dA;rw [ek]
   have w3 : ¬ (aP b).bx.2.pos = b.length → bh b = (bf,101):=fun h=>by rw [e0,if_pos (.inr (.inl (by rw [← ek];exact h)))]
   have w4 : ar (fc b) = false → bh b = (bf,101):=fun h=>by rw [e0,if_pos (.inr (.inr (by rw [← ec];exact h)))]
   refine ⟨fun h=>absurd h c1,fun h=>(by cases h.symm.trans c2),w3,w4,fun _ _ h3 h4=>?_⟩
   have e : bh b = (dA b,0):=by
    rw [e0,if_neg]
    rintro (h|h|h)
    ·rw [← ek,c2] at h;cases h
    ·rw [← ek] at h;exact h h3
    ·rw [← ec,h4] at h;cases h
   have h5:=pE h8 (by rw [e])
   rw [e] at h5
   exact ⟨by rw [e,ec],by rw [ec];exact h5.1⟩
theorem wv {b : List Int} {s : Rd} : bP (ct b s).1:=by
 show 0 ≤ (ac b 1000 s).1 % 256 ∧ (ac b 1000 s).1 % 256 ≤ 255
 omega
theorem oA {b : List Int} : ∀ (l : List Int) (k : Nat) (s : Rd),(cE b l k s).1.length ≤ l.length ∧ ∀ x ∈ (cE b l k s).1,uc x
 | [],_,_=>⟨Nat.le_refl _,fun x hx=>by cases hx⟩
 | i :: r,k,s=>by
  unfold cE
  split
  ·obtain ⟨h1,h2⟩:=oA (b:=b) r (k + 1) (aO (ct b) 6 s).2
   dsimp only
   refine ⟨by simp only [List.length_cons];omega,fun x hx=>?_⟩
   rcases List.mem_cons.1 hx with rfl|hx
   ·obtain ⟨a1,a2⟩:=mw (f:=ct b) (p:=bP) (fun s=>wv) 6 s
    exact ⟨a2,by show (aO (ct b) 6 s).1.length ≤ big;rw [a1];unfold big;omega⟩
   ·exact h2 x hx
  ·obtain ⟨h1,h2⟩:=oA (b:=b) r (k + 1) s
   exact ⟨by simp only [List.length_cons];omega,h2⟩
theorem Gp {b : List Int} (hb : au b) : OkC (fc b):=by
 obtain ⟨h1,h2⟩:=kJ (f:=jN b) (p:=mq) (fun s=>wv) (aP b).n.1.toNat (aP b).n.2
 obtain ⟨h3,h4⟩:=oA (b:=b) ((b.drop (aP b).y.2.pos).take 64) 0 (aP b).hs.2
 have h5 : (aP b).n.1 ≤ (1000 : Nat):=(bt (b:=b) (most:=1000)).2
 have h6 : ((b.drop (aP b).y.2.pos).take 64).length ≤ 64:=by rw [List.length_take];omega
 refine ⟨fun i hi=>hb i (List.mem_of_mem_drop (List.mem_of_mem_take hi)),h2,h4,?_,?_,?_⟩
 ·show ((b.drop (aP b).y.2.pos).take 64).length ≤ big
  unfold big;omega
 ·show (ao (jN b) (aP b).n.1.toNat (aP b).n.2).1.length ≤ big
  unfold big;omega
 ·show (cE b ((b.drop (aP b).y.2.pos).take 64) 0 (aP b).hs.2).1.length ≤ big
  unfold big;omega
open Go Go.RowKit Eng
theorem ny (c : Chunk) (hc : OkC c) : Api Tryz.prog 82 [bz c] (.tup [.vec .u8 (if ar c = true then aK c else []),i64 (if ar c = true then 0 else 101)]):=by
 have hrt:=f9 c hc
 cases hR : ar c with
 | true=>simpa using wx c hc hR
 | false =>
  rw [hR] at hrt
  rw [if_neg (by simp),if_neg (by simp)]
  refine aF Tryz.func82 112 ?_
  ((repeat (first|(with_reducible refine af fun N hN hE hT=>?_)|(with_reducible refine ah fun N hN hE hT=>?_)));(try with_reducible refine ai fun X Y hX hY=>?_);(conv=>whnf))
  repeat' (first|exact trivial|((first|((first|apply hT|apply hE|apply hN);clear hN hE hT)|((first|refine hX ?_|refine hY ?_);clear hX hY)|(refine ⟨fun hb=>?_,fun hb=>?_⟩<;>(try simp only [nrm] at hb)<;>try exact kZ hb)|refine kV ?_)<;>((repeat (first|(with_reducible refine af fun N hN hE hT=>?_)|(with_reducible refine ah fun N hN hE hT=>?_)));(try with_reducible refine ai fun X Y hX hY=>?_);(conv=>whnf)))|refine kY ?_ ?_)
  all_goals first|rfl|trace_state
theorem my {s : Rd} (h : s.bad = true) : atI s = -1:=if_pos h
theorem eT {s : Rd} (h : s.bad = false) : atI s = s.pos:=if_neg (by rw [h];simp)
theorem dI (b : List (El .u8)) (A : Int) (s : Rd) (hA : A = atI s) (h8 : au b) (hl : b.length ≤ 1000000000000) (hp : s.pos ≤ b.length) : Api Tryz.prog 157 [.vec .u8 b,i64 A] (.tup [i64 (ac b 1000 s).1,i64 (atI (ac b 1000 s).2)]):=by
 have hu:=gy b s.pos h8 hl hp _ rfl
 obtain ⟨h1,h2⟩:=fY h8 hp
 cases hs : s.bad with
 | true =>
  rw [dy hs]
  rw [my hs] at hA
  rw [my hs]
  subst hA
  refine aF Tryz.func157 25 ?_
  ((repeat (first|(with_reducible refine af fun N hN hE hT=>?_)|(with_reducible refine ah fun N hN hE hT=>?_)));(try with_reducible refine ai fun X Y hX hY=>?_);(conv=>whnf))
  repeat' (first|exact trivial|((first|((first|apply hT|apply hE|apply hN);clear hN hE hT)|((first|refine hX ?_|refine hY ?_);clear hX hY)|(refine ⟨fun hb=>?_,fun hb=>?_⟩<;>(try simp only [nrm] at hb)<;>try exact kZ hb)|refine kV ?_)<;>((repeat (first|(with_reducible refine af fun N hN hE hT=>?_)|(with_reducible refine ah fun N hN hE hT=>?_)));(try with_reducible refine ai fun X Y hX hY=>?_);(conv=>whnf)))|refine kY ?_ ?_)
 | false =>
  rw [eT hs] at hA
  subst hA
  rw [dq hs]
  generalize guN b s.pos = G at *
  obtain ⟨n,f,e⟩:=G
  dsimp only at *
  by_cases c1 : e = 0 ∧ n ≤ 1000
  ·rw [if_pos c1]
   obtain ⟨rfl,c2⟩:=c1
   dsimp only
   rw [eT rfl]
   refine aF Tryz.func157 25 ?_
   ((repeat (first|(with_reducible refine af fun N hN hE hT=>?_)|(with_reducible refine ah fun N hN hE hT=>?_)));(try with_reducible refine ai fun X Y hX hY=>?_);(conv=>whnf))
   repeat' (first|exact trivial|((first|((first|apply hT|apply hE|apply hN);clear hN hE hT)|((first|refine hX ?_|refine hY ?_);clear hX hY)|(refine ⟨fun hb=>?_,fun hb=>?_⟩<;>(try simp only [nrm] at hb)<;>try exact kZ hb)|refine kV ?_)<;>((repeat (first|(with_reducible refine af fun N hN hE hT=>?_)|(with_reducible refine ah fun N hN hE hT=>?_)));(try with_reducible refine ai fun X Y hX hY=>?_);(conv=>whnf)))|refine kY ?_ ?_)
  ·rw [if_neg c1]
   dsimp only
   rw [my rfl]
   refine aF Tryz.func157 25 ?_
   ((repeat (first|(with_reducible refine af fun N hN hE hT=>?_)|(with_reducible refine ah fun N hN hE hT=>?_)));(try with_reducible refine ai fun X Y hX hY=>?_);(conv=>whnf))
   repeat' (first|exact trivial|((first|((first|apply hT|apply hE|apply hN);clear hN hE hT)|((first|refine hX ?_|refine hY ?_);clear hX hY)|(refine ⟨fun hb=>?_,fun hb=>?_⟩<;>(try simp only [nrm] at hb)<;>try exact kZ hb)|refine kV ?_)<;>((repeat (first|(with_reducible refine af fun N hN hE hT=>?_)|(with_reducible refine ah fun N hN hE hT=>?_)));(try with_reducible refine ai fun X Y hX hY=>?_);(conv=>whnf)))|refine kY ?_ ?_)
   all_goals first|omega|trace_state
theorem ww (z : Int) : IntKind.u8.wrap z = z % 256:=by
 simp only [IntKind.wrap,IntKind.bits,IntKind.signed]
 simp
theorem wU8 {z : Int} (h : 0 ≤ z) (h2 : z ≤ 255) : z % 256 = z:=Int.emod_eq_of_lt h (by omega)
theorem u8K {n : Int} {c d : Prop} (h : d) : (inR .u8 n ∧ c) ∨ d:=.inr h
end Go.Proofs.YtaecchphjploaaaGreat
