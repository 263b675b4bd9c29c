/- homesteadref20.Make. -/
import Derived.Test.YtaecchphjploaaaGreatHa
set_option linter.unusedSimpArgs false
set_option linter.unusedVariables false
set_option maxRecDepth 100000
set_option maxHeartbeats 16000000
namespace Go.Proofs.YtaecchphjploaaaGreat
open Go Go.RowKit Eng
theorem Ar (a B : List (El .u8)) (n : Nat) (hn : n = a.length) (hl : a.length + B.length ≤ 10000000000) : Ev1 Tryz.prog 83 [.own .u8 1 0 n none,.vec .u8 B] [(1,.row .u8 a)] (.own .u8 390001 0 (n + (aj B.length ++ B).length) none) [(390001,.row .u8 (a ++ (aj B.length ++ B)))]:=by
 subst hn
 have u1:=di a _ (B.length : Int) rfl (by omega) (by omega) (by omega)
 rw [Int.toNat_natCast] at u1
 have lu:=dn B.length
 have u2:=tM (a ++ aj B.length) B (a.length + (aj B.length).length) (by rw [List.length_append]) (by rw [List.length_append];omega)
 generalize aj B.length = U at *
 refine Ev1.of_fin aa Tryz.func83 rfl (nt:=10) rfl rfl rfl ?_
 ((repeat (first|(with_reducible refine af fun N hN hE hT=>?_)|(with_reducible refine ah fun N hN hE hT=>?_)));(try with_reducible refine ai fun X Y hX hY=>?_);(conv=>whnf))
 repeat' (first|exact trivial|((first|((first|refine hT _ _ ?_|refine hE _ _ _ ?_|refine hN _ _ ?_);clear hN hE hT)|((first|refine hX ?_|refine hY ?_);clear hX hY)|refine kL ?_|(refine ⟨fun hb=>?_,fun hb=>?_⟩<;>(try simp only [nrm] at hb)<;>(try (first|(exfalso;omega)|contradiction|exact kB hb)))|refine kE u1 [(1,1),(390001,350001)] rfl ?_ (hrd:=⟨rfl,trivial⟩)|refine kF u1 [(1,1),(390001,350001)] rfl ?_ (hrd:=⟨rfl,trivial⟩)|refine kE u2 [(1,350001),(390001,350003)] rfl ?_ (hrd:=⟨rfl,trivial⟩)|refine kF u2 [(1,350001),(390001,350003)] rfl ?_ (hrd:=⟨rfl,trivial⟩)|refine kW aa ?_|refine kC ?_|refine bdA ?_|refine bd2 ?_|refine bdR ?_|refine bdL ?_)<;>((repeat (first|(with_reducible refine af fun N hN hE hT=>?_)|(with_reducible refine ah fun N hN hE hT=>?_)));(try with_reducible refine ai fun X Y hX hY=>?_);(conv=>whnf)))|(refine And.intro ?_ ?_;rotate_left;(conv=>whnf);rotate_right))
 all_goals first|rfl|(simp only [List.length_append];omega)|(rw [List.take_of_length_le (by simp only [List.length_append];omega),List.append_assoc])|trace_state
def gn (s : aG) : List Int:=[s.item,s.n]
theorem Cy (l : List aG) : an (l.flatMap gn) = l.flatMap a_:=by
 induction l with
 | nil=>rfl
 | cons s t ih =>
   rw [List.flatMap_cons,List.flatMap_cons,yu,ih]
   rfl
theorem As {l : List Int} (h : au l) : ei (strOfNums l) = l:=by
 have e : (strOfNums l).data.toList = l.map fun n=>UInt8.ofNat n.toNat:=by
   simp [strOfNums]
 unfold ei
 rw [e,List.map_map]
 refine (List.map_congr_left fun a ha=>?_).trans (List.map_id l)
 have:=h a ha
 show ((UInt8.ofNat a.toNat).toNat : Int) = a
 simp only [UInt8.toNat_ofNat']
 omega
theorem cP {l : List (El .i64)} {x y : Int} : List.take (l.length + (List.take 2 (List.drop 0 [x,y])).length) (List.take l.length l ++ List.take 2 (List.drop 0 [x,y])) = l ++ [x,y]:=by
 rw [show List.take 2 (List.drop 0 [x,y]) = [x,y] from rfl,List.take_length,List.take_of_length_le (by rw [List.length_append];simp)]
theorem Au (v n : Viw) : makeY v n = an (([n.tick,n.me.id,n.me.x,n.me.y] ++ n.me.bag.flatMap gn ++ [n.me.wth + 1,agI n.me.agrees]) ++ n.me.offer.flatMap gn ++ [(n.chunks.length : Int)]) ++ n.chunks.flatMap (chunkY v) ++ an [(n.others.length : Int)] ++ n.others.flatMap bS:=by
 unfold makeY
 simp only [yu,Cy,List.append_assoc]
theorem D9 {n : Viw} (h : wd n) : ∀ z ∈ ([n.tick,n.me.id,n.me.x,n.me.y] ++ n.me.bag.flatMap gn ++ [n.me.wth + 1,agI n.me.agrees]) ++ n.me.offer.flatMap gn ++ [(n.chunks.length : Int)],okN z:=by
 have p1:=h.tick;have p2:=h.id;have p3:=h.x;have p4:=h.y;have p5:=h.w;have p6:=h.nc
 have hag : 0 ≤ agI n.me.agrees ∧ agI n.me.agrees ≤ 1:=by unfold agI;split<;>omega
 have hs : ∀ l : List aG,(∀ s ∈ l,(0 ≤ s.item ∧ s.item ≤ 255) ∧ 0 ≤ s.n ∧ s.n ≤ 16) → ∀ z ∈ l.flatMap gn,okN z:=fun l hl z hz=>by
   obtain ⟨s,hs,hz⟩:=List.mem_flatMap.1 hz
   have:=hl s hs
   unfold gn at hz
   simp only [List.mem_cons,List.not_mem_nil,or_false] at hz
   unfold okN
   rcases hz with rfl|rfl<;>omega
 intro z hz
 simp only [List.mem_append] at hz
 rcases hz with (((hz|hz)|hz)|hz)|hz
 · simp only [List.mem_cons,List.not_mem_nil,or_false] at hz
   unfold okN
   rcases hz with rfl|rfl|rfl|rfl<;>omega
 · exact hs _ h.bagS z hz
 · simp only [List.mem_cons,List.not_mem_nil,or_false] at hz
   unfold okN
   rcases hz with rfl|rfl<;>omega
 · exact hs _ h.offS z hz
 · rw [List.mem_singleton.1 hz];unfold okN;omega
theorem Cz {v : Viw} (h : baseB v = true) : (aV v = true) ∨ (aV v = false ∧ nothingB v = true):=by
 unfold baseB at h
 cases h1 : aV v
 · right;rw [h1,Bool.or_false] at h;exact ⟨rfl,h⟩
 · left;rfl
theorem Av {v : Viw} (hb : baseB v = true) {x y : Int} : mS (aA v x y).1:=by
 cases hf : (aA v x y).2 with
 | true=>exact jH ((eS hb).1 hf)
 | false =>
   have e : (aA v x y).1 = bf:=by
     unfold aA at hf ⊢
     split at hf
     · rename_i h;rw [if_pos h]
     · cases hf
   rw [e];exact ⟨by decide,by decide,by decide,by simp [bf]⟩
set_option maxHeartbeats 40000000 in
theorem pJ (v n : Viw) (hv : OkV v) (hn : OkV n) : Api Tryz.prog 41 [bk v,bk n] (.tup [.vec .u8 (makeE v n).1,i64 (makeE v n).2]):=by
 have hr:=iI n hn
 have hr2:=iI v hv
 have hno:=i7 v hv
 unfold makeE makeB
 have hbase : baseB v = (nothingB v || aV v):=rfl
 cases hR : aV n with
 | false =>
   rw [hR] at hr
   rw [Bool.false_and,if_neg (by simp),if_neg (by simp)]
   refine Api.of_fin aa Tryz.func41 rfl (nt:=225) rfl rfl ?_
   ((repeat (first|(with_reducible refine af fun N hN hE hT=>?_)|(with_reducible refine ah fun N hN hE hT=>?_)));(try with_reducible refine ai fun X Y hX hY=>?_);(conv=>whnf))
   repeat' (first|exact trivial|((first|((first|refine hT _ _ ?_|refine hE _ _ _ ?_|refine hN _ _ ?_);clear hN hE hT)|((first|refine hX ?_|refine hY ?_);clear hX hY)|refine kL ?_|(refine ⟨fun hb=>?_,fun hb=>?_⟩<;>(try simp only [nrm] at hb)<;>(try (first|(exfalso;omega)|contradiction|exact kB hb)))|refine kA hr ?_|refine kD hr ?_|refine kA hr2 ?_|refine kD hr2 ?_|refine kA hno ?_|refine kD hno ?_|refine kW aa ?_|refine kC ?_|refine bdA ?_|refine bd2 ?_|refine bdR ?_|refine bdL ?_)<;>((repeat (first|(with_reducible refine af fun N hN hE hT=>?_)|(with_reducible refine ah fun N hN hE hT=>?_)));(try with_reducible refine ai fun X Y hX hY=>?_);(conv=>whnf)))|(refine And.intro ?_ ?_;rotate_left;(conv=>whnf);rotate_right))
   all_goals first|rfl|trace_state
 | true =>
 rw [hR] at hr
 cases hB : baseB v with
 | false =>
   rw [hB] at hbase
   have q1 : nothingB v = false ∧ aV v = false:=by simpa using hbase.symm
   rw [q1.1] at hno
   rw [q1.2] at hr2
   rw [Bool.true_and,if_neg (by simp),if_neg (by simp)]
   refine Api.of_fin aa Tryz.func41 rfl (nt:=225) rfl rfl ?_
   ((repeat (first|(with_reducible refine af fun N hN hE hT=>?_)|(with_reducible refine ah fun N hN hE hT=>?_)));(try with_reducible refine ai fun X Y hX hY=>?_);(conv=>whnf))
   repeat' (first|exact trivial|((first|((first|refine hT _ _ ?_|refine hE _ _ _ ?_|refine hN _ _ ?_);clear hN hE hT)|((first|refine hX ?_|refine hY ?_);clear hX hY)|refine kL ?_|(refine ⟨fun hb=>?_,fun hb=>?_⟩<;>(try simp only [nrm] at hb)<;>(try (first|(exfalso;omega)|contradiction|exact kB hb)))|refine kA hr ?_|refine kD hr ?_|refine kA hr2 ?_|refine kD hr2 ?_|refine kA hno ?_|refine kD hno ?_|refine kW aa ?_|refine kC ?_|refine bdA ?_|refine bd2 ?_|refine bdR ?_|refine bdL ?_)<;>((repeat (first|(with_reducible refine af fun N hN hE hT=>?_)|(with_reducible refine ah fun N hN hE hT=>?_)));(try with_reducible refine ai fun X Y hX hY=>?_);(conv=>whnf)))|(refine And.intro ?_ ?_;rotate_left;(conv=>whnf);rotate_right))
   all_goals first|rfl|trace_state
 | true =>
 rw [Bool.true_and,if_pos rfl,if_pos rfl]
 clear hbase
 have hP:=dN hR
 have p1:=hP.tick;have p2:=hP.id;have p3:=hP.x;have p4:=hP.y;have p5:=hP.w;have p6:=hP.nc;have p7:=hP.no;have p8:=hP.bag
 have p9 : n.me.offer.length ≤ 8:=by
   rcases hP.off with ⟨_,h,_⟩|⟨_,h⟩
   · rw [h];simp
   · omega
 have hag : 0 ≤ agI n.me.agrees ∧ agI n.me.agrees ≤ 1:=by unfold agI;split<;>omega
 have hnums:=D9 hP
 have hax : (n.me.agrees = true ∧ agI n.me.agrees = 1) ∨ (n.me.agrees = false ∧ agI n.me.agrees = 0):=by unfold agI;cases n.me.agrees<;>simp
 have hYl:=Au v n
 have hnv:=hv.nc
 obtain ⟨G1,hG1⟩ : ∃ G,aV v = G:=⟨_,rfl⟩
 obtain ⟨G2,hG2⟩ : ∃ G,nothingB v = G:=⟨_,rfl⟩
 have hG:=Cz hB
 rw [hG1] at hr2
 rw [hG2] at hno
 rw [hG1,hG2] at hG
 rcases hG with hg|⟨hg,hg2⟩
 all_goals
   first|(rw [hg] at hr2;rw [hg2] at hno)|rw [hg] at hr2
   rcases hax with ⟨hx,hy⟩|⟨hx,hy⟩
 all_goals
   refine Api.of_fin aa Tryz.func41 rfl (nt:=225) rfl rfl ?_
   ((repeat (first|(with_reducible refine af fun N hN hE hT=>?_)|(with_reducible refine ah fun N hN hE hT=>?_)));(try with_reducible refine ai fun X Y hX hY=>?_);(conv=>whnf))
   repeat' (first|exact trivial|((first|((first|refine hT _ _ ?_|refine hE _ _ _ ?_|refine hN _ _ ?_);clear hN hE hT)|((first|refine hX ?_|refine hY ?_);clear hX hY)|refine kL ?_|(refine ⟨fun hb=>?_,fun hb=>?_⟩<;>(try simp only [nrm] at hb)<;>(try (first|(exfalso;omega)|contradiction|exact kB hb)))|refine kA hr ?_|refine kD hr ?_|refine kA hr2 ?_|refine kD hr2 ?_|refine kA hno ?_|refine kD hno ?_|refine kW aa ?_|refine kC ?_|refine bdA ?_|refine bd2 ?_|refine bdR ?_|refine bdL ?_)<;>((repeat (first|(with_reducible refine af fun N hN hE hT=>?_)|(with_reducible refine ah fun N hN hE hT=>?_)));(try with_reducible refine ai fun X Y hX hY=>?_);(conv=>whnf)))|(refine And.intro ?_ ?_;rotate_left;(conv=>whnf);rotate_right))
   clear hr hr2 hno
   have okS:=hP.bagS
   refine aw.loopS aa (σ:=Nat × List Int) [2,3,6,7,8,9] (fun (k,L)=>[.ptr 4 0,.ptr 6 0,.ptr 12 0,i64 (agI n.me.agrees),.own .i64 350011 0 L.length none,i64 k]) (fun (_,L)=>[(4,.box (bA v)),(6,.box (bA n)),(12,.box [i64 n.me.id,i64 n.me.x,i64 n.me.y,.vec .slot n.me.bag,i64 n.me.wth,.vec .slot n.me.offer,bol n.me.agrees]),(350011,.row .i64 L)]) (fun (k,L)=>k ≤ n.me.bag.length ∧ L = [n.tick,n.me.id,n.me.x,n.me.y] ++ (n.me.bag.take k).flatMap gn ∧ L.length = 4 + 2 * k) (fun (k,_)=>n.me.bag.length - k) (0,[n.tick,n.me.id,n.me.x,n.me.y]) ⟨by omega,by simp,by simp;try omega⟩ ?_ ?_
   · conv=>whnf
     repeat' (first|exact trivial|((first|((first|refine hT _ _ ?_|refine hE _ _ _ ?_|refine hN _ _ ?_);clear hN hE hT)|((first|refine hX ?_|refine hY ?_);clear hX hY)|refine kL ?_|(refine ⟨fun hb=>?_,fun hb=>?_⟩<;>(try simp only [nrm] at hb)<;>(try (first|(exfalso;omega)|contradiction|exact kB hb)))|refine kW aa ?_|refine kC ?_|refine bdA ?_|refine bd2 ?_|refine bdR ?_|refine bdL ?_)<;>((repeat (first|(with_reducible refine af fun N hN hE hT=>?_)|(with_reducible refine ah fun N hN hE hT=>?_)));(try with_reducible refine ai fun X Y hX hY=>?_);(conv=>whnf)))|(refine And.intro ?_ ?_;rotate_left;(conv=>whnf);rotate_right))
     all_goals first|rfl|(simp only [List.length_append];done)|(simp only [List.length_append,List.take_length];done)|(refine List.take_of_length_le ?_;simp only [List.length_append];omega)|exact List.take_length|exact congrArg (Value.int _) hy.symm|exact cP|trace_state
   · rintro ⟨k,L⟩ ⟨hk,hL,hLl⟩
     try dsimp only at hk hL hLl
     by_cases hlt : k < n.me.bag.length
     · have q1:=okS _ (ay (t:=.slot) hlt)
       have q2 : (elt .slot n.me.bag (k : Int).toNat).item = (elt .slot n.me.bag k).item:=rfl
       have q3 : (elt .slot n.me.bag (k : Int).toNat).n = (elt .slot n.me.bag k).n:=rfl
       have hn1 : L ++ [(elt .slot n.me.bag k).item,(elt .slot n.me.bag k).n] = [n.tick,n.me.id,n.me.x,n.me.y] ++ (n.me.bag.take (k + 1)).flatMap gn:=by rw [cf (t:=.slot) gn hlt,hL,List.append_assoc];rfl
       have hn2 : (L ++ [(elt .slot n.me.bag k).item,(elt .slot n.me.bag k).n]).length = 4 + 2 * (k + 1):=by rw [List.length_append];simp;omega
       conv=>whnf
       repeat' (first|exact trivial|((first|((first|refine hT _ _ ?_|refine hE _ _ _ ?_|refine hN _ _ ?_);clear hN hE hT)|((first|refine hX ?_|refine hY ?_);clear hX hY)|refine kL ?_|(refine ⟨fun hb=>?_,fun hb=>?_⟩<;>(try simp only [nrm] at hb)<;>(try (first|(exfalso;omega)|contradiction|exact kB hb)))|refine kW aa ?_|refine kC ?_|refine bdA ?_|refine bd2 ?_|refine bdR ?_|refine bdL ?_)<;>((repeat (first|(with_reducible refine af fun N hN hE hT=>?_)|(with_reducible refine ah fun N hN hE hT=>?_)));(try with_reducible refine ai fun X Y hX hY=>?_);(conv=>whnf)))|(refine And.intro ?_ ?_;rotate_left;(conv=>whnf);rotate_right))
       refine .to (k + 1,_) ⟨hlt,hn1,hn2⟩ (by first|omega|(dsimp only;omega)) ?_
       conv=>whnf
       repeat' (first|exact trivial|((first|((first|refine hT _ _ ?_|refine hE _ _ _ ?_|refine hN _ _ ?_);clear hN hE hT)|((first|refine hX ?_|refine hY ?_);clear hX hY)|refine kL ?_|(refine ⟨fun hb=>?_,fun hb=>?_⟩<;>(try simp only [nrm] at hb)<;>(try (first|(exfalso;omega)|contradiction|exact kB hb)))|refine kW aa ?_|refine kC ?_|refine bdA ?_|refine bd2 ?_|refine bdR ?_|refine bdL ?_)<;>((repeat (first|(with_reducible refine af fun N hN hE hT=>?_)|(with_reducible refine ah fun N hN hE hT=>?_)));(try with_reducible refine ai fun X Y hX hY=>?_);(conv=>whnf)))|(refine And.intro ?_ ?_;rotate_left;(conv=>whnf);rotate_right))
       all_goals first|rfl|exact cP|(simp;done)|exact congrArg (Value.int _) hy.symm|trace_state
     · obtain rfl : k = n.me.bag.length:=by omega
       rw [List.take_length] at hL
       rw [p8] at hLl
       conv=>whnf
       repeat' (first|exact trivial|((first|((first|refine hT _ _ ?_|refine hE _ _ _ ?_|refine hN _ _ ?_);clear hN hE hT)|((first|refine hX ?_|refine hY ?_);clear hX hY)|refine kL ?_|(refine ⟨fun hb=>?_,fun hb=>?_⟩<;>(try simp only [nrm] at hb)<;>(try (first|(exfalso;omega)|contradiction|exact kB hb)))|refine kW aa ?_|refine kC ?_|refine bdA ?_|refine bd2 ?_|refine bdR ?_|refine bdL ?_)<;>((repeat (first|(with_reducible refine af fun N hN hE hT=>?_)|(with_reducible refine ah fun N hN hE hT=>?_)));(try with_reducible refine ai fun X Y hX hY=>?_);(conv=>whnf)))|(refine And.intro ?_ ?_;rotate_left;(conv=>whnf);rotate_right))
       clear okS
       have okS:=hP.offS
       refine aw.loopS aa (σ:=Nat × List Int) [2,3,6,8,10] (fun (k,M)=>[.ptr 4 0,.ptr 6 0,.ptr 12 0,.own .i64 350013 0 M.length none,i64 k]) (fun (_,M)=>[(4,.box (bA v)),(6,.box (bA n)),(12,.box [i64 n.me.id,i64 n.me.x,i64 n.me.y,.vec .slot n.me.bag,i64 n.me.wth,.vec .slot n.me.offer,bol n.me.agrees]),(350013,.row .i64 M)]) (fun (k,M)=>k ≤ n.me.offer.length ∧ M = (L ++ [n.me.wth + 1,agI n.me.agrees]) ++ (n.me.offer.take k).flatMap gn ∧ M.length = 22 + 2 * k) (fun (k,_)=>n.me.offer.length - k) (0,(L ++ [n.me.wth + 1,agI n.me.agrees])) ⟨by omega,by simp,by simp;try omega⟩ ?_ ?_
       · conv=>whnf
         repeat' (first|exact trivial|((first|((first|refine hT _ _ ?_|refine hE _ _ _ ?_|refine hN _ _ ?_);clear hN hE hT)|((first|refine hX ?_|refine hY ?_);clear hX hY)|refine kL ?_|(refine ⟨fun hb=>?_,fun hb=>?_⟩<;>(try simp only [nrm] at hb)<;>(try (first|(exfalso;omega)|contradiction|exact kB hb)))|refine kW aa ?_|refine kC ?_|refine bdA ?_|refine bd2 ?_|refine bdR ?_|refine bdL ?_)<;>((repeat (first|(with_reducible refine af fun N hN hE hT=>?_)|(with_reducible refine ah fun N hN hE hT=>?_)));(try with_reducible refine ai fun X Y hX hY=>?_);(conv=>whnf)))|(refine And.intro ?_ ?_;rotate_left;(conv=>whnf);rotate_right))
         all_goals first|rfl|(simp only [List.length_append];done)|(simp only [List.length_append,List.take_length];done)|(refine List.take_of_length_le ?_;simp only [List.length_append];omega)|exact List.take_length|exact congrArg (Value.int _) hy.symm|exact cP|trace_state
       · rintro ⟨k,M⟩ ⟨hk,hM,hMl⟩
         try dsimp only at hk hM hMl
         by_cases hlt : k < n.me.offer.length
         · have q1:=okS _ (ay (t:=.slot) hlt)
           have q2 : (elt .slot n.me.offer (k : Int).toNat).item = (elt .slot n.me.offer k).item:=rfl
           have q3 : (elt .slot n.me.offer (k : Int).toNat).n = (elt .slot n.me.offer k).n:=rfl
           have hn1 : M ++ [(elt .slot n.me.offer k).item,(elt .slot n.me.offer k).n] = (L ++ [n.me.wth + 1,agI n.me.agrees]) ++ (n.me.offer.take (k + 1)).flatMap gn:=by rw [cf (t:=.slot) gn hlt,hM,List.append_assoc];rfl
           have hn2 : (M ++ [(elt .slot n.me.offer k).item,(elt .slot n.me.offer k).n]).length = 22 + 2 * (k + 1):=by rw [List.length_append];simp;omega
           conv=>whnf
           repeat' (first|exact trivial|((first|((first|refine hT _ _ ?_|refine hE _ _ _ ?_|refine hN _ _ ?_);clear hN hE hT)|((first|refine hX ?_|refine hY ?_);clear hX hY)|refine kL ?_|(refine ⟨fun hb=>?_,fun hb=>?_⟩<;>(try simp only [nrm] at hb)<;>(try (first|(exfalso;omega)|contradiction|exact kB hb)))|refine kW aa ?_|refine kC ?_|refine bdA ?_|refine bd2 ?_|refine bdR ?_|refine bdL ?_)<;>((repeat (first|(with_reducible refine af fun N hN hE hT=>?_)|(with_reducible refine ah fun N hN hE hT=>?_)));(try with_reducible refine ai fun X Y hX hY=>?_);(conv=>whnf)))|(refine And.intro ?_ ?_;rotate_left;(conv=>whnf);rotate_right))
           refine .to (k + 1,_) ⟨hlt,hn1,hn2⟩ (by first|omega|(dsimp only;omega)) ?_
           conv=>whnf
           repeat' (first|exact trivial|((first|((first|refine hT _ _ ?_|refine hE _ _ _ ?_|refine hN _ _ ?_);clear hN hE hT)|((first|refine hX ?_|refine hY ?_);clear hX hY)|refine kL ?_|(refine ⟨fun hb=>?_,fun hb=>?_⟩<;>(try simp only [nrm] at hb)<;>(try (first|(exfalso;omega)|contradiction|exact kB hb)))|refine kW aa ?_|refine kC ?_|refine bdA ?_|refine bd2 ?_|refine bdR ?_|refine bdL ?_)<;>((repeat (first|(with_reducible refine af fun N hN hE hT=>?_)|(with_reducible refine ah fun N hN hE hT=>?_)));(try with_reducible refine ai fun X Y hX hY=>?_);(conv=>whnf)))|(refine And.intro ?_ ?_;rotate_left;(conv=>whnf);rotate_right))
           all_goals first|rfl|exact cP|(simp;done)|exact congrArg (Value.int _) hy.symm|trace_state
         · obtain rfl : k = n.me.offer.length:=by omega
           rw [List.take_length] at hM
           rw [← hL,← hM] at hnums hYl
           have g0:=Ap (M ++ [(n.chunks.length : Int)]) (M.length + 1) none (by simp) hnums (by simp;omega)
           have hH:=aU (M ++ [(n.chunks.length : Int)])
           have hH2 : (M ++ [(n.chunks.length : Int)]).length = M.length + 1:=by simp
           generalize an (M ++ [(n.chunks.length : Int)]) = H at g0 hYl hH
           replace g0 : Ev1 Tryz.prog 106 [.lit (.slice none 0 0),.own .i64 3 0 (M.length + 1) none] [(3,.row .i64 (List.take M.length M ++ [(n.chunks.length : Int)]))] (.own .u8 390001 0 H.length none) [(390001,.row .u8 H)]:=by rw [List.take_length];exact g0
           conv=>whnf
           repeat' (first|exact trivial|((first|((first|refine hT _ _ ?_|refine hE _ _ _ ?_|refine hN _ _ ?_);clear hN hE hT)|((first|refine hX ?_|refine hY ?_);clear hX hY)|refine kL ?_|(refine ⟨fun hb=>?_,fun hb=>?_⟩<;>(try simp only [nrm] at hb)<;>(try (first|(exfalso;omega)|contradiction|exact kB hb)))|refine kE g0 [(3,201),(390001,150099)] rfl ?_ (hrd:=⟨rfl,trivial⟩)|refine kF g0 [(3,201),(390001,150099)] rfl ?_ (hrd:=⟨rfl,trivial⟩)|refine kW aa ?_|refine kC ?_|refine bdA ?_|refine bd2 ?_|refine bdR ?_|refine bdL ?_)<;>((repeat (first|(with_reducible refine af fun N hN hE hT=>?_)|(with_reducible refine ah fun N hN hE hT=>?_)));(try with_reducible refine ai fun X Y hX hY=>?_);(conv=>whnf)))|(refine And.intro ?_ ?_;rotate_left;(conv=>whnf);rotate_right))
           clear g0 hnums hL hM okS
           refine aw.loopS aa (σ:=Nat × List Int) [2,3,11,12] (fun (k,V)=>[.ptr 4 0,.ptr 6 0,.own .u8 150101 0 V.length none,i64 k]) (fun (_,V)=>[(4,.box (bA v)),(6,.box (bA n)),(150101,.row .u8 V)]) (fun (k,V)=>k ≤ n.chunks.length ∧ V = H ++ (n.chunks.take k).flatMap (chunkY v) ∧ V.length ≤ 1000 + k * 5200) (fun (k,_)=>n.chunks.length - k) (0,H) ⟨by omega,by simp,by omega⟩ ?_ ?_
           · conv=>whnf
             repeat' (first|exact trivial|((first|((first|refine hT _ _ ?_|refine hE _ _ _ ?_|refine hN _ _ ?_);clear hN hE hT)|((first|refine hX ?_|refine hY ?_);clear hX hY)|refine kL ?_|(refine ⟨fun hb=>?_,fun hb=>?_⟩<;>(try simp only [nrm] at hb)<;>(try (first|(exfalso;omega)|contradiction|exact kB hb)))|refine kW aa ?_|refine kC ?_|refine bdA ?_|refine bd2 ?_|refine bdR ?_|refine bdL ?_)<;>((repeat (first|(with_reducible refine af fun N hN hE hT=>?_)|(with_reducible refine ah fun N hN hE hT=>?_)));(try with_reducible refine ai fun X Y hX hY=>?_);(conv=>whnf)))|(refine And.intro ?_ ?_;rotate_left;(conv=>whnf);rotate_right))
             all_goals first|rfl|(simp only [List.length_append];done)|(simp only [List.length_append,List.take_length];done)|(refine List.take_of_length_le ?_;simp only [List.length_append];omega)|exact List.take_length|exact congrArg (Value.int _) hy.symm|exact cP|trace_state
           · rintro ⟨k,V⟩ ⟨hk,hV,hVl⟩
             try dsimp only at hk hV hVl
             by_cases hlt : k < n.chunks.length
             · as_aux_lemma =>
                 clear hYl hH hH2 hLl hMl
                 have hcr:=hP.chunks _ (ay (t:=.chunk) hlt)
                 have hgc:=bD hcr
                 have hcp:=cX hcr
                 have hbl:=hgc.le.1
                 have hb64:=hgc.len
                 have hVn : ∀ F,chunkY v (elt .chunk n.chunks k) = F → V ++ F = H ++ (n.chunks.take (k + 1)).flatMap (chunkY v) ∧ (V ++ F).length ≤ 1000 + (k + 1) * 5200:=fun F hF=>by
                   have h1:=io (v:=v) hcr
                   rw [hF] at h1
                   refine ⟨by rw [cf (t:=.chunk) (chunkY v) hlt,hV,hF,List.append_assoc],?_⟩
                   rw [List.length_append];omega
                 have hck : chunkY v (elt .chunk n.chunks k) = an [(elt .chunk n.chunks k).x,(elt .chunk n.chunks k).y] ++ formY (aA v (elt .chunk n.chunks k).x (elt .chunk n.chunks k).y) (elt .chunk n.chunks k):=rfl
                 rw [hck] at hVn
                 have hfw:=D3 hB hcr
                 have hfo:=eS hB (x:=(elt .chunk n.chunks k).x) (y:=(elt .chunk n.chunks k).y)
                 have hff:=Av hB (x:=(elt .chunk n.chunks k).x) (y:=(elt .chunk n.chunks k).y)
                 have hfd:=pI v (elt .chunk n.chunks k).x (elt .chunk n.chunks k).y (by omega) _ rfl
                 have hwh : bH (elt .chunk n.chunks k) = an [2] ++ (aj (aK (elt .chunk n.chunks k)).length ++ aK (elt .chunk n.chunks k)):=rfl
                 have htb : cB (elt .chunk n.chunks k) = aK (elt .chunk n.chunks k):=if_pos hcr
                 have hb8:=oC hcr
                 have hns : ei (strOfNums (cB (elt .chunk n.chunks k))) = aK (elt .chunk n.chunks k):=by rw [htb];exact As hb8
                 have hfc:=jH hcr
                 have hoc:=fU hcr
                 have htx:=jh (elt .chunk n.chunks k) hoc
                 have q0 : elt .chunk n.chunks (k : Int).toNat = elt .chunk n.chunks k:=rfl
                 clear hck hV hcr hb8
                 generalize aA v (elt .chunk n.chunks k).x (elt .chunk n.chunks k).y = W at hVn hfw hfo hff hfd
                 obtain ⟨a,t⟩:=W
                 obtain ⟨fw1,fw2,fw3,fw4,fw5⟩:=hfw
                 dsimp only at hVn fw1 fw2 fw3 fw4 fw5 hfo hff hfd
                 have htx2:=jh a hfo.2
                 have hse:=iU (nq a) (nq (elt .chunk n.chunks k))
                 have hkl : dC a (elt .chunk n.chunks k) = true → a.cells.length ≤ (elt .chunk n.chunks k).cells.length ∧ a.cells.length ≤ 1000:=fun h=>by
                   unfold dC at h
                   rw [Bool.and_eq_true] at h
                   have h1:=(bD h.1).len
                   have h2 : a.cells.length = 64:=h1
                   omega
                 have ho:=tW a (elt .chunk n.chunks k) hfo.2 hff hoc hfc hkl _ rfl
                 have hom : ∀ z ∈ dg a (elt .chunk n.chunks k),(0 : Int) ≤ z ∧ @LT.lt Int _ z 64:=fun z hz=>by
                   unfold dg at hz
                   split at hz
                   · rename_i h
                     have h1:=hkl h
                     obtain ⟨j,rfl,hj,_⟩:=il.1 hz
                     omega
                   · cases hz
                 have hol : (dg a (elt .chunk n.chunks k)).length ≤ 64:=by
                   unfold dg
                   split
                   · rename_i h
                     have h1:=hkl h
                     have h2:=lD (a:=a.cells) (b:=(elt .chunk n.chunks k).cells) (k:=a.cells.length)
                     omega
                   · simp
                 clear hkl hff hfo hoc hfc
                 generalize dg a (elt .chunk n.chunks k) = D at fw3 fw4 fw5 ho hom hol
                 have g1:=ge V [(elt .chunk n.chunks k).x,(elt .chunk n.chunks k).y] V.length 2 (some 2) rfl rfl (im (by unfold okN;omega) (by unfold okN;omega)) (by simp;omega)
                 have a1:=aU [(elt .chunk n.chunks k).x,(elt .chunk n.chunks k).y]
                 simp only [List.length_cons,List.length_nil] at a1
                 generalize an [(elt .chunk n.chunks k).x,(elt .chunk n.chunks k).y] = XX at g1 a1 hVn
                 have hVX : V.length + XX.length = (V ++ XX).length:=by rw [List.length_append]
                 have hVXl : (V ++ XX).length ≤ 300000:=by rw [List.length_append];omega
                 rw [hVX] at g1
                 have hVn2 : ∀ F,formY (a,t) (elt .chunk n.chunks k) = F → V ++ XX ++ F = H ++ (n.chunks.take (k + 1)).flatMap (chunkY v) ∧ (V ++ XX ++ F).length ≤ 1000 + (k + 1) * 5200:=fun F hF=>by
                   have h1:=hVn _ rfl
                   rw [hF,← List.append_assoc] at h1
                   exact h1
                 clear hVn hVX
                 generalize V ++ XX = VX at g1 hVXl hVn2
                 have gw:=ge VX [2] VX.length 1 (some 1) rfl rfl (gm (by unfold okN;omega)) (by simp;omega)
                 have a2:=aU [2]
                 simp only [List.length_cons,List.length_nil] at a2
                 have gb:=Ar (VX ++ an [2]) (aK (elt .chunk n.chunks k)) (VX.length + (an [2]).length) (by rw [List.length_append]) (by rw [List.length_append];omega)
                 rw [← hns] at gb
                 have hwhole : formY (a,t) (elt .chunk n.chunks k) = bH (elt .chunk n.chunks k) → VX ++ an [2] ++ (aj (aK (elt .chunk n.chunks k)).length ++ aK (elt .chunk n.chunks k)) = H ++ (n.chunks.take (k + 1)).flatMap (chunkY v) ∧ (VX ++ an [2] ++ (aj (aK (elt .chunk n.chunks k)).length ++ aK (elt .chunk n.chunks k))).length ≤ 1000 + (k + 1) * 5200:=fun h=>by
                   have h1:=hVn2 _ h
                   rw [hwh,← List.append_assoc] at h1
                   exact h1
                 rw [← hns] at hwhole
                 clear hwh htb
                 cases t with
                 | false =>
                   obtain ⟨e1,e2⟩:=hwhole (fw1 rfl)
                   clear fw1 fw2 fw3 fw4 fw5 hVn2 hwhole hse
                   clear hns
                   show ev _ _ _ _ _ _ _
                   (repeat (first|(with_reducible refine af fun N hN hE hT=>?_)|(with_reducible refine ah fun N hN hE hT=>?_)));(try with_reducible refine ai fun X Y hX hY=>?_);(conv=>whnf)
                   repeat' (first|exact trivial|((first|((first|refine hT _ _ ?_|refine hE _ _ _ ?_|refine hN _ _ ?_);clear hN hE hT)|((first|refine hX ?_|refine hY ?_);clear hX hY)|refine kL ?_|(refine ⟨fun hb=>?_,fun hb=>?_⟩<;>(try simp only [nrm] at hb)<;>(try (first|(exfalso;omega)|contradiction|exact kB hb)))|refine kE g1 [(1,150101),(3,239),(390001,150103)] rfl ?_ (hrd:=⟨rfl,rfl,trivial⟩)|refine kF g1 [(1,150101),(3,239),(390001,150103)] rfl ?_ (hrd:=⟨rfl,rfl,trivial⟩)|refine kE gw [(1,150103),(3,269),(390001,150105)] rfl ?_ (hrd:=⟨rfl,rfl,trivial⟩)|refine kF gw [(1,150103),(3,269),(390001,150105)] rfl ?_ (hrd:=⟨rfl,rfl,trivial⟩)|refine kE gb [(1,150105),(390001,150107)] rfl ?_ (hrd:=⟨rfl,trivial⟩)|refine kF gb [(1,150105),(390001,150107)] rfl ?_ (hrd:=⟨rfl,trivial⟩)|refine kA hfd ?_|refine kD hfd ?_|refine kA ho ?_|refine kD ho ?_|refine kA htx ?_|refine kD htx ?_|refine kA htx2 ?_|refine kD htx2 ?_|refine kW aa ?_|refine kC ?_|refine bdA ?_|refine bd2 ?_|refine bdR ?_|refine bdL ?_)<;>((repeat (first|(with_reducible refine af fun N hN hE hT=>?_)|(with_reducible refine ah fun N hN hE hT=>?_)));(try with_reducible refine ai fun X Y hX hY=>?_);(conv=>whnf)))|(refine And.intro ?_ ?_;rotate_left;(conv=>whnf);rotate_right))
                   refine .to (k + 1,_) ⟨hlt,e1,e2⟩ (by first|omega|(dsimp only;omega)) ?_
                   conv=>whnf
                   repeat' (first|exact trivial|((first|((first|refine hT _ _ ?_|refine hE _ _ _ ?_|refine hN _ _ ?_);clear hN hE hT)|((first|refine hX ?_|refine hY ?_);clear hX hY)|refine kL ?_|(refine ⟨fun hb=>?_,fun hb=>?_⟩<;>(try simp only [nrm] at hb)<;>(try (first|(exfalso;omega)|contradiction|exact kB hb)))|refine kW aa ?_|refine kC ?_|refine bdA ?_|refine bd2 ?_|refine bdR ?_|refine bdL ?_)<;>((repeat (first|(with_reducible refine af fun N hN hE hT=>?_)|(with_reducible refine ah fun N hN hE hT=>?_)));(try with_reducible refine ai fun X Y hX hY=>?_);(conv=>whnf)))|(refine And.intro ?_ ?_;rotate_left;(conv=>whnf);rotate_right))
                   all_goals first|rfl|(simp only [List.length_append];done)|(simp only [List.length_append,List.take_length];done)|(refine List.take_of_length_le ?_;simp only [List.length_append];omega)|exact List.take_length|exact congrArg (Value.int _) hy.symm|exact cP|trace_state
                 | true =>
                   by_cases hsame : cB a = cB (elt .chunk n.chunks k)
                   · rw [show eqL (cB a) (cB (elt .chunk n.chunks k)) = true from decide_eq_true hsame] at hse
                     obtain ⟨e1,e2⟩:=hVn2 _ (fw2 rfl hsame)
                     clear fw1 fw2 fw3 fw4 fw5 hVn2 hwhole gb gw
                     have gz:=ge VX [0] VX.length 1 (some 1) rfl rfl (gm (by unfold okN;omega)) (by simp;omega)
                     show ev _ _ _ _ _ _ _
                     (repeat (first|(with_reducible refine af fun N hN hE hT=>?_)|(with_reducible refine ah fun N hN hE hT=>?_)));(try with_reducible refine ai fun X Y hX hY=>?_);(conv=>whnf)
                     repeat' (first|exact trivial|((first|((first|refine hT _ _ ?_|refine hE _ _ _ ?_|refine hN _ _ ?_);clear hN hE hT)|((first|refine hX ?_|refine hY ?_);clear hX hY)|refine kL ?_|(refine ⟨fun hb=>?_,fun hb=>?_⟩<;>(try simp only [nrm] at hb)<;>(try (first|(exfalso;omega)|contradiction|exact kB hb)))|refine kE g1 [(1,150101),(3,239),(390001,150103)] rfl ?_ (hrd:=⟨rfl,rfl,trivial⟩)|refine kF g1 [(1,150101),(3,239),(390001,150103)] rfl ?_ (hrd:=⟨rfl,rfl,trivial⟩)|(rw [hse])|refine kE gz [(1,150103),(3,303),(390001,150105)] rfl ?_ (hrd:=⟨rfl,rfl,trivial⟩)|refine kF gz [(1,150103),(3,303),(390001,150105)] rfl ?_ (hrd:=⟨rfl,rfl,trivial⟩)|refine kA hfd ?_|refine kD hfd ?_|refine kA ho ?_|refine kD ho ?_|refine kA htx ?_|refine kD htx ?_|refine kA htx2 ?_|refine kD htx2 ?_|refine kW aa ?_|refine kC ?_|refine bdA ?_|refine bd2 ?_|refine bdR ?_|refine bdL ?_)<;>((repeat (first|(with_reducible refine af fun N hN hE hT=>?_)|(with_reducible refine ah fun N hN hE hT=>?_)));(try with_reducible refine ai fun X Y hX hY=>?_);(conv=>whnf)))|(refine And.intro ?_ ?_;rotate_left;(conv=>whnf);rotate_right))
                     all_goals first|(exfalso;simp_all;done)|skip
                     refine .to (k + 1,_) ⟨hlt,e1,e2⟩ (by first|omega|(dsimp only;omega)) ?_
                     conv=>whnf
                     repeat' (first|exact trivial|((first|((first|refine hT _ _ ?_|refine hE _ _ _ ?_|refine hN _ _ ?_);clear hN hE hT)|((first|refine hX ?_|refine hY ?_);clear hX hY)|refine kL ?_|(refine ⟨fun hb=>?_,fun hb=>?_⟩<;>(try simp only [nrm] at hb)<;>(try (first|(exfalso;omega)|contradiction|exact kB hb)))|refine kW aa ?_|refine kC ?_|refine bdA ?_|refine bd2 ?_|refine bdR ?_|refine bdL ?_)<;>((repeat (first|(with_reducible refine af fun N hN hE hT=>?_)|(with_reducible refine ah fun N hN hE hT=>?_)));(try with_reducible refine ai fun X Y hX hY=>?_);(conv=>whnf)))|(refine And.intro ?_ ?_;rotate_left;(conv=>whnf);rotate_right))
                     all_goals first|rfl|(simp only [List.length_append];done)|(simp only [List.length_append,List.take_length];done)|(refine List.take_of_length_le ?_;simp only [List.length_append];omega)|exact List.take_length|exact congrArg (Value.int _) hy.symm|exact cP|trace_state
                   · rw [show eqL (cB a) (cB (elt .chunk n.chunks k)) = false from decide_eq_false hsame] at hse
                     by_cases hfew : 1 ≤ D.length ∧ D.length ≤ 16
                     · have hF:=hVn2 _ (fw3 rfl hsame hfew.1 hfew.2)
                       clear fw1 fw2 fw3 fw4 fw5 hVn2 hwhole gb gw
                       obtain ⟨hd1,hd2⟩:=hfew
                       have gc:=ge VX [1,(D.length : Int)] VX.length 2 (some 2) rfl rfl (im (by unfold okN;omega) (by unfold okN;omega)) (by simp;omega)
                       have a3:=aU [1,(D.length : Int)]
                       simp only [List.length_cons,List.length_nil] at a3
                       have hcY : e_ (elt .chunk n.chunks k) D = an [1,(D.length : Int)] ++ D.flatMap (cI (elt .chunk n.chunks k)):=rfl
                       rw [hcY,← List.append_assoc] at hF
                       clear hcY
                       generalize an [1,(D.length : Int)] = Y1 at gc a3 hF
                       have hY1 : VX.length + Y1.length = (VX ++ Y1).length:=by rw [List.length_append]
                       have hY2 : (VX ++ Y1).length ≤ 300100:=by rw [List.length_append];omega
                       rw [hY1] at gc
                       clear hY1
                       generalize VX ++ Y1 = YY at gc hF hY2
                       show ev _ _ _ _ _ _ _
                       (repeat (first|(with_reducible refine af fun N hN hE hT=>?_)|(with_reducible refine ah fun N hN hE hT=>?_)));(try with_reducible refine ai fun X Y hX hY=>?_);(conv=>whnf)
                       repeat' (first|exact trivial|((first|((first|refine hT _ _ ?_|refine hE _ _ _ ?_|refine hN _ _ ?_);clear hN hE hT)|((first|refine hX ?_|refine hY ?_);clear hX hY)|refine kL ?_|(refine ⟨fun hb=>?_,fun hb=>?_⟩<;>(try simp only [nrm] at hb)<;>(try (first|(exfalso;omega)|contradiction|exact kB hb)))|refine kE g1 [(1,150101),(3,239),(390001,150103)] rfl ?_ (hrd:=⟨rfl,rfl,trivial⟩)|refine kF g1 [(1,150101),(3,239),(390001,150103)] rfl ?_ (hrd:=⟨rfl,rfl,trivial⟩)|(rw [hse])|refine kE gc [(1,150103),(3,337),(390001,150105)] rfl ?_ (hrd:=⟨rfl,rfl,trivial⟩)|refine kF gc [(1,150103),(3,337),(390001,150105)] rfl ?_ (hrd:=⟨rfl,rfl,trivial⟩)|refine kA hfd ?_|refine kD hfd ?_|refine kA ho ?_|refine kD ho ?_|refine kA htx ?_|refine kD htx ?_|refine kA htx2 ?_|refine kD htx2 ?_|refine kW aa ?_|refine kC ?_|refine bdA ?_|refine bd2 ?_|refine bdR ?_|refine bdL ?_)<;>((repeat (first|(with_reducible refine af fun N hN hE hT=>?_)|(with_reducible refine ah fun N hN hE hT=>?_)));(try with_reducible refine ai fun X Y hX hY=>?_);(conv=>whnf)))|(refine And.intro ?_ ?_;rotate_left;(conv=>whnf);rotate_right))
                       all_goals first|(exfalso;simp_all;done)|skip
                       clear g1 hfd ho htx htx2 gc hse
                       refine aw.loopS aa (σ:=Nat × List Int) [2,3,11,12,13,16,17] (fun (j,U)=>[.ptr 4 0,.ptr 6 0,.own .u8 150109 0 U.length none,i64 k,.ptr 26 0,.vec .i64 D,i64 j]) (fun (_,U)=>[(4,.box (bA v)),(6,.box (bA n)),(26,.box (bj (elt .chunk n.chunks k))),(150109,.row .u8 U)]) (fun (j,U)=>j ≤ D.length ∧ U = YY ++ (D.take j).flatMap (cI (elt .chunk n.chunks k)) ∧ U.length ≤ 300100 + j * 20) (fun (j,_)=>D.length - j) (0,YY) ⟨by omega,by simp,by omega⟩ ?_ ?_
                       · conv=>whnf
                         repeat' (first|exact trivial|((first|((first|refine hT _ _ ?_|refine hE _ _ _ ?_|refine hN _ _ ?_);clear hN hE hT)|((first|refine hX ?_|refine hY ?_);clear hX hY)|refine kL ?_|(refine ⟨fun hb=>?_,fun hb=>?_⟩<;>(try simp only [nrm] at hb)<;>(try (first|(exfalso;omega)|contradiction|exact kB hb)))|refine kW aa ?_|refine kC ?_|refine bdA ?_|refine bd2 ?_|refine bdR ?_|refine bdL ?_)<;>((repeat (first|(with_reducible refine af fun N hN hE hT=>?_)|(with_reducible refine ah fun N hN hE hT=>?_)));(try with_reducible refine ai fun X Y hX hY=>?_);(conv=>whnf)))|(refine And.intro ?_ ?_;rotate_left;(conv=>whnf);rotate_right))
                         all_goals first|rfl|(simp only [List.length_append];done)|(simp only [List.length_append,List.take_length];done)|(refine List.take_of_length_le ?_;simp only [List.length_append];omega)|exact List.take_length|exact congrArg (Value.int _) hy.symm|exact cP|trace_state
                       · rintro ⟨j,U⟩ ⟨hj,hU,hUl⟩
                         try dsimp only at hj hU hUl
                         by_cases hlj : j < D.length
                         · obtain ⟨i,hi0⟩ : ∃ i : Int,elt .i64 D (j : Int).toNat = i:=⟨_,rfl⟩
                           have hi2 : elt .i64 D j = i:=hi0
                           have hib:=hom _ (ay (t:=.i64) hlj)
                           rw [hi2] at hib
                           obtain ⟨E,hE0⟩ : ∃ E : Int,elt .u8 (elt .chunk n.chunks k).cells i.toNat = E:=⟨_,rfl⟩
                           have hil : i.toNat < (elt .chunk n.chunks k).cells.length:=by omega
                           have hEb : 0 ≤ E ∧ E ≤ 255:=by rw [← hE0];exact hgc.cells _ (ay (t:=.u8) hil)
                           have hcy : cI (elt .chunk n.chunks k) i = an [i,E]:=by rw [← hE0];rfl
                           have gp:=ge U [i,E] U.length 2 (some 2) rfl rfl (im (by unfold okN;omega) (by unfold okN;omega)) (by simp;omega)
                           have a4:=aU [i,E]
                           simp only [List.length_cons,List.length_nil] at a4
                           have hU2 : U ++ an [i,E] = YY ++ (D.take (j + 1)).flatMap (cI (elt .chunk n.chunks k)):=by
                             have h1:=cf (t:=.i64) (cI (elt .chunk n.chunks k)) hlj
                             rw [hi2,hcy] at h1
                             rw [h1,hU,List.append_assoc]
                           have hU3 : (U ++ an [i,E]).length ≤ 300100 + (j + 1) * 20:=by rw [List.length_append];omega
                           clear hcy
                           generalize an [i,E] = PE at gp hU2 hU3
                           conv=>whnf
                           repeat' (first|exact trivial|((first|((first|refine hT _ _ ?_|refine hE _ _ _ ?_|refine hN _ _ ?_);clear hN hE hT)|((first|refine hX ?_|refine hY ?_);clear hX hY)|refine kL ?_|(refine ⟨fun hb=>?_,fun hb=>?_⟩<;>(try simp only [nrm] at hb)<;>(try (first|(exfalso;omega)|contradiction|exact kB hb)))|(rw [hi0])|(rw [hE0])|refine kE gp [(1,150109),(3,381),(390001,150111)] rfl ?_ (hrd:=⟨rfl,rfl,trivial⟩)|refine kF gp [(1,150109),(3,381),(390001,150111)] rfl ?_ (hrd:=⟨rfl,rfl,trivial⟩)|refine kW aa ?_|refine kC ?_|refine bdA ?_|refine bd2 ?_|refine bdR ?_|refine bdL ?_)<;>((repeat (first|(with_reducible refine af fun N hN hE hT=>?_)|(with_reducible refine ah fun N hN hE hT=>?_)));(try with_reducible refine ai fun X Y hX hY=>?_);(conv=>whnf)))|(refine And.intro ?_ ?_;rotate_left;(conv=>whnf);rotate_right))
                           refine .to (j + 1,_) ⟨hlj,hU2,hU3⟩ (by first|omega|(dsimp only;omega)) ?_
                           conv=>whnf
                           repeat' (first|exact trivial|((first|((first|refine hT _ _ ?_|refine hE _ _ _ ?_|refine hN _ _ ?_);clear hN hE hT)|((first|refine hX ?_|refine hY ?_);clear hX hY)|refine kL ?_|(refine ⟨fun hb=>?_,fun hb=>?_⟩<;>(try simp only [nrm] at hb)<;>(try (first|(exfalso;omega)|contradiction|exact kB hb)))|refine kW aa ?_|refine kC ?_|refine bdA ?_|refine bd2 ?_|refine bdR ?_|refine bdL ?_)<;>((repeat (first|(with_reducible refine af fun N hN hE hT=>?_)|(with_reducible refine ah fun N hN hE hT=>?_)));(try with_reducible refine ai fun X Y hX hY=>?_);(conv=>whnf)))|(refine And.intro ?_ ?_;rotate_left;(conv=>whnf);rotate_right))
                           all_goals first|rfl|(simp only [List.length_append];done)|(simp only [List.length_append,List.take_length];done)|(refine List.take_of_length_le ?_;simp only [List.length_append];omega)|exact List.take_length|exact congrArg (Value.int _) hy.symm|exact cP|trace_state
                         · obtain rfl : j = D.length:=by omega
                           rw [List.take_length] at hU
                           rw [← hU] at hF
                           conv=>whnf
                           repeat' (first|exact trivial|((first|((first|refine hT _ _ ?_|refine hE _ _ _ ?_|refine hN _ _ ?_);clear hN hE hT)|((first|refine hX ?_|refine hY ?_);clear hX hY)|refine kL ?_|(refine ⟨fun hb=>?_,fun hb=>?_⟩<;>(try simp only [nrm] at hb)<;>(try (first|(exfalso;omega)|contradiction|exact kB hb)))|refine kW aa ?_|refine kC ?_|refine bdA ?_|refine bd2 ?_|refine bdR ?_|refine bdL ?_)<;>((repeat (first|(with_reducible refine af fun N hN hE hT=>?_)|(with_reducible refine ah fun N hN hE hT=>?_)));(try with_reducible refine ai fun X Y hX hY=>?_);(conv=>whnf)))|(refine And.intro ?_ ?_;rotate_left;(conv=>whnf);rotate_right))
                           refine .to (k + 1,U) ⟨hlt,hF.1,hF.2⟩ (by first|omega|(dsimp only;omega)) ?_
                           conv=>whnf
                           repeat' (first|exact trivial|((first|((first|refine hT _ _ ?_|refine hE _ _ _ ?_|refine hN _ _ ?_);clear hN hE hT)|((first|refine hX ?_|refine hY ?_);clear hX hY)|refine kL ?_|(refine ⟨fun hb=>?_,fun hb=>?_⟩<;>(try simp only [nrm] at hb)<;>(try (first|(exfalso;omega)|contradiction|exact kB hb)))|refine kW aa ?_|refine kC ?_|refine bdA ?_|refine bd2 ?_|refine bdR ?_|refine bdL ?_)<;>((repeat (first|(with_reducible refine af fun N hN hE hT=>?_)|(with_reducible refine ah fun N hN hE hT=>?_)));(try with_reducible refine ai fun X Y hX hY=>?_);(conv=>whnf)))|(refine And.intro ?_ ?_;rotate_left;(conv=>whnf);rotate_right))
                           all_goals first|rfl|(simp only [List.length_append];done)|(simp only [List.length_append,List.take_length];done)|(refine List.take_of_length_le ?_;simp only [List.length_append];omega)|exact List.take_length|exact congrArg (Value.int _) hy.symm|exact cP|trace_state
                     · have hw : formY (a,true) (elt .chunk n.chunks k) = bH (elt .chunk n.chunks k):=by
                         by_cases h0 : D.length = 0
                         · exact fw4 rfl hsame h0
                         · exact fw5 rfl hsame (by omega)
                       obtain ⟨e1,e2⟩:=hwhole hw
                       have hfew2 : 1 ≤ (D.length : Int) → ¬ (D.length : Int) ≤ 16:=fun h1 h2=>hfew ⟨by omega,by omega⟩
                       clear fw1 fw2 fw3 fw4 fw5 hVn2 hwhole hw hfew
                       clear hns
                       show ev _ _ _ _ _ _ _
                       (repeat (first|(with_reducible refine af fun N hN hE hT=>?_)|(with_reducible refine ah fun N hN hE hT=>?_)));(try with_reducible refine ai fun X Y hX hY=>?_);(conv=>whnf)
                       repeat' (first|exact trivial|((first|((first|refine hT _ _ ?_|refine hE _ _ _ ?_|refine hN _ _ ?_);clear hN hE hT)|((first|refine hX ?_|refine hY ?_);clear hX hY)|refine kL ?_|(refine ⟨fun hb=>?_,fun hb=>?_⟩<;>(try simp only [nrm] at hb)<;>(try (first|(exfalso;omega)|contradiction|exact kB hb)))|refine kE g1 [(1,150101),(3,239),(390001,150103)] rfl ?_ (hrd:=⟨rfl,rfl,trivial⟩)|refine kF g1 [(1,150101),(3,239),(390001,150103)] rfl ?_ (hrd:=⟨rfl,rfl,trivial⟩)|(rw [hse])|refine kE gw [(1,150103),(3,269),(390001,150105)] rfl ?_ (hrd:=⟨rfl,rfl,trivial⟩)|refine kF gw [(1,150103),(3,269),(390001,150105)] rfl ?_ (hrd:=⟨rfl,rfl,trivial⟩)|refine kE gb [(1,150105),(390001,150107)] rfl ?_ (hrd:=⟨rfl,trivial⟩)|refine kF gb [(1,150105),(390001,150107)] rfl ?_ (hrd:=⟨rfl,trivial⟩)|refine kA hfd ?_|refine kD hfd ?_|refine kA ho ?_|refine kD ho ?_|refine kA htx ?_|refine kD htx ?_|refine kA htx2 ?_|refine kD htx2 ?_|refine kW aa ?_|refine kC ?_|refine bdA ?_|refine bd2 ?_|refine bdR ?_|refine bdL ?_)<;>((repeat (first|(with_reducible refine af fun N hN hE hT=>?_)|(with_reducible refine ah fun N hN hE hT=>?_)));(try with_reducible refine ai fun X Y hX hY=>?_);(conv=>whnf)))|(refine And.intro ?_ ?_;rotate_left;(conv=>whnf);rotate_right))
                       all_goals first|(exfalso;omega)|(exfalso;simp_all;done)|skip
                       all_goals
                         refine .to (k + 1,_) ⟨hlt,e1,e2⟩ (by first|omega|(dsimp only;omega)) ?_
                         conv=>whnf
                         repeat' (first|exact trivial|((first|((first|refine hT _ _ ?_|refine hE _ _ _ ?_|refine hN _ _ ?_);clear hN hE hT)|((first|refine hX ?_|refine hY ?_);clear hX hY)|refine kL ?_|(refine ⟨fun hb=>?_,fun hb=>?_⟩<;>(try simp only [nrm] at hb)<;>(try (first|(exfalso;omega)|contradiction|exact kB hb)))|refine kW aa ?_|refine kC ?_|refine bdA ?_|refine bd2 ?_|refine bdR ?_|refine bdL ?_)<;>((repeat (first|(with_reducible refine af fun N hN hE hT=>?_)|(with_reducible refine ah fun N hN hE hT=>?_)));(try with_reducible refine ai fun X Y hX hY=>?_);(conv=>whnf)))|(refine And.intro ?_ ?_;rotate_left;(conv=>whnf);rotate_right))
                         all_goals first|rfl|(simp only [List.length_append];done)|(simp only [List.length_append,List.take_length];done)|(refine List.take_of_length_le ?_;simp only [List.length_append];omega)|exact List.take_length|exact congrArg (Value.int _) hy.symm|exact cP|trace_state
             · obtain rfl : k = n.chunks.length:=by omega
               rw [List.take_length] at hV
               have g5:=ge V [(n.others.length : Int)] V.length 1 (some 1) rfl rfl (gm (by unfold okN;omega)) (by simp;omega)
               have a5:=aU [(n.others.length : Int)]
               simp only [List.length_cons,List.length_nil] at a5
               rw [← hV] at hYl
               generalize an [(n.others.length : Int)] = Z at g5 a5 hYl
               conv=>whnf
               repeat' (first|exact trivial|((first|((first|refine hT _ _ ?_|refine hE _ _ _ ?_|refine hN _ _ ?_);clear hN hE hT)|((first|refine hX ?_|refine hY ?_);clear hX hY)|refine kL ?_|(refine ⟨fun hb=>?_,fun hb=>?_⟩<;>(try simp only [nrm] at hb)<;>(try (first|(exfalso;omega)|contradiction|exact kB hb)))|refine kE g5 [(1,150101),(3,393),(390001,150113)] rfl ?_ (hrd:=⟨rfl,rfl,trivial⟩)|refine kF g5 [(1,150101),(3,393),(390001,150113)] rfl ?_ (hrd:=⟨rfl,rfl,trivial⟩)|refine kW aa ?_|refine kC ?_|refine bdA ?_|refine bd2 ?_|refine bdR ?_|refine bdL ?_)<;>((repeat (first|(with_reducible refine af fun N hN hE hT=>?_)|(with_reducible refine ah fun N hN hE hT=>?_)));(try with_reducible refine ai fun X Y hX hY=>?_);(conv=>whnf)))|(refine And.intro ?_ ?_;rotate_left;(conv=>whnf);rotate_right))
               clear g5
               refine aw.loopS aa (σ:=Nat × List Int) [3,11,18] (fun (j,U)=>[.ptr 6 0,.own .u8 150115 0 U.length none,i64 j]) (fun (_,U)=>[(6,.box (bA n)),(150115,.row .u8 U)]) (fun (j,U)=>j ≤ n.others.length ∧ U = V ++ Z ++ (n.others.take j).flatMap bS ∧ U.length ≤ 300200 + j * 30) (fun (j,_)=>n.others.length - j) (0,V ++ Z) ⟨by omega,by simp,by rw [List.length_append];omega⟩ ?_ ?_
               · conv=>whnf
                 repeat' (first|exact trivial|((first|((first|refine hT _ _ ?_|refine hE _ _ _ ?_|refine hN _ _ ?_);clear hN hE hT)|((first|refine hX ?_|refine hY ?_);clear hX hY)|refine kL ?_|(refine ⟨fun hb=>?_,fun hb=>?_⟩<;>(try simp only [nrm] at hb)<;>(try (first|(exfalso;omega)|contradiction|exact kB hb)))|refine kW aa ?_|refine kC ?_|refine bdA ?_|refine bd2 ?_|refine bdR ?_|refine bdL ?_)<;>((repeat (first|(with_reducible refine af fun N hN hE hT=>?_)|(with_reducible refine ah fun N hN hE hT=>?_)));(try with_reducible refine ai fun X Y hX hY=>?_);(conv=>whnf)))|(refine And.intro ?_ ?_;rotate_left;(conv=>whnf);rotate_right))
                 all_goals first|rfl|(simp only [List.length_append];done)|(simp only [List.length_append,List.take_length];done)|(refine List.take_of_length_le ?_;simp only [List.length_append];omega)|exact List.take_length|exact congrArg (Value.int _) hy.symm|exact cP|trace_state
               · rintro ⟨j,U⟩ ⟨hj,hU,hUl⟩
                 try dsimp only at hj hU hUl
                 by_cases hlj : j < n.others.length
                 · have hsb:=hP.others _ (ay (t:=.seen) hlj)
                   have q1 : elt .seen n.others (j : Int).toNat = elt .seen n.others j:=rfl
                   have gp:=ge U [(elt .seen n.others j).id,(elt .seen n.others j).x,(elt .seen n.others j).y] U.length 3 (some 3) rfl rfl (oq (by unfold okN;omega) (by unfold okN;omega) (by unfold okN;omega)) (by simp;omega)
                   have a6:=lI (elt .seen n.others j)
                   have hsy : bS (elt .seen n.others j) = an [(elt .seen n.others j).id,(elt .seen n.others j).x,(elt .seen n.others j).y]:=rfl
                   have hU2 : U ++ bS (elt .seen n.others j) = V ++ Z ++ (n.others.take (j + 1)).flatMap bS:=by rw [cf (t:=.seen) bS hlj,hU,List.append_assoc]
                   have hU3 : (U ++ bS (elt .seen n.others j)).length ≤ 300200 + (j + 1) * 30:=by rw [List.length_append];omega
                   rw [← hsy] at gp
                   clear hsy
                   generalize bS (elt .seen n.others j) = SY at gp hU2 hU3
                   conv=>whnf
                   repeat' (first|exact trivial|((first|((first|refine hT _ _ ?_|refine hE _ _ _ ?_|refine hN _ _ ?_);clear hN hE hT)|((first|refine hX ?_|refine hY ?_);clear hX hY)|refine kL ?_|(refine ⟨fun hb=>?_,fun hb=>?_⟩<;>(try simp only [nrm] at hb)<;>(try (first|(exfalso;omega)|contradiction|exact kB hb)))|refine kE gp [(1,150115),(3,449),(390001,150117)] rfl ?_ (hrd:=⟨rfl,rfl,trivial⟩)|refine kF gp [(1,150115),(3,449),(390001,150117)] rfl ?_ (hrd:=⟨rfl,rfl,trivial⟩)|refine kW aa ?_|refine kC ?_|refine bdA ?_|refine bd2 ?_|refine bdR ?_|refine bdL ?_)<;>((repeat (first|(with_reducible refine af fun N hN hE hT=>?_)|(with_reducible refine ah fun N hN hE hT=>?_)));(try with_reducible refine ai fun X Y hX hY=>?_);(conv=>whnf)))|(refine And.intro ?_ ?_;rotate_left;(conv=>whnf);rotate_right))
                   refine .to (j + 1,_) ⟨hlj,hU2,hU3⟩ (by first|omega|(dsimp only;omega)) ?_
                   conv=>whnf
                   repeat' (first|exact trivial|((first|((first|refine hT _ _ ?_|refine hE _ _ _ ?_|refine hN _ _ ?_);clear hN hE hT)|((first|refine hX ?_|refine hY ?_);clear hX hY)|refine kL ?_|(refine ⟨fun hb=>?_,fun hb=>?_⟩<;>(try simp only [nrm] at hb)<;>(try (first|(exfalso;omega)|contradiction|exact kB hb)))|refine kW aa ?_|refine kC ?_|refine bdA ?_|refine bd2 ?_|refine bdR ?_|refine bdL ?_)<;>((repeat (first|(with_reducible refine af fun N hN hE hT=>?_)|(with_reducible refine ah fun N hN hE hT=>?_)));(try with_reducible refine ai fun X Y hX hY=>?_);(conv=>whnf)))|(refine And.intro ?_ ?_;rotate_left;(conv=>whnf);rotate_right))
                   all_goals first|rfl|(simp only [List.length_append];done)|(simp only [List.length_append,List.take_length];done)|(refine List.take_of_length_le ?_;simp only [List.length_append];omega)|exact List.take_length|exact congrArg (Value.int _) hy.symm|exact cP|trace_state
                 · obtain rfl : j = n.others.length:=by omega
                   rw [List.take_length] at hU
                   rw [← hU] at hYl
                   conv=>whnf
                   repeat' (first|exact trivial|((first|((first|refine hT _ _ ?_|refine hE _ _ _ ?_|refine hN _ _ ?_);clear hN hE hT)|((first|refine hX ?_|refine hY ?_);clear hX hY)|refine kL ?_|(refine ⟨fun hb=>?_,fun hb=>?_⟩<;>(try simp only [nrm] at hb)<;>(try (first|(exfalso;omega)|contradiction|exact kB hb)))|refine kW aa ?_|refine kC ?_|refine bdA ?_|refine bd2 ?_|refine bdR ?_|refine bdL ?_)<;>((repeat (first|(with_reducible refine af fun N hN hE hT=>?_)|(with_reducible refine ah fun N hN hE hT=>?_)));(try with_reducible refine ai fun X Y hX hY=>?_);(conv=>whnf)))|(refine And.intro ?_ ?_;rotate_left;(conv=>whnf);rotate_right))
                   all_goals first|(rw [hYl];done)|(rw [hYl];exact List.take_length)|(rw [hYl];rfl)|trace_state
end Go.Proofs.YtaecchphjploaaaGreat
