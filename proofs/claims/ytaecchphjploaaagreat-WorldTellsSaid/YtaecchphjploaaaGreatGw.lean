/- homesteadref01.Uint; homesteadref11.Bytes. -/
import Derived.Test.YtaecchphjploaaaGreatGr
import Derived.Test.YtaecchphjploaaaGreatGj
import Derived.Test.YtaecchphjploaaaGreatGk
import Derived.Test.YtaecchphjploaaaGreatGv
set_option linter.unusedSimpArgs false
set_option linter.unusedVariables false
set_option maxRecDepth 100000
set_option maxHeartbeats 16000000
namespace Go.Proofs.YtaecchphjploaaaGreat
open Go Go.RowKit Eng
theorem r01varint (f : Nat) (hf9 : f ≤ 9) : ∀ (n : Nat),n < 128 ^ (f + 1) → n < 18446744073709551616 → Api Tryz.prog 151 [.lit (.int .u64 n)] (.vec .u8 (uintF f n)):=by
 induction f with
 | zero =>
   intro n hn hm
   have h1 : n < 128:=by simpa using hn
   have e : uintF 0 n = [(n : Int)]:=rfl
   rw [e]
   refine Api.of_fin cfg_ok Tryz.func151 rfl (nt:=16) rfl rfl ?_
   conv=>whnf
   repeat' (first|exact trivial|((first|refine kL ?_|(refine ⟨fun hb=>?_,fun hb=>?_⟩<;>(try simp only [nrm] at hb)<;>(try (first|(exfalso;omega)|contradiction|exact kB hb)))|refine kW cfg_ok ?_|refine kC ?_|refine bdA ?_|refine bd2 ?_|refine bdR ?_|refine bdL ?_)<;>(conv=>whnf))|(refine And.intro ?_ ?_;rotate_left;(conv=>whnf);rotate_right))
   all_goals first|rfl|(simp;done)|omega|trace_state
 | succ f ih =>
   intro n hn hm
   have hq : n / 128 < 128 ^ (f + 1):=Nat.div_lt_of_lt_mul (by rw [Nat.pow_succ] at hn;omega)
   have hi : Api Tryz.prog 151 [.lit (.int .u64 ((n : Int) / 128))] (.vec .u8 (uintF f (n / 128))):=ih (by omega) (n / 128) hq (by omega)
   have hl:=uintF_len f (n / 128)
   have e : uintF (f + 1) n = if n < 128 then [(n : Int)] else ((n % 128 + 128 : Nat) : Int) :: uintF f (n / 128):=rfl
   rw [e]
   by_cases h : n < 128
   · rw [if_pos h]
     refine Api.of_fin cfg_ok Tryz.func151 rfl (nt:=16) rfl rfl ?_
     conv=>whnf
     repeat' (first|exact trivial|((first|refine kL ?_|(refine ⟨fun hb=>?_,fun hb=>?_⟩<;>(try simp only [nrm] at hb)<;>(try (first|(exfalso;omega)|contradiction|exact kB hb)))|refine kW cfg_ok ?_|refine kC ?_|refine bdA ?_|refine bd2 ?_|refine bdR ?_|refine bdL ?_)<;>(conv=>whnf))|(refine And.intro ?_ ?_;rotate_left;(conv=>whnf);rotate_right))
     all_goals first|rfl|(simp;done)|omega|trace_state
   · rw [if_neg h]
     generalize uintF f (n / 128) = R at *
     refine Api.of_fin cfg_ok Tryz.func151 rfl (nt:=16) rfl rfl ?_
     conv=>whnf
     repeat' (first|exact trivial|((first|refine kL ?_|(refine ⟨fun hb=>?_,fun hb=>?_⟩<;>(try simp only [nrm] at hb)<;>(try (first|(exfalso;omega)|contradiction|exact kB hb)))|refine kA hi ?_|refine kD hi ?_|refine kW cfg_ok ?_|refine kC ?_|refine bdA ?_|refine bd2 ?_|refine bdR ?_|refine bdL ?_)<;>(conv=>whnf))|(refine And.intro ?_ ?_;rotate_left;(conv=>whnf);rotate_right))
     all_goals first|(simp only [List.drop_zero];refine (List.take_of_length_le (by simp;omega)).trans ?_;exact congrArg (· :: R) (by omega))|rfl|(simp;done)|omega|trace_state
theorem beh_row (a b X Y : List (El .u8)) : List.take (a.length + b.length) (List.take a.length (a ++ X) ++ (b ++ Y)) = a ++ b:=by
 rw [List.take_left' rfl,← List.append_assoc,← List.length_append]
 exact List.take_left' rfl
theorem r01beh_ev (a b : List (El .u8)) (n : Nat) (hn : n = a.length) (hl : a.length + b.length ≤ 140737488355328) : Ev1 Tryz.prog 150 [.own .u8 1 0 n none,.vec .u8 b] [(1,.row .u8 a)] (.own .u8 390001 0 (n + b.length) none) [(390001,.row .u8 (a ++ b))]:=by
 subst hn
 refine Ev1.of_fin cfg_ok Tryz.func150 rfl (nt:=16) rfl rfl rfl ?_
 conv=>whnf
 repeat' (first|exact trivial|((first|refine kL ?_|(refine ⟨fun hb=>?_,fun hb=>?_⟩<;>(try simp only [nrm] at hb)<;>(try (first|(exfalso;omega)|contradiction|exact kB hb)))|refine kW cfg_ok ?_|refine kC ?_|refine bdA ?_|refine bd2 ?_|refine bdR ?_|refine bdL ?_)<;>(conv=>whnf))|(refine And.intro ?_ ?_;rotate_left;(conv=>whnf);rotate_right))
 all_goals first|rfl|(simp;done)|omega|(simp only [List.drop_zero,List.take_length,Int.toNat_zero,Nat.zero_add,Nat.add_zero,List.take_zero,List.nil_append];exact beh_row _ _ _ _)|trace_state
theorem r01beh_nil (b : List (El .u8)) (hl : b.length ≤ 140737488355328) : Ev1 Tryz.prog 150 [.lit (.slice none 0 0),.vec .u8 b] [] (.own .u8 390001 0 b.length none) [(390001,.row .u8 b)]:=by
 refine Ev1.of_fin cfg_ok Tryz.func150 rfl (nt:=16) rfl rfl rfl ?_
 conv=>whnf
 repeat' (first|exact trivial|((first|refine kL ?_|(refine ⟨fun hb=>?_,fun hb=>?_⟩<;>(try simp only [nrm] at hb)<;>(try (first|(exfalso;omega)|contradiction|exact kB hb)))|refine kW cfg_ok ?_|refine kC ?_|refine bdA ?_|refine bd2 ?_|refine bdR ?_|refine bdL ?_)<;>(conv=>whnf))|(refine And.intro ?_ ?_;rotate_left;(conv=>whnf);rotate_right))
 all_goals first|rfl|(simp;done)|omega|trace_state
theorem r01uint_ev (a : List (El .u8)) (n : Nat) (z : Int) (hn : n = a.length) (h0 : 0 ≤ z) (hz : z ≤ 18446744073709551615) (hl : a.length ≤ 100000000000000) : Ev1 Tryz.prog 81 [.own .u8 1 0 n none,.lit (.int .u64 z)] [(1,.row .u8 a)] (.own .u8 390001 0 (n + (uintL z.toNat).length) none) [(390001,.row .u8 (a ++ uintL z.toNat))]:=by
 have hv:=r01varint 9 (Nat.le_refl 9) z.toNat (by omega) (by omega)
 rw [Int.toNat_of_nonneg h0] at hv
 have hu:=uintF_len 9 z.toNat
 change Api _ _ _ (.vec .u8 (uintL z.toNat)) at hv
 change (uintL z.toNat).length ≤ 10 at hu
 generalize uintL z.toNat = B at *
 have hb:=r01beh_ev a B n hn (by omega)
 refine Ev1.of_fin cfg_ok Tryz.func81 rfl (nt:=7) rfl rfl rfl ?_
 conv=>whnf
 repeat' (first|exact trivial|((first|refine kL ?_|(refine ⟨fun hb=>?_,fun hb=>?_⟩<;>(try simp only [nrm] at hb)<;>(try (first|(exfalso;omega)|contradiction|exact kB hb)))|refine kE hb [(1,1),(390001,350001)] rfl ?_|refine kF hb [(1,1),(390001,350001)] rfl ?_|refine kA hv ?_|refine kD hv ?_|refine kW cfg_ok ?_|refine kC ?_|refine bdA ?_|refine bd2 ?_|refine bdR ?_|refine bdL ?_)<;>(conv=>whnf))|(refine And.intro ?_ ?_;rotate_left;(conv=>whnf);rotate_right))
 all_goals first|exact List.take_of_length_le (by rw [List.length_append];omega)|rfl|(simp;done)|omega|trace_state
theorem r01uint_nil (z : Int) (h0 : 0 ≤ z) (hz : z ≤ 18446744073709551615) : Ev1 Tryz.prog 81 [.lit (.slice none 0 0),.lit (.int .u64 z)] [] (.own .u8 390001 0 (uintL z.toNat).length none) [(390001,.row .u8 (uintL z.toNat))]:=by
 have hv:=r01varint 9 (Nat.le_refl 9) z.toNat (by omega) (by omega)
 rw [Int.toNat_of_nonneg h0] at hv
 have hu:=uintF_len 9 z.toNat
 change Api _ _ _ (.vec .u8 (uintL z.toNat)) at hv
 change (uintL z.toNat).length ≤ 10 at hu
 generalize uintL z.toNat = B at *
 have hb:=r01beh_nil B (by omega)
 refine Ev1.of_fin cfg_ok Tryz.func81 rfl (nt:=7) rfl rfl rfl ?_
 conv=>whnf
 repeat' (first|exact trivial|((first|refine kL ?_|(refine ⟨fun hb=>?_,fun hb=>?_⟩<;>(try simp only [nrm] at hb)<;>(try (first|(exfalso;omega)|contradiction|exact kB hb)))|refine kE hb [(390001,350001)] rfl ?_|refine kF hb [(390001,350001)] rfl ?_|refine kA hv ?_|refine kD hv ?_|refine kW cfg_ok ?_|refine kC ?_|refine bdA ?_|refine bd2 ?_|refine bdR ?_|refine bdL ?_)<;>(conv=>whnf))|(refine And.intro ?_ ?_;rotate_left;(conv=>whnf);rotate_right))
 all_goals first|exact List.take_of_length_le (by rw [List.length_append];omega)|rfl|(simp;done)|omega|trace_state
open Go Go.RowKit Eng
theorem atW_ref (w : Wld) (x y : Int) : atW w x y = if x < 0 ∨ y < 0 then (0,false) else if (chunkW w (x / 8) (y / 8)).2 = false then (0,false) else (elt .u8 (chunkW w (x / 8) (y / 8)).1.cells (y % 8 * 8 + x % 8).toNat,true):=by
 cases hR : rightW w with
 | false =>
   have e:=chunkW_out (x:=x / 8) (y:=y / 8) (.inl hR)
   have l : atW w x y = (0,false):=by
     unfold atW
     rw [e]
     split
     · rfl
     · rw [if_pos rfl]
   rw [l,e]
   split
   · rfl
   · rw [if_pos rfl]
 | true =>
   have hRW:=rightW_iff.1 hR
   by_cases h : 0 ≤ x ∧ 0 ≤ y ∧ x < 8 * w.size ∧ y < 8 * w.size
   · rw [atW_in hRW h,if_neg (by omega),chunkW_get hRW (by omega) (by omega) (by omega) (by omega),if_neg (by simp)]
   · rw [atW_out hRW h]
     by_cases h2 : x < 0 ∨ y < 0
     · rw [if_pos h2]
     · rw [if_neg h2,chunkW_out (.inr (by omega)),if_pos rfl]
theorem r13at_api (w : Wld) (x y : Int) (hw : OkW w) (hx1 : x ≤ 9223372036854775807) (hy1 : y ≤ 9223372036854775807) : Api Tryz.prog 18 [wldV w,i64 x,i64 y] (.tup [.lit (.int .u8 (atW w x y).1),bol (atW w x y).2]):=by
 have hch:=r13chunk_api w (x / 8) (y / 8) hw
 rw [atW_ref]
 by_cases h : x < 0 ∨ y < 0
 · rw [if_pos h]
   refine Api.of_fin cfg_ok Tryz.func18 rfl (nt:=34) rfl rfl ?_
   ((try with_reducible refine evCut fun N hN hE hT=>?_);(conv=>whnf))
   repeat' (first|exact trivial|((first|((first|refine hT _ _ ?_|refine hE _ _ _ ?_|refine hN _ _ ?_);clear hN hE hT)|refine kL ?_|(refine ⟨fun hb=>?_,fun hb=>?_⟩<;>(try simp only [nrm] at hb)<;>(try (first|(exfalso;omega)|contradiction|exact kB hb)))|refine kW cfg_ok ?_|refine kC ?_|refine bdA ?_|refine bd2 ?_|refine bdR ?_|refine bdL ?_)<;>((try with_reducible refine evCut fun N hN hE hT=>?_);(conv=>whnf)))|(refine And.intro ?_ ?_;rotate_left;(conv=>whnf);rotate_right))
   all_goals first|rfl|omega|trace_state
 · rw [if_neg h]
   cases hC : (chunkW w (x / 8) (y / 8)).2 with
   | false =>
     rw [hC] at hch
     rw [if_pos rfl]
     generalize (chunkW w (x / 8) (y / 8)).1 = K at *
     refine Api.of_fin cfg_ok Tryz.func18 rfl (nt:=34) rfl rfl ?_
     ((try with_reducible refine evCut fun N hN hE hT=>?_);(conv=>whnf))
     repeat' (first|exact trivial|((first|((first|refine hT _ _ ?_|refine hE _ _ _ ?_|refine hN _ _ ?_);clear hN hE hT)|refine kL ?_|(refine ⟨fun hb=>?_,fun hb=>?_⟩<;>(try simp only [nrm] at hb)<;>(try (first|(exfalso;omega)|contradiction|exact kB hb)))|refine kA hch ?_|refine kD hch ?_|refine kW cfg_ok ?_|refine kC ?_|refine bdA ?_|refine bd2 ?_|refine bdR ?_|refine bdL ?_)<;>((try with_reducible refine evCut fun N hN hE hT=>?_);(conv=>whnf)))|(refine And.intro ?_ ?_;rotate_left;(conv=>whnf);rotate_right))
     all_goals first|rfl|omega|trace_state
   | true =>
     rw [hC] at hch
     have hl:=chunkW_len hC
     rw [if_neg (by simp)]
     generalize (chunkW w (x / 8) (y / 8)).1 = K at *
     refine Api.of_fin cfg_ok Tryz.func18 rfl (nt:=34) rfl rfl ?_
     ((try with_reducible refine evCut fun N hN hE hT=>?_);(conv=>whnf))
     repeat' (first|exact trivial|((first|((first|refine hT _ _ ?_|refine hE _ _ _ ?_|refine hN _ _ ?_);clear hN hE hT)|refine kL ?_|(refine ⟨fun hb=>?_,fun hb=>?_⟩<;>(try simp only [nrm] at hb)<;>(try (first|(exfalso;omega)|contradiction|exact kB hb)))|refine kA hch ?_|refine kD hch ?_|refine kW cfg_ok ?_|refine kC ?_|refine bdA ?_|refine bd2 ?_|refine bdR ?_|refine bdL ?_)<;>((try with_reducible refine evCut fun N hN hE hT=>?_);(conv=>whnf)))|(refine And.intro ?_ ?_;rotate_left;(conv=>whnf);rotate_right))
     all_goals first|rfl|omega|trace_state
theorem u1_slot {s : Slot} (h : okSlot s) (h2 : badSlot s = false) : 0 ≤ s.item ∧ s.item ≤ 255 ∧ 0 ≤ s.n ∧ s.n ≤ 16:=by
 have:=okN_slot h2;exact ⟨h.1,h.2,this.1,this.2⟩
theorem putY2 (a b : Int) : putY [a,b] = uintL a.toNat ++ uintL b.toNat:=by unfold putY;simp
theorem putY3 (a b c : Int) : putY [a,b,c] = uintL a.toNat ++ (uintL b.toNat ++ uintL c.toNat):=by unfold putY;simp
theorem putY1 (a : Int) : putY [a] = uintL a.toNat:=by unfold putY;simp
theorem uintL_len (z : Nat) : (uintL z).length ≤ 10:=uintF_len 9 z
theorem r11bytes_api (c : Chunk) (hc : OkC c) (hR : rightB c = true) : Api Tryz.prog 82 [chunkV c] (.tup [.vec .u8 (bytesC c),i64 0]):=by
 have hrt:=r11right_api c hc
 rw [hR] at hrt
 have hRC:=rightC_of hR
 have hlen:=hRC.len
 have hH:=hRC.head
 simp only [headB,Bool.and_eq_true,decide_eq_true_eq] at hH
 obtain ⟨hx0,hy0,hx1,hy1,-,hh32⟩:=hH
 obtain ⟨hbl,hbx⟩:=rightGo_boxes _ _ _ hRC.go
 have lx:=uintL_len c.x.toNat
 have ly:=uintL_len c.y.toNat
 have e1:=r01uint_nil c.x hx0 (by omega)
 have e2:=r01uint_ev (uintL c.x.toNat) _ c.y rfl hy0 (by omega) (by omega)
 have hB : bytesC c = uintL c.x.toNat ++ uintL c.y.toNat ++ c.cells ++ uintL (c.heaps.length : Int).toNat ++ c.heaps.flatMap heapL ++ c.boxes.flatMap boxL:=by
   unfold bytesC;rw [putY2,putY1]
 rw [← List.length_append] at e2
 have lP : (uintL c.x.toNat ++ uintL c.y.toNat).length ≤ 20:=by rw [List.length_append];omega
 rw [hB]
 generalize hX : uintL c.x.toNat = X at *
 generalize hP : X ++ uintL c.y.toNat = P at *
 refine Api.of_fin cfg_ok Tryz.func82 rfl (nt:=112) rfl rfl ?_
 conv=>whnf
 repeat' (first|exact trivial|((first|refine kL ?_|(refine ⟨fun hb=>?_,fun hb=>?_⟩<;>(try simp only [nrm] at hb)<;>(try (first|(exfalso;omega)|contradiction|exact kB hb)))|refine kE e1 [(390001,150101)] rfl ?_|refine kF e1 [(390001,150101)] rfl ?_|refine kE e2 [(1,150101),(390001,150103)] rfl ?_|refine kF e2 [(1,150101),(390001,150103)] rfl ?_|refine kA hrt ?_|refine kD hrt ?_|refine kW cfg_ok ?_|refine kC ?_|refine bdA ?_|refine bd2 ?_|refine bdR ?_|refine bdL ?_)<;>(conv=>whnf))|(refine And.intro ?_ ?_;rotate_left;(conv=>whnf);rotate_right))
 refine Runs.loopS cfg_ok (σ:=Nat) [1,4,5] (fun k=>[.ptr 2 0,.own .u8 150103 0 (P.length + k) none,i64 k]) (fun k=>[(2,.box (chunkC c)),(150103,.row .u8 (P ++ c.cells.take k))]) (fun k=>k ≤ 64) (fun k=>64 - k) 0 (by omega) ?_ ?_
 · conv=>whnf
   repeat' (first|exact trivial|((first|refine kL ?_|(refine ⟨fun hb=>?_,fun hb=>?_⟩<;>(try simp only [nrm] at hb)<;>(try (first|(exfalso;omega)|contradiction|exact kB hb)))|refine kW cfg_ok ?_|refine kC ?_|refine bdA ?_|refine bd2 ?_|refine bdR ?_|refine bdL ?_)<;>(conv=>whnf))|(refine And.intro ?_ ?_;rotate_left;(conv=>whnf);rotate_right))
   all_goals first|rfl|(simp;done)|trace_state
 · intro k hk
   by_cases hlt : k < 64
   · have hn:=app_next P c.cells k (by omega)
     conv=>whnf
     repeat' (first|exact trivial|((first|refine kL ?_|(refine ⟨fun hb=>?_,fun hb=>?_⟩<;>(try simp only [nrm] at hb)<;>(try (first|(exfalso;omega)|contradiction|exact kB hb)))|refine kW cfg_ok ?_|refine kC ?_|refine bdA ?_|refine bd2 ?_|refine bdR ?_|refine bdL ?_)<;>(conv=>whnf))|(refine And.intro ?_ ?_;rotate_left;(conv=>whnf);rotate_right))
     refine .to (k + 1) hlt (by omega) ?_
     conv=>whnf
     repeat' (first|exact trivial|((first|refine kL ?_|(refine ⟨fun hb=>?_,fun hb=>?_⟩<;>(try simp only [nrm] at hb)<;>(try (first|(exfalso;omega)|contradiction|exact kB hb)))|refine kW cfg_ok ?_|refine kC ?_|refine bdA ?_|refine bd2 ?_|refine bdR ?_|refine bdL ?_)<;>(conv=>whnf))|(refine And.intro ?_ ?_;rotate_left;(conv=>whnf);rotate_right))
     all_goals first|rfl|exact hn|(simp;done)|trace_state
   · obtain rfl : k = 64:=by omega
     have hcl : c.cells.take 64 = c.cells:=List.take_of_length_le (by omega)
     rw [hcl]
     have lQ : (P ++ c.cells).length ≤ 84:=by rw [List.length_append];omega
     have lQ2 : P.length + 64 = (P ++ c.cells).length:=by rw [List.length_append];omega
     rw [lQ2]
     have lh:=uintL_len (c.heaps.length : Int).toNat
     have e3:=r01uint_ev (P ++ c.cells) _ (c.heaps.length : Int) rfl (by omega) (by omega) (by omega)
     rw [← List.length_append] at e3
     have lS : (P ++ c.cells ++ uintL (c.heaps.length : Int).toNat).length ≤ 94:=by rw [List.length_append];omega
     generalize P ++ c.cells ++ uintL (c.heaps.length : Int).toNat = S at *
     generalize P ++ c.cells = Q at *
     conv=>whnf
     repeat' (first|exact trivial|((first|refine kL ?_|(refine ⟨fun hb=>?_,fun hb=>?_⟩<;>(try simp only [nrm] at hb)<;>(try (first|(exfalso;omega)|contradiction|exact kB hb)))|refine kE e3 [(1,150103),(390001,150101)] rfl ?_|refine kF e3 [(1,150103),(390001,150101)] rfl ?_|refine kW cfg_ok ?_|refine kC ?_|refine bdA ?_|refine bd2 ?_|refine bdR ?_|refine bdL ?_)<;>(conv=>whnf))|(refine And.intro ?_ ?_;rotate_left;(conv=>whnf);rotate_right))
     refine Runs.loopS cfg_ok (σ:=Nat × List Int) [1,4,6] (fun (k,T)=>[.ptr 2 0,.own .u8 150101 0 T.length none,i64 k]) (fun (_,T)=>[(2,.box (chunkC c)),(150101,.row .u8 T)]) (fun (k,T)=>k ≤ c.heaps.length ∧ T = S ++ (c.heaps.take k).flatMap heapL ∧ T.length ≤ 94 + k * 30) (fun (k,_)=>c.heaps.length - k) (0,S) ⟨by omega,by simp,by omega⟩ ?_ ?_
     · conv=>whnf
       repeat' (first|exact trivial|((first|refine kL ?_|(refine ⟨fun hb=>?_,fun hb=>?_⟩<;>(try simp only [nrm] at hb)<;>(try (first|(exfalso;omega)|contradiction|exact kB hb)))|refine kW cfg_ok ?_|refine kC ?_|refine bdA ?_|refine bd2 ?_|refine bdR ?_|refine bdL ?_)<;>(conv=>whnf))|(refine And.intro ?_ ?_;rotate_left;(conv=>whnf);rotate_right))
       all_goals first|rfl|(simp;done)|trace_state
     · rintro ⟨k,T⟩ ⟨hk,hT,hTl⟩
       try dsimp only at hk hT hTl
       by_cases hlt : k < c.heaps.length
       · obtain ⟨ha1,ha2,ha3,ha4⟩:=okN_heap (any_false hRC.heaps (elt_mem (t:=.heap) hlt))
         obtain ⟨hb1,hb2⟩ : 0 ≤ (elt .heap c.heaps k).slot.item ∧ (elt .heap c.heaps k).slot.item ≤ 255:=hc.heaps _ (elt_mem (t:=.heap) hlt)
         have l1:=uintL_len (elt .heap c.heaps k).cell.toNat
         have l2:=uintL_len (elt .heap c.heaps k).slot.item.toNat
         have l3:=uintL_len (elt .heap c.heaps k).slot.n.toNat
         have q0 : (elt .heap c.heaps (k : Int).toNat).cell = (elt .heap c.heaps k).cell:=rfl
         have q1 : (elt .heap c.heaps (k : Int).toNat).slot.item = (elt .heap c.heaps k).slot.item:=rfl
         have q2 : (elt .heap c.heaps (k : Int).toNat).slot.n = (elt .heap c.heaps k).slot.n:=rfl
         have u1:=r01uint_ev T _ (elt .heap c.heaps k).cell rfl ha1 (by omega) (by omega)
         have u2:=r01uint_ev (T ++ uintL (elt .heap c.heaps k).cell.toNat) _ (elt .heap c.heaps k).slot.item (by rw [List.length_append]) hb1 (by omega) (by rw [List.length_append];omega)
         have u3:=r01uint_ev (T ++ uintL (elt .heap c.heaps k).cell.toNat ++ uintL (elt .heap c.heaps k).slot.item.toNat) _ (elt .heap c.heaps k).slot.n (by rw [List.length_append,List.length_append]) (by omega) (by omega) (by rw [List.length_append,List.length_append];omega)
         have hT2 : T ++ uintL (elt .heap c.heaps k).cell.toNat ++ uintL (elt .heap c.heaps k).slot.item.toNat ++ uintL (elt .heap c.heaps k).slot.n.toNat = S ++ (c.heaps.take (k + 1)).flatMap heapL:=by
           rw [flatMap_take (t:=.heap) heapL hlt,hT]
           unfold heapL
           rw [putY3]
           simp only [List.append_assoc]
         have hT3 : (T ++ uintL (elt .heap c.heaps k).cell.toNat ++ uintL (elt .heap c.heaps k).slot.item.toNat ++ uintL (elt .heap c.heaps k).slot.n.toNat).length ≤ 94 + (k + 1) * 30:=by
           simp only [List.length_append];omega
         conv=>whnf
         repeat' (first|exact trivial|((first|refine kL ?_|(refine ⟨fun hb=>?_,fun hb=>?_⟩<;>(try simp only [nrm] at hb)<;>(try (first|(exfalso;omega)|contradiction|exact kB hb)))|refine kE u1 [(1,150101),(390001,150103)] rfl ?_|refine kF u1 [(1,150101),(390001,150103)] rfl ?_|refine kE u2 [(1,150103),(390001,150105)] rfl ?_|refine kF u2 [(1,150103),(390001,150105)] rfl ?_|refine kE u3 [(1,150105),(390001,150101)] rfl ?_|refine kF u3 [(1,150105),(390001,150101)] rfl ?_|refine kW cfg_ok ?_|refine kC ?_|refine bdA ?_|refine bd2 ?_|refine bdR ?_|refine bdL ?_)<;>(conv=>whnf))|(refine And.intro ?_ ?_;rotate_left;(conv=>whnf);rotate_right))
         refine .to (k + 1,_) ⟨hlt,hT2,hT3⟩ (by first|omega|(dsimp only;omega)) ?_
         conv=>whnf
         repeat' (first|exact trivial|((first|refine kL ?_|(refine ⟨fun hb=>?_,fun hb=>?_⟩<;>(try simp only [nrm] at hb)<;>(try (first|(exfalso;omega)|contradiction|exact kB hb)))|refine kW cfg_ok ?_|refine kC ?_|refine bdA ?_|refine bd2 ?_|refine bdR ?_|refine bdL ?_)<;>(conv=>whnf))|(refine And.intro ?_ ?_;rotate_left;(conv=>whnf);rotate_right))
         all_goals first|rfl|(simp only [List.length_append];done)|(simp only [List.length_append,List.take_length];done)|(refine List.take_of_length_le ?_;simp only [List.length_append];omega)|trace_state
       · obtain rfl : k = c.heaps.length:=by omega
         rw [List.take_length] at hT
         rw [← hT]
         conv=>whnf
         repeat' (first|exact trivial|((first|refine kL ?_|(refine ⟨fun hb=>?_,fun hb=>?_⟩<;>(try simp only [nrm] at hb)<;>(try (first|(exfalso;omega)|contradiction|exact kB hb)))|refine kW cfg_ok ?_|refine kC ?_|refine bdA ?_|refine bd2 ?_|refine bdR ?_|refine bdL ?_)<;>(conv=>whnf))|(refine And.intro ?_ ?_;rotate_left;(conv=>whnf);rotate_right))
         refine Runs.loopS cfg_ok (σ:=Nat × List Int) [1,4,7] (fun (k,U)=>[.ptr 2 0,.own .u8 150101 0 U.length none,i64 k]) (fun (_,U)=>[(2,.box (chunkC c)),(150101,.row .u8 U)]) (fun (k,U)=>k ≤ c.boxes.length ∧ U = T ++ (c.boxes.take k).flatMap boxL ∧ U.length ≤ 1060 + k * 120) (fun (k,_)=>c.boxes.length - k) (0,T) ⟨by omega,by simp,by omega⟩ ?_ ?_
         · conv=>whnf
           repeat' (first|exact trivial|((first|refine kL ?_|(refine ⟨fun hb=>?_,fun hb=>?_⟩<;>(try simp only [nrm] at hb)<;>(try (first|(exfalso;omega)|contradiction|exact kB hb)))|refine kW cfg_ok ?_|refine kC ?_|refine bdA ?_|refine bd2 ?_|refine bdR ?_|refine bdL ?_)<;>(conv=>whnf))|(refine And.intro ?_ ?_;rotate_left;(conv=>whnf);rotate_right))
           all_goals first|rfl|(simp;done)|trace_state
         · rintro ⟨k,U⟩ ⟨hk,hU,hUl⟩
           try dsimp only at hk hU hUl
           by_cases hlt : k < c.boxes.length
           · obtain ⟨hb6,hbo⟩:=hbx _ (elt_mem (t:=.box) hlt)
             have hok:=hc.boxes _ (elt_mem (t:=.box) hlt)
             conv=>whnf
             repeat' (first|exact trivial|((first|refine kL ?_|(refine ⟨fun hb=>?_,fun hb=>?_⟩<;>(try simp only [nrm] at hb)<;>(try (first|(exfalso;omega)|contradiction|exact kB hb)))|refine kW cfg_ok ?_|refine kC ?_|refine bdA ?_|refine bd2 ?_|refine bdR ?_|refine bdL ?_)<;>(conv=>whnf))|(refine And.intro ?_ ?_;rotate_left;(conv=>whnf);rotate_right))
             refine Runs.loopS cfg_ok (σ:=Nat × List Int) [1,4,7,8] (fun (j,V)=>[.ptr 2 0,.own .u8 150101 0 V.length none,i64 k,i64 j]) (fun (_,V)=>[(2,.box (chunkC c)),(150101,.row .u8 V)]) (fun (j,V)=>j ≤ 6 ∧ V = U ++ ((elt .box c.boxes k).bag.take j).flatMap slotL ∧ V.length ≤ U.length + j * 20) (fun (j,_)=>6 - j) (0,U) ⟨by omega,by simp,by omega⟩ ?_ ?_
             · conv=>whnf
               repeat' (first|exact trivial|((first|refine kL ?_|(refine ⟨fun hb=>?_,fun hb=>?_⟩<;>(try simp only [nrm] at hb)<;>(try (first|(exfalso;omega)|contradiction|exact kB hb)))|refine kW cfg_ok ?_|refine kC ?_|refine bdA ?_|refine bd2 ?_|refine bdR ?_|refine bdL ?_)<;>(conv=>whnf))|(refine And.intro ?_ ?_;rotate_left;(conv=>whnf);rotate_right))
               all_goals first|rfl|(simp;done)|trace_state
             · rintro ⟨j,V⟩ ⟨hj,hV,hVl⟩
               try dsimp only at hj hV hVl
               by_cases hjl : j < 6
               · have hjl2 : j < (elt .box c.boxes k).bag.length:=by omega
                 have hm:=elt_mem (t:=.slot) hjl2
                 obtain ⟨s1,s2,s3,s4⟩:=u1_slot (hok.1 _ hm) (any_false (by simpa [bagOk] using hbo) hm)
                 have l1:=uintL_len (elt .slot (elt .box c.boxes k).bag j).item.toNat
                 have l2:=uintL_len (elt .slot (elt .box c.boxes k).bag j).n.toNat
                 have q1 : (elt .slot (elt .box c.boxes (k : Int).toNat).bag (j : Int).toNat).item = (elt .slot (elt .box c.boxes k).bag j).item:=rfl
                 have q2 : (elt .slot (elt .box c.boxes (k : Int).toNat).bag (j : Int).toNat).n = (elt .slot (elt .box c.boxes k).bag j).n:=rfl
                 have q3 : (elt .box c.boxes (k : Int).toNat).bag.length = (elt .box c.boxes k).bag.length:=rfl
                 have u1:=r01uint_ev V _ (elt .slot (elt .box c.boxes k).bag j).item rfl s1 (by omega) (by omega)
                 have u2:=r01uint_ev (V ++ uintL (elt .slot (elt .box c.boxes k).bag j).item.toNat) _ (elt .slot (elt .box c.boxes k).bag j).n (by rw [List.length_append]) s3 (by omega) (by rw [List.length_append];omega)
                 have hT2 : V ++ uintL (elt .slot (elt .box c.boxes k).bag j).item.toNat ++ uintL (elt .slot (elt .box c.boxes k).bag j).n.toNat = U ++ ((elt .box c.boxes k).bag.take (j + 1)).flatMap slotL:=by
                   rw [flatMap_take (t:=.slot) slotL hjl2,hV]
                   unfold slotL
                   rw [putY2]
                   simp only [List.append_assoc]
                 have hT3 : (V ++ uintL (elt .slot (elt .box c.boxes k).bag j).item.toNat ++ uintL (elt .slot (elt .box c.boxes k).bag j).n.toNat).length ≤ U.length + (j + 1) * 20:=by
                   simp only [List.length_append];omega
                 conv=>whnf
                 repeat' (first|exact trivial|((first|refine kL ?_|(refine ⟨fun hb=>?_,fun hb=>?_⟩<;>(try simp only [nrm] at hb)<;>(try (first|(exfalso;omega)|contradiction|exact kB hb)))|refine kE u1 [(1,150101),(390001,150103)] rfl ?_|refine kF u1 [(1,150101),(390001,150103)] rfl ?_|refine kE u2 [(1,150103),(390001,150101)] rfl ?_|refine kF u2 [(1,150103),(390001,150101)] rfl ?_|refine kW cfg_ok ?_|refine kC ?_|refine bdA ?_|refine bd2 ?_|refine bdR ?_|refine bdL ?_)<;>(conv=>whnf))|(refine And.intro ?_ ?_;rotate_left;(conv=>whnf);rotate_right))
                 refine .to (j + 1,_) ⟨hjl,hT2,hT3⟩ (by first|omega|(dsimp only;omega)) ?_
                 conv=>whnf
                 repeat' (first|exact trivial|((first|refine kL ?_|(refine ⟨fun hb=>?_,fun hb=>?_⟩<;>(try simp only [nrm] at hb)<;>(try (first|(exfalso;omega)|contradiction|exact kB hb)))|refine kW cfg_ok ?_|refine kC ?_|refine bdA ?_|refine bd2 ?_|refine bdR ?_|refine bdL ?_)<;>(conv=>whnf))|(refine And.intro ?_ ?_;rotate_left;(conv=>whnf);rotate_right))
                 all_goals first|rfl|(simp only [List.length_append];done)|(simp only [List.length_append,List.take_length];done)|(refine List.take_of_length_le ?_;simp only [List.length_append];omega)|trace_state
               · obtain rfl : j = 6:=by omega
                 rw [List.take_of_length_le (by omega)] at hV
                 have hV2 : V = T ++ (c.boxes.take (k + 1)).flatMap boxL:=by rw [flatMap_take (t:=.box) boxL hlt,hV,hU,List.append_assoc];rfl
                 conv=>whnf
                 repeat' (first|exact trivial|((first|refine kL ?_|(refine ⟨fun hb=>?_,fun hb=>?_⟩<;>(try simp only [nrm] at hb)<;>(try (first|(exfalso;omega)|contradiction|exact kB hb)))|refine kW cfg_ok ?_|refine kC ?_|refine bdA ?_|refine bd2 ?_|refine bdR ?_|refine bdL ?_)<;>(conv=>whnf))|(refine And.intro ?_ ?_;rotate_left;(conv=>whnf);rotate_right))
                 refine .to (k + 1,V) ⟨hlt,hV2,by first|omega|(dsimp only;omega)⟩ (by first|omega|(dsimp only;omega)) ?_
                 conv=>whnf
                 repeat' (first|exact trivial|((first|refine kL ?_|(refine ⟨fun hb=>?_,fun hb=>?_⟩<;>(try simp only [nrm] at hb)<;>(try (first|(exfalso;omega)|contradiction|exact kB hb)))|refine kW cfg_ok ?_|refine kC ?_|refine bdA ?_|refine bd2 ?_|refine bdR ?_|refine bdL ?_)<;>(conv=>whnf))|(refine And.intro ?_ ?_;rotate_left;(conv=>whnf);rotate_right))
                 all_goals first|rfl|exact List.take_length|trace_state
           · obtain rfl : k = c.boxes.length:=by omega
             rw [List.take_length] at hU
             rw [← hU]
             conv=>whnf
             repeat' (first|exact trivial|((first|refine kL ?_|(refine ⟨fun hb=>?_,fun hb=>?_⟩<;>(try simp only [nrm] at hb)<;>(try (first|(exfalso;omega)|contradiction|exact kB hb)))|refine kW cfg_ok ?_|refine kC ?_|refine bdA ?_|refine bd2 ?_|refine bdR ?_|refine bdL ?_)<;>(conv=>whnf))|(refine And.intro ?_ ?_;rotate_left;(conv=>whnf);rotate_right))
             all_goals first|rfl|exact List.take_length|trace_state
theorem uintL_one {z : Int} (h : 0 ≤ z) (h2 : z < 128) : uintL z.toNat = [z]:=by
 unfold uintL
 simp only [uintF]
 rw [if_pos (by omega)]
 congr 1
 omega
theorem gl_ok {s x y : Int} {i : Int} (h : i ∈ gl s x y 64) : i ≠ 9:=by
 unfold gl at h
 obtain ⟨j,_,rfl⟩:=List.mem_map.1 h
 exact (cellI_ok _ _ _).2
theorem same_plain {seed : Int} {c : Chunk} (h : rightB c = true) : eqL (bytesC c) (bytesC (genC seed c.x c.y)) = plainW seed c:=by
 have hh:=right_heaps h
 have hl:=right_len h
 have hgl:=gl_len seed c.x c.y 64
 unfold eqL plainW eqI
 rw [← Bool.decide_and,decide_eq_decide]
 have e0 : bytesC (genC seed c.x c.y) = putY [c.x,c.y] ++ (gl seed c.x c.y 64 ++ [0]):=by
   unfold bytesC genC
   simp only [List.length_nil,List.flatMap_nil,List.append_nil]
   rw [putY1,show ((0 : Nat) : Int).toNat = (0 : Int).toNat by rfl,uintL_one (by omega) (by omega),List.append_assoc]
 have e1 : bytesC c = putY [c.x,c.y] ++ (c.cells ++ ((c.heaps.length : Int) :: (c.heaps.flatMap heapL ++ c.boxes.flatMap boxL))):=by
   unfold bytesC
   rw [putY1,uintL_one (by omega) (by omega)]
   simp only [List.append_assoc,List.singleton_append,List.cons_append,List.nil_append]
 rw [e0,e1,List.append_cancel_left_eq]
 constructor
 · intro e
   obtain ⟨a1,a2⟩:=List.append_inj e (by rw [hl,hgl])
   exact ⟨by have:=(List.cons.inj a2).1;omega,a1⟩
 · rintro ⟨a1,a2⟩
   have hn : c.heaps = []:=List.eq_nil_of_length_eq_zero (by omega)
   have hf:=right_fits h
   have hb : c.boxes = []:=by
     cases hbx : c.boxes with
     | nil=>rfl
     | cons b r =>
       exfalso
       have hm : b ∈ c.boxes:=by rw [hbx];simp
       obtain ⟨b1,b2⟩:=(rightGo_rises _ _ _ (rightC_of h).go).2 b hm
       have hg:=getB_of_mem (rightC_of h).rises hm
       have h9:=(chest_iff h (a:=b.cell) (by omega) (by omega)).2 (by rw [hg];rfl)
       have hmem:=elt_mem (t:=.u8) (l:=c.cells) (i:=b.cell.toNat) (by omega)
       rw [h9,a2] at hmem
       exact gl_ok hmem rfl
   rw [hn,hb,a2];rfl
theorem v8_uintF : ∀ (f n : Nat),n < 128 ^ (f + 1) → okU8 (uintF f n)
 | 0,n,h=>by intro i hi;unfold uintF at hi;simp at hi h;omega
 | f + 1,n,h=>by
   intro i hi
   unfold uintF at hi
   split at hi
   · simp at hi;omega
   · rcases List.mem_cons.1 hi with rfl|hi
     · omega
     · exact v8_uintF f _ (by rw [Nat.pow_succ] at h;omega) i hi
theorem v8_uint (n : Nat) (h : n < 18446744073709551616) : okU8 (uintL n):=v8_uintF 9 n (by omega)
theorem v8_put (l : List Int) (h : ∀ z ∈ l,z < 18446744073709551616) : okU8 (putY l):=by
 intro i hi
 unfold putY at hi
 rw [List.mem_flatMap] at hi
 obtain ⟨z,hm,hz⟩:=hi
 exact v8_uint _ (by have:=h z hm;omega) i hz
theorem v8_app {a b : List Int} (ha : okU8 a) (hb : okU8 b) : okU8 (a ++ b):=fun i hi=>(List.mem_append.1 hi).elim (ha i) (hb i)
theorem v8_flat {α : Type} {f : α → List Int} {l : List α} (h : ∀ a ∈ l,okU8 (f a)) : okU8 (l.flatMap f):=fun i hi=>by
 obtain ⟨a,ha,h2⟩:=List.mem_flatMap.1 hi
 exact h a ha i h2
theorem bytesC_u8 {c : Chunk} (h : rightB c = true) : okU8 (bytesC c):=by
 have hp:=rightB_pos h
 have hh:=right_heaps h
 have hC:=okC_right h
 unfold bytesC
 refine v8_app (v8_app (v8_app (v8_app (v8_put _ ?_) hC.cells) (v8_put _ ?_)) (v8_flat fun x hx=>v8_put _ ?_)) (v8_flat fun b hb=>v8_flat fun s hs=>v8_put _ ?_)
 · intro z hz;simp at hz;omega
 · intro z hz;simp at hz;omega
 · intro z hz
   obtain ⟨k1,k2,k3⟩:=right_heap h hx
   have k4:=(hC.heaps x hx).2
   have k5:=(someB_ok k1).2.2
   simp at hz
   rcases hz with rfl|rfl|rfl<;>omega
 · intro z hz
   have k1:=((hC.boxes b hb).1 s hs).2
   have k2:=okN_slot (any_false (by simpa [bagOk] using (right_bag h hb).2) hs)
   simp at hz
   rcases hz with rfl|rfl<;>omega
theorem r13same_api (c : Chunk) (seed x y : Int) (h : rightB c = true) (hx : c.x = x) (hy : c.y = y) : Api Tryz.prog 72 [chunkV c,chunkV (genC seed x y)] (bol (plainW seed c)):=by
 subst hx hy
 have hp:=rightB_pos h
 have hg : rightB (genC seed c.x c.y) = true:=right_gen (by omega) (by omega)
 have h1:=r11bytes_api c (okC_right h) h
 have h2:=r11bytes_api _ (okC_right hg) hg
 have e:=same_plain (seed:=seed) h
 rw [← strOf_eq (bytesC_u8 h) (bytesC_u8 hg)] at e
 generalize bytesC c = A at *
 generalize bytesC (genC seed c.x c.y) = B at *
 generalize genC seed c.x c.y = G at *
 refine Api.of_fin cfg_ok Tryz.func72 rfl (nt:=22) rfl rfl ?_
 ((try with_reducible refine evCut fun N hN hE hT=>?_);(conv=>whnf))
 repeat' (first|exact trivial|((first|((first|refine hT _ _ ?_|refine hE _ _ _ ?_|refine hN _ _ ?_);clear hN hE hT)|refine kL ?_|(refine ⟨fun hb=>?_,fun hb=>?_⟩<;>(try simp only [nrm] at hb)<;>(try (first|(exfalso;omega)|contradiction|exact kB hb)))|refine kA h1 ?_|refine kD h1 ?_|refine kA h2 ?_|refine kD h2 ?_|refine kW cfg_ok ?_|refine kC ?_|refine bdA ?_|refine bd2 ?_|refine bdR ?_|refine bdL ?_)<;>((try with_reducible refine evCut fun N hN hE hT=>?_);(conv=>whnf)))|(refine And.intro ?_ ?_;rotate_left;(conv=>whnf);rotate_right))
 all_goals first|exact congrArg Value.bool e|trace_state
end Go.Proofs.YtaecchphjploaaaGreat
