/- homesteadlaw27.PathWalls. -/
import Derived.Test.YtchdgiooggdfeaaGj
set_option linter.unusedSimpArgs false
set_option linter.unusedVariables false
set_option maxRecDepth 100000
set_option maxHeartbeats 16000000
namespace Go.Proofs.Ytchdgiooggdfeaa
open Go Go.RowKit Eng
def stonesL (whole : Bool) (g : Int) (k : Nat) : List Int:=((List.range k).filter fun (x : Nat)=>whole || !(decide ((x : Int) = g))).map fun (x : Nat)=>32 + (x : Int)
theorem stones_succ (whole : Bool) (g : Int) (k : Nat) : stonesL whole g (k + 1) = stonesL whole g k ++ (if whole = true ∨ ¬ (k : Int) = g then [32 + (k : Int)] else []):=by
 unfold stonesL
 rw [List.range_succ,List.filter_append,List.map_append]
 congr 1
 cases whole with
 | true=>simp
 | false=>by_cases h : (k : Int) = g<;>simp [h]
theorem stones_len (whole : Bool) (g : Int) (k : Nat) : (stonesL whole g k).length ≤ k:=by
 unfold stonesL
 rw [List.length_map]
 exact Nat.le_trans (List.length_filter_le _ _) (by simp)
theorem stones_mem {whole : Bool} {g : Int} {k : Nat} {z : Int} : z ∈ stonesL whole g k ↔ 32 ≤ z ∧ z < 32 + k ∧ (whole = true ∨ z - 32 ≠ g):=by
 unfold stonesL
 rw [List.mem_map]
 constructor
 · rintro ⟨x,hx,rfl⟩
   obtain ⟨h1,h2⟩:=List.mem_filter.1 hx
   have h3:=List.mem_range.1 h1
   refine ⟨by omega,by omega,?_⟩
   cases whole with
   | true=>exact .inl rfl
   | false =>
     simp only [Bool.false_or,Bool.not_eq_true',decide_eq_false_iff_not] at h2
     exact .inr (by omega)
 · rintro ⟨h1,h2,h3⟩
   refine ⟨(z - 32).toNat,List.mem_filter.2 ⟨List.mem_range.2 (by omega),?_⟩,by omega⟩
   rcases h3 with h3|h3
   · rw [h3];rfl
   · have : ¬ (((z - 32).toNat : Nat) : Int) = g:=by omega
     show (whole || !(decide ((((z - 32).toNat : Nat) : Int) = g))) = true
     rw [decide_eq_false this]
     cases whole<;>rfl
theorem stones_bd {whole : Bool} {g : Int} {z : Int} (h : z ∈ stonesL whole g 8) : 0 ≤ z ∧ z < 64:=by
 have:=stones_mem.1 h
 omega
theorem cells_fold : ∀ (m c : List Int) (k : Nat),(∀ z ∈ m,0 ≤ z) → k < c.length → (m.foldl (fun c (k : Int)=>c.set k.toNat 2) c)[k]? = if (k : Int) ∈ m then some 2 else c[k]?:=by
 intro m
 induction m with
 | nil=>intro c k _ _;simp
 | cons a r ih =>
   intro c k h hk
   rw [List.foldl_cons,ih _ k (fun z hz=>h z (List.mem_cons_of_mem _ hz)) (by rw [List.length_set];exact hk)]
   have ha:=h a (List.mem_cons_self ..)
   by_cases h1 : (k : Int) ∈ r
   · rw [if_pos h1,if_pos (List.mem_cons_of_mem _ h1)]
   · rw [if_neg h1,List.getElem?_set]
     by_cases h2 : a.toNat = k
     · rw [if_pos h2,if_pos (by rw [h2];exact hk),if_pos]
       rw [show (k : Int) = a by omega];exact List.mem_cons_self ..
     · rw [if_neg h2,if_neg]
       intro h3
       rcases List.mem_cons.1 h3 with h3|h3
       · omega
       · exact h1 h3
theorem room_wall (whole : Bool) (g : Int) : roomS (stonesL whole g 8) = wallL whole g:=by
 refine List.ext_getElem? fun k=>?_
 by_cases hk : k < 64
 · have h1 : (roomS (stonesL whole g 8))[k]? = if (k : Int) ∈ stonesL whole g 8 then some 2 else air64[k]?:=by
     unfold roomS cellsN
     rw [List.take_length]
     exact cells_fold _ _ k (fun z hz=>by have:=(stones_mem.1 hz).1;omega) hk
   have h2 : (wallL whole g)[k]? = some (if 32 ≤ (k : Int) ∧ (k : Int) < 40 ∧ (whole = true ∨ (k : Int) - 32 ≠ g) then 2 else 0):=by
     unfold wallL
     rw [List.getElem?_map,List.getElem?_range hk];rfl
   rw [h1,h2]
   by_cases hm : (k : Int) ∈ stonesL whole g 8
   · rw [if_pos hm,if_pos]
     have:=stones_mem.1 hm
     exact ⟨this.1,by omega,this.2.2⟩
   · rw [if_neg hm,if_neg]
     · unfold air64
       rw [List.getElem?_replicate,if_pos hk]
     · rintro ⟨c1,c2,c3⟩
       exact hm (stones_mem.2 ⟨c1,by omega,c3⟩)
 · rw [List.getElem?_eq_none (by have:=cellsN_len (stonesL whole g 8) (stonesL whole g 8).length;show (cellsN _ _).length ≤ k;omega),List.getElem?_eq_none (by have:=(wallL_ok whole g).len;omega)]
theorem grow_i64 (S : List Int) (z : Int) : List.take (S.length + (List.take 1 (List.drop 0 [z])).length) (List.take S.length S ++ List.take 1 (List.drop 0 [z])) = S ++ [z]:=by
 simp only [List.drop_zero,List.take_length]
 exact List.take_of_length_le (by simp)
theorem walls_api (g f t : Int) (whole : Bool) (hg : 0 ≤ g ∧ g ≤ 255) (hf : 0 ≤ f ∧ f ≤ 255) (ht : 0 ≤ t ∧ t ≤ 255) : Api Try.prog 7 [.agg [.lit (.int .u8 g),.lit (.int .u8 f),.lit (.int .u8 t)],bol whole] (bol true):=by
 have haw:=awake27_api
 have hst:=stones_succ whole (g % 8)
 have hsl:=stones_len whole (g % 8)
 have hr:=room27_api (f % 8) 1 (stonesL whole (g % 8) 8) (by omega) (by decide) (by have:=stones_len whole (g % 8) 8;omega) (fun k hk=>stones_bd hk)
 rw [room_wall] at hr
 obtain ⟨_,q2,q3,q4⟩:=room_set (wallL_ok whole (g % 8)) (x:=f % 8) (y:=1) (by omega) (by decide)
 have hp:=ppath_api (roomW (wallL whole (g % 8)) (f % 8) 1) 1 (t % 8) 6 64 (okW_rw q2.rw)
 have hs0 : stonesL whole (g % 8) 0 = []:=rfl
 cases whole with
 | true =>
   have hsh:=shut_way q2 q3 (g:=g % 8) (t:=t % 8) (by omega) q4 rfl
   rw [show pathW (roomW (wallL true (g % 8)) (f % 8) 1) 1 (t % 8) 6 64 = ([],107) from hsh] at hp
   clear hsh q2 q3 q4
   generalize roomW (wallL true (g % 8)) (f % 8) 1 = B at *
   generalize stonesL true (g % 8) = S at *
   dsimp only at hp
   refine Api.of_fin cfg_ok Try.func7 rfl (nt:=104) rfl rfl ?_
   conv=>whnf
   repeat' (first|exact trivial|((first|refine kL ?_|(refine ⟨fun hb=>?_,fun hb=>?_⟩<;>(try simp only [nrm] at hb)<;>(try (first|(exfalso;omega)|contradiction|exact kB hb)))|refine kW cfg_ok ?_|refine kC ?_|refine bdA ?_|refine bd2 ?_|refine bdR ?_|refine bdL ?_)<;>(conv=>whnf))|(refine And.intro ?_ ?_;rotate_left;(conv=>whnf);rotate_right))
   all_goals first|omega|skip
   refine Runs.loopS cfg_ok (σ:=Nat) [1,5,6,7,8,23] (fun k=>[.tt,.lit (.int .u8 g),.lit (.int .u8 f),.lit (.int .u8 t),.own .i64 77 0 (S k).length none,i64 k]) (fun k=>[(77,.row .i64 (S k))]) (fun k=>k ≤ 8) (fun k=>8 - k) 0 (by omega) ?_ ?_
   · conv=>whnf
     repeat' (first|exact trivial|((first|refine kL ?_|(refine ⟨fun hb=>?_,fun hb=>?_⟩<;>(try simp only [nrm] at hb)<;>(try (first|(exfalso;omega)|contradiction|exact kB hb)))|refine kW cfg_ok ?_|refine kC ?_|refine bdA ?_|refine bd2 ?_|refine bdR ?_|refine bdL ?_)<;>(conv=>whnf))|(refine And.intro ?_ ?_;rotate_left;(conv=>whnf);rotate_right))
     all_goals first|rfl|omega|(rw [hs0];done)|(rw [hs0];rfl)|trace_state
   · intro k hk
     have hsu:=hst k
     have hlk:=hsl k
     by_cases hlt : k < 8
     · rw [if_pos (.inl rfl)] at hsu
       conv=>whnf
       repeat' (first|exact trivial|((first|refine kL ?_|(refine ⟨fun hb=>?_,fun hb=>?_⟩<;>(try simp only [nrm] at hb)<;>(try (first|(exfalso;omega)|contradiction|exact kB hb)))|refine kW cfg_ok ?_|refine kC ?_|refine bdA ?_|refine bd2 ?_|refine bdR ?_|refine bdL ?_)<;>(conv=>whnf))|(refine And.intro ?_ ?_;rotate_left;(conv=>whnf);rotate_right))
       all_goals first|omega|skip
       refine .to (k + 1) hlt (by omega) ?_
       conv=>whnf
       repeat' (first|exact trivial|((first|refine kL ?_|(refine ⟨fun hb=>?_,fun hb=>?_⟩<;>(try simp only [nrm] at hb)<;>(try (first|(exfalso;omega)|contradiction|exact kB hb)))|refine kW cfg_ok ?_|refine kC ?_|refine bdA ?_|refine bd2 ?_|refine bdR ?_|refine bdL ?_)<;>(conv=>whnf))|(refine And.intro ?_ ?_;rotate_left;(conv=>whnf);rotate_right))
       all_goals first|rfl|omega|(rw [hsu];simp;done)|(rw [hsu];exact grow_i64 _ _)|trace_state
     · obtain rfl : k = 8:=by omega
       conv=>whnf
       repeat' (first|exact trivial|((first|refine kL ?_|(refine ⟨fun hb=>?_,fun hb=>?_⟩<;>(try simp only [nrm] at hb)<;>(try (first|(exfalso;omega)|contradiction|exact kB hb)))|((refine callGive hr rfl rfl ?_;(conv=>whnf);refine ⟨by omega,by rw [List.drop_zero,List.take_of_length_le (by omega)];rfl,?_⟩))|refine kA hp ?_|refine kD hp ?_|refine kA haw ?_|refine kD haw ?_|refine kW cfg_ok ?_|refine kC ?_|refine bdA ?_|refine bd2 ?_|refine bdR ?_|refine bdL ?_)<;>(conv=>whnf))|(refine And.intro ?_ ?_;rotate_left;(conv=>whnf);rotate_right))
       all_goals first|rfl|omega|trace_state
 | false =>
   have hwy:=wall_way q2 q3 (g:=g % 8) (t:=t % 8) (by omega) (by omega) q4 rfl
   have hpx : (roomP (f % 8) 1).x = f % 8:=rfl
   have hpi : (roomP (f % 8) 1).id = 1:=rfl
   rw [hpi,hpx] at hwy
   obtain ⟨w1,w2⟩:=hwy
   unfold absI at w2
   rw [w1] at hp
   clear q2 q3 q4 w1
   generalize (pathW (roomW (wallL false (g % 8)) (f % 8) 1) 1 (t % 8) 6 64).1 = PL at *
   generalize roomW (wallL false (g % 8)) (f % 8) 1 = B at *
   generalize stonesL false (g % 8) = S at *
   refine Api.of_fin cfg_ok Try.func7 rfl (nt:=104) rfl rfl ?_
   conv=>whnf
   repeat' (first|exact trivial|((first|refine kL ?_|(refine ⟨fun hb=>?_,fun hb=>?_⟩<;>(try simp only [nrm] at hb)<;>(try (first|(exfalso;omega)|contradiction|exact kB hb)))|refine kW cfg_ok ?_|refine kC ?_|refine bdA ?_|refine bd2 ?_|refine bdR ?_|refine bdL ?_)<;>(conv=>whnf))|(refine And.intro ?_ ?_;rotate_left;(conv=>whnf);rotate_right))
   all_goals first|omega|skip
   refine Runs.loopS cfg_ok (σ:=Nat) [1,5,6,7,8,23] (fun k=>[.ff,.lit (.int .u8 g),.lit (.int .u8 f),.lit (.int .u8 t),.own .i64 77 0 (S k).length none,i64 k]) (fun k=>[(77,.row .i64 (S k))]) (fun k=>k ≤ 8) (fun k=>8 - k) 0 (by omega) ?_ ?_
   · conv=>whnf
     repeat' (first|exact trivial|((first|refine kL ?_|(refine ⟨fun hb=>?_,fun hb=>?_⟩<;>(try simp only [nrm] at hb)<;>(try (first|(exfalso;omega)|contradiction|exact kB hb)))|refine kW cfg_ok ?_|refine kC ?_|refine bdA ?_|refine bd2 ?_|refine bdR ?_|refine bdL ?_)<;>(conv=>whnf))|(refine And.intro ?_ ?_;rotate_left;(conv=>whnf);rotate_right))
     all_goals first|rfl|omega|(rw [hs0];done)|(rw [hs0];rfl)|trace_state
   · intro k hk
     have hsu:=hst k
     have hlk:=hsl k
     by_cases hlt : k < 8
     · by_cases hkg : (k : Int) = g % 8
       · rw [if_neg (by simp [hkg]),List.append_nil] at hsu
         conv=>whnf
         repeat' (first|exact trivial|((first|refine kL ?_|(refine ⟨fun hb=>?_,fun hb=>?_⟩<;>(try simp only [nrm] at hb)<;>(try (first|(exfalso;omega)|contradiction|exact kB hb)))|refine kW cfg_ok ?_|refine kC ?_|refine bdA ?_|refine bd2 ?_|refine bdR ?_|refine bdL ?_)<;>(conv=>whnf))|(refine And.intro ?_ ?_;rotate_left;(conv=>whnf);rotate_right))
         all_goals first|omega|skip
         refine .to (k + 1) hlt (by omega) ?_
         conv=>whnf
         repeat' (first|exact trivial|((first|refine kL ?_|(refine ⟨fun hb=>?_,fun hb=>?_⟩<;>(try simp only [nrm] at hb)<;>(try (first|(exfalso;omega)|contradiction|exact kB hb)))|refine kW cfg_ok ?_|refine kC ?_|refine bdA ?_|refine bd2 ?_|refine bdR ?_|refine bdL ?_)<;>(conv=>whnf))|(refine And.intro ?_ ?_;rotate_left;(conv=>whnf);rotate_right))
         all_goals first|rfl|omega|(rw [hsu];done)|(rw [hsu];exact List.take_length)|trace_state
       · rw [if_pos (.inr hkg)] at hsu
         conv=>whnf
         repeat' (first|exact trivial|((first|refine kL ?_|(refine ⟨fun hb=>?_,fun hb=>?_⟩<;>(try simp only [nrm] at hb)<;>(try (first|(exfalso;omega)|contradiction|exact kB hb)))|refine kW cfg_ok ?_|refine kC ?_|refine bdA ?_|refine bd2 ?_|refine bdR ?_|refine bdL ?_)<;>(conv=>whnf))|(refine And.intro ?_ ?_;rotate_left;(conv=>whnf);rotate_right))
         all_goals first|omega|skip
         refine .to (k + 1) hlt (by omega) ?_
         conv=>whnf
         repeat' (first|exact trivial|((first|refine kL ?_|(refine ⟨fun hb=>?_,fun hb=>?_⟩<;>(try simp only [nrm] at hb)<;>(try (first|(exfalso;omega)|contradiction|exact kB hb)))|refine kW cfg_ok ?_|refine kC ?_|refine bdA ?_|refine bd2 ?_|refine bdR ?_|refine bdL ?_)<;>(conv=>whnf))|(refine And.intro ?_ ?_;rotate_left;(conv=>whnf);rotate_right))
         all_goals first|rfl|omega|(rw [hsu];simp;done)|(rw [hsu];exact grow_i64 _ _)|trace_state
     · obtain rfl : k = 8:=by omega
       conv=>whnf
       repeat' (first|exact trivial|((first|refine kL ?_|(refine ⟨fun hb=>?_,fun hb=>?_⟩<;>(try simp only [nrm] at hb)<;>(try (first|(exfalso;omega)|contradiction|exact kB hb)))|((refine callGive hr rfl rfl ?_;(conv=>whnf);refine ⟨by omega,by rw [List.drop_zero,List.take_of_length_le (by omega)];rfl,?_⟩))|refine kA hp ?_|refine kD hp ?_|refine kA haw ?_|refine kD haw ?_|refine kW cfg_ok ?_|refine kC ?_|refine bdA ?_|refine bd2 ?_|refine bdR ?_|refine bdL ?_)<;>(conv=>whnf))|(refine And.intro ?_ ?_;rotate_left;(conv=>whnf);rotate_right))
       all_goals first|rfl|omega|trace_state
end Go.Proofs.Ytchdgiooggdfeaa
