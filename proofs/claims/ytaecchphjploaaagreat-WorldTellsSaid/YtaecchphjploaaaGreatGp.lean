/- world.Bytes. -/
import Derived.Test.YtaecchphjploaaaGreatGj
import Derived.Test.YtaecchphjploaaaGreatGi
import Derived.Test.YtaecchphjploaaaGreatGc
import Derived.Test.YtaecchphjploaaaGreatGg
import Derived.Test.YtaecchphjploaaaGreatGo
import Derived.Test.YtaecchphjploaaaGreatGn
set_option linter.unusedSimpArgs false
set_option linter.unusedVariables false
set_option maxRecDepth 100000
set_option maxHeartbeats 16000000
namespace Go.Proofs.YtaecchphjploaaaGreat
open Go Go.RowKit Eng
theorem wput_ev (l : List (El .u8)) (len : Nat) (ns : List (El .i64)) (n : Nat) (hn : n = ns.length) (hlen : len = l.length) (hns : ∀ z ∈ ns,okN z) (hl : l.length + ns.length * 10 + 10 ≤ 140737488355328) :
   Ev1 Tryz.prog 76 [.own .i64 3 0 n (some n),.ptr 0 0] [(0,.box [.own .u8 1 0 len none]),(1,.row .u8 l),(3,.row .i64 ns)] (.tup []) [(0,.box [.own .u8 390001 0 (len + (putY ns).length) none]),(390001,.row .u8 (l ++ putY ns))]:=by
 subst hn
 subst hlen
 refine Ev1.of_fin cfg_ok Tryz.func76 rfl (nt:=14) rfl rfl rfl ?_
 conv=>whnf
 refine Runs.loopS cfg_ok (σ:=Nat) [1,5,6,7] (fun k=>[.ptr 0 0,.own .i64 3 0 ns.length none,i64 ns.length,i64 k]) (fun k=>[(0,.box [.own .u8 350001 0 (l.length + (putY (ns.take k)).length) none]),(350001,.row .u8 (l ++ putY (ns.take k))),(3,.row .i64 ns)])
   (fun k=>k ≤ ns.length) (fun k=>ns.length - k) 0 (by omega) ?_ ?_
 · conv=>whnf
   repeat' (first|exact trivial|((first|refine kL ?_|(refine ⟨fun hb=>?_,fun hb=>?_⟩<;>(try simp only [nrm] at hb)<;>(try (first|(exfalso;omega)|contradiction|exact kB hb)))|refine kW cfg_ok ?_|refine kC ?_|refine bdA ?_|refine bd2 ?_|refine bdR ?_|refine bdL ?_)<;>(conv=>whnf))|(refine And.intro ?_ ?_;rotate_left;(conv=>whnf);rotate_right))
   all_goals first|rfl|(simp [putY];done)
 · intro k hk
   by_cases hlt : k < ns.length
   · have hz:=hns _ (elt_mem (t:=.i64) hlt)
     have hz2:=hz.le
     have hpl:=putY_len (ns.take k)
     rw [List.length_take] at hpl
     conv=>whnf
     repeat' (first|exact trivial|((first|refine kL ?_|(refine ⟨fun hb=>?_,fun hb=>?_⟩<;>(try simp only [nrm] at hb)<;>(try (first|(exfalso;omega)|contradiction|exact kB hb)))|(refine isE 77 ?_;refine kE (uint_evz (l ++ putY (ns.take k)) _ (elt .i64 ns k) (by rw [List.length_append]) hz.1 hz.2 (by rw [List.length_append];omega)) [(1,350001),(390001,350003)] rfl ?_)|(refine isD 77 ?_;refine kF (uint_evz (l ++ putY (ns.take k)) _ (elt .i64 ns k) (by rw [List.length_append]) hz.1 hz.2 (by rw [List.length_append];omega)) [(1,350001),(390001,350003)] rfl ?_)|(refine .inl ⟨inU64 hz.1 hz2,?_⟩)|refine kW cfg_ok ?_|refine kC ?_|refine bdA ?_|refine bd2 ?_|refine bdR ?_|refine bdL ?_)<;>(conv=>whnf))|(refine And.intro ?_ ?_;rotate_left;(conv=>whnf);rotate_right))
     refine .to (k + 1) hlt (by omega) ?_
     have hpt:=putY_take hlt
     conv=>whnf
     repeat' (first|exact trivial|((first|refine kL ?_|(refine ⟨fun hb=>?_,fun hb=>?_⟩<;>(try simp only [nrm] at hb)<;>(try (first|(exfalso;omega)|contradiction|exact kB hb)))|refine kW cfg_ok ?_|refine kC ?_|refine bdA ?_|refine bd2 ?_|refine bdR ?_|refine bdL ?_)<;>(conv=>whnf))|(refine And.intro ?_ ?_;rotate_left;(conv=>whnf);rotate_right))
     all_goals (try rw [hpt])
     · exact List.take_length
     · rw [List.length_append,Nat.add_assoc]
     · rw [List.append_assoc];exact List.take_of_length_le (by simp only [List.length_append];omega)
   · obtain rfl : k = ns.length:=by omega
     rw [List.take_length]
     conv=>whnf
     repeat' (first|exact trivial|((first|refine kL ?_|(refine ⟨fun hb=>?_,fun hb=>?_⟩<;>(try simp only [nrm] at hb)<;>(try (first|(exfalso;omega)|contradiction|exact kB hb)))|refine kW cfg_ok ?_|refine kC ?_|refine bdA ?_|refine bd2 ?_|refine bdR ?_|refine bdL ?_)<;>(conv=>whnf))|(refine And.intro ?_ ?_;rotate_left;(conv=>whnf);rotate_right))
     all_goals first|rfl|exact List.take_length|(refine List.take_of_length_le ?_;first|exact Nat.le_refl _|(rw [List.length_append];exact Nat.le_refl _))
theorem wput_nil (ns : List (El .i64)) (n : Nat) (hn : n = ns.length) (hns : ∀ z ∈ ns,okN z) (hl : ns.length * 10 + 10 ≤ 140737488355328) :
   Ev1 Tryz.prog 76 [.own .i64 3 0 n (some n),.ptr 0 0] [(0,.box [.lit (.slice none 0 0)]),(3,.row .i64 ns)] (.tup []) [(0,.box [.own .u8 390001 0 (putY ns).length none]),(390001,.row .u8 (putY ns))]:=by
 subst hn
 refine Ev1.of_fin cfg_ok Tryz.func76 rfl (nt:=14) rfl rfl rfl ?_
 conv=>whnf
 refine Runs.loopS cfg_ok (σ:=Nat) [1,5,6,7] (fun k=>[.ptr 0 0,.own .i64 3 0 ns.length none,i64 ns.length,i64 k]) (fun k=>[(0,.box [.own .u8 350001 0 (putY (ns.take k)).length none]),(350001,.row .u8 (putY (ns.take k))),(3,.row .i64 ns)])
   (fun k=>k ≤ ns.length) (fun k=>ns.length - k) 0 (by omega) ?_ ?_
 · conv=>whnf
   repeat' (first|exact trivial|((first|refine kL ?_|(refine ⟨fun hb=>?_,fun hb=>?_⟩<;>(try simp only [nrm] at hb)<;>(try (first|(exfalso;omega)|contradiction|exact kB hb)))|refine kW cfg_ok ?_|refine kC ?_|refine bdA ?_|refine bd2 ?_|refine bdR ?_|refine bdL ?_)<;>(conv=>whnf))|(refine And.intro ?_ ?_;rotate_left;(conv=>whnf);rotate_right))
   all_goals first|rfl|(simp [putY];done)
 · intro k hk
   by_cases hlt : k < ns.length
   · have hz:=hns _ (elt_mem (t:=.i64) hlt)
     have hz2:=hz.le
     have hpl:=putY_len (ns.take k)
     rw [List.length_take] at hpl
     conv=>whnf
     repeat' (first|exact trivial|((first|refine kL ?_|(refine ⟨fun hb=>?_,fun hb=>?_⟩<;>(try simp only [nrm] at hb)<;>(try (first|(exfalso;omega)|contradiction|exact kB hb)))|(refine isE 77 ?_;refine kE (uint_evz (putY (ns.take k)) _ (elt .i64 ns k) rfl hz.1 hz.2 (by omega)) [(1,350001),(390001,350003)] rfl ?_)|(refine isD 77 ?_;refine kF (uint_evz (putY (ns.take k)) _ (elt .i64 ns k) rfl hz.1 hz.2 (by omega)) [(1,350001),(390001,350003)] rfl ?_)|(refine .inl ⟨inU64 hz.1 hz2,?_⟩)|refine kW cfg_ok ?_|refine kC ?_|refine bdA ?_|refine bd2 ?_|refine bdR ?_|refine bdL ?_)<;>(conv=>whnf))|(refine And.intro ?_ ?_;rotate_left;(conv=>whnf);rotate_right))
     refine .to (k + 1) hlt (by omega) ?_
     have hpt:=putY_take hlt
     conv=>whnf
     repeat' (first|exact trivial|((first|refine kL ?_|(refine ⟨fun hb=>?_,fun hb=>?_⟩<;>(try simp only [nrm] at hb)<;>(try (first|(exfalso;omega)|contradiction|exact kB hb)))|refine kW cfg_ok ?_|refine kC ?_|refine bdA ?_|refine bd2 ?_|refine bdR ?_|refine bdL ?_)<;>(conv=>whnf))|(refine And.intro ?_ ?_;rotate_left;(conv=>whnf);rotate_right))
     all_goals (try rw [hpt])
     · exact List.take_length
     · rw [List.length_append]
     · exact List.take_of_length_le (by simp only [List.length_append];omega)
   · obtain rfl : k = ns.length:=by omega
     rw [List.take_length]
     conv=>whnf
     repeat' (first|exact trivial|((first|refine kL ?_|(refine ⟨fun hb=>?_,fun hb=>?_⟩<;>(try simp only [nrm] at hb)<;>(try (first|(exfalso;omega)|contradiction|exact kB hb)))|refine kW cfg_ok ?_|refine kC ?_|refine bdA ?_|refine bd2 ?_|refine bdR ?_|refine bdL ?_)<;>(conv=>whnf))|(refine And.intro ?_ ?_;rotate_left;(conv=>whnf);rotate_right))
     all_goals first|rfl|exact List.take_length|(refine List.take_of_length_le ?_;first|exact Nat.le_refl _|(rw [List.length_append];exact Nat.le_refl _))
open Go Go.RowKit Eng
def blobY (c : Chunk) : List Int:=uintL (bytesC c).length ++ bytesC c
def plY (p : Player) : List Int:=putY [p.id,p.x,p.y] ++ (p.bag.flatMap slotL ++ (putY [p.wth + 1,agI p.agrees] ++ p.offer.flatMap slotL))
def bytesW (w : Wld) : List Int:=putY [w.size] ++ uintL w.seed.toNat ++ putY [w.tick,(w.chunks.length : Int)] ++ w.chunks.flatMap blobY ++ putY [(w.players.length : Int)] ++ w.players.flatMap plY
def offR (b : List Int) (w : Int) (s : Rd) : List Slot × Rd:=if 0 ≤ w - 1 then allR (slotR b) 8 s else ([],s)
def plR (b : List Int) (s : Rd) : Player × Rd:=
 let id:=numI b 1073741824 s
 let x:=numI b 1000 id.2
 let y:=numI b 1000 x.2
 let bag:=allR (slotR b) 8 y.2
 let w:=numI b 1073741825 bag.2
 let ag:=numI b 1 w.2
 let off:=offR b w.1 ag.2
 (⟨id.1,x.1,y.1,bag.1,w.1 - 1,off.1,decide (ag.1 = 1)⟩,off.2)
structure WrK (b : List Int) where
 sz : Int × Rd
 sd : Int × Rd
 tk : Int × Rd
 nc : Int × Rd
 cs : List Chunk × Rd
 np : Int × Rd
 ps : List Player × Rd
abbrev B64 : Nat:=18446744073709551615
def wrK (b : List Int) : WrK b:=
 let sz:=numI b 16 ⟨0,false⟩
 let sd:=numI b B64 sz.2
 let tk:=numI b B40 sd.2
 let nc:=numI b 256 tk.2
 let cs:=manyR (chunkBR b 5000) nc.1.toNat nc.2
 let np:=numI b 32 cs.2
 let ps:=manyR (plR b) np.1.toNat np.2
 ⟨sz,sd,tk,nc,cs,np,ps⟩
def wldK (b : List Int) : Wld:=⟨(wrK b).sz.1,(wrK b).sd.1,(wrK b).tk.1,(wrK b).cs.1,(wrK b).ps.1⟩
def zeroW : Wld:=⟨0,0,0,[],[]⟩
def readW (b : List Int) : Wld × Int:=
 if (wrK b).ps.2.bad = true ∨ ¬ (wrK b).ps.2.pos = b.length ∨ rightW (wldK b) = false then (zeroW,113) else (wldK b,0)
theorem all_write8 {b : List Int} (h8 : okU8 b) {l : List Slot} (hl : l.length = 8) (ho : bagGood l) {s : Rd} {r : List Int} (hs : s.bad = false) (hd : b.drop s.pos = l.flatMap slotL ++ r) : allR (slotR b) 8 s = (l,⟨s.pos + (l.flatMap slotL).length,false⟩):=by
 have h1:=many_write (spec_slot h8) l s r hs ho hd
 rw [hl] at h1
 have h2:=many_all (spec_slot h8) 8 s (by rw [h1])
 rw [h2,h1]
theorem all_read8 {b : List Int} (h8 : okU8 b) {s : Rd} (hp : s.pos ≤ b.length) (h : (allR (slotR b) 8 s).2.bad = false) : s.bad = false ∧ (allR (slotR b) 8 s).1.length = 8 ∧ b.drop s.pos = (allR (slotR b) 8 s).1.flatMap slotL ++ b.drop (allR (slotR b) 8 s).2.pos ∧ (allR (slotR b) 8 s).2.pos = s.pos + ((allR (slotR b) 8 s).1.flatMap slotL).length ∧ (allR (slotR b) 8 s).2.pos ≤ b.length ∧ bagGood (allR (slotR b) 8 s).1:=by
 have e:=all_many (spec_slot h8) 8 s h
 rw [e] at h ⊢
 exact many_read (spec_slot h8) 8 s hp h
structure GoodP (p : Player) : Prop where
 id : 0 ≤ p.id ∧ p.id ≤ 1073741824
 x : 0 ≤ p.x ∧ p.x ≤ 1000
 y : 0 ≤ p.y ∧ p.y ≤ 1000
 bag : p.bag.length = 8
 bagS : bagGood p.bag
 w : -1 ≤ p.wth ∧ p.wth ≤ 1073741824
 off : (p.wth = -1 ∧ p.offer = []) ∨ (0 ≤ p.wth ∧ p.offer.length = 8)
 offS : bagGood p.offer
theorem agI_bd (g : Bool) : 0 ≤ agI g ∧ agI g ≤ (1 : Nat):=by unfold agI;split<;>omega
theorem agI_dec {z : Int} (h : 0 ≤ z ∧ z ≤ (1 : Nat)) : agI (decide (z = 1)) = z:=by
 unfold agI
 by_cases h1 : z = 1
 · rw [if_pos (decide_eq_true h1)];exact h1.symm
 · rw [if_neg (by rw [decide_eq_true_eq];exact h1)];omega
theorem dec_agI (g : Bool) : decide (agI g = 1) = g:=by cases g<;>rfl
theorem off_stays {b : List Int} (h8 : okU8 b) {w : Int} {s : Rd} (h : s.bad = true) : (offR b w s).2.bad = true:=by
 unfold offR
 split
 · exact all_stays (spec_slot h8) 8 s h
 · exact h
theorem spec_player {b : List Int} (h8 : okU8 b) : Spec b (plR b) plY GoodP:=by
 have st : ∀ {most : Nat} {s : Rd},s.bad = true → (numI b most s).2.bad = true:=fun h=>numI_stays h
 refine ⟨fun s h=>off_stays h8 (st (st (all_stays (spec_slot h8) 8 _ (st (st (st h)))))),fun s p r hs hp hd=>?_,fun s hp h=>?_⟩
 · have q0 : b.drop s.pos = uintL p.id.toNat ++ (uintL p.x.toNat ++ (uintL p.y.toNat ++ (p.bag.flatMap slotL ++ (uintL (p.wth + 1).toNat ++ (uintL (agI p.agrees).toNat ++ (p.offer.flatMap slotL ++ r)))))):=by
     rw [hd]
     unfold plY
     simp only [put_cons,show putY [] = [] from rfl,List.append_nil,List.append_assoc]
   have hlen : s.pos + (plY p).length = s.pos + (uintL p.id.toNat).length + (uintL p.x.toNat).length + (uintL p.y.toNat).length + (p.bag.flatMap slotL).length + (uintL (p.wth + 1).toNat).length + (uintL (agI p.agrees).toNat).length + (p.offer.flatMap slotL).length:=by
     unfold plY
     simp only [put_cons,show putY [] = [] from rfl,List.append_nil,List.length_append]
     omega
   have w0:=hp.w
   have a1:=numI_write (most:=1073741824) hs q0 hp.id (by decide)
   have q1:=drop_app q0
   have a2:=numI_write (b:=b) (s:=⟨s.pos + (uintL p.id.toNat).length,false⟩) (most:=1000) rfl q1 hp.x (by decide)
   have q2:=drop_app q1
   have a3:=numI_write (b:=b) (s:=⟨s.pos + (uintL p.id.toNat).length + (uintL p.x.toNat).length,false⟩) (most:=1000) rfl q2 hp.y (by decide)
   have q3:=drop_app q2
   have a4:=all_write8 h8 (s:=⟨s.pos + (uintL p.id.toNat).length + (uintL p.x.toNat).length + (uintL p.y.toNat).length,false⟩) hp.bag hp.bagS rfl q3
   have q4:=drop_app q3
   have a5:=numI_write (b:=b) (s:=⟨s.pos + (uintL p.id.toNat).length + (uintL p.x.toNat).length + (uintL p.y.toNat).length + (p.bag.flatMap slotL).length,false⟩) (z:=p.wth + 1) (most:=1073741825) rfl q4 ⟨by omega,by show p.wth + 1 ≤ 1073741825;omega⟩ (by decide)
   have q5:=drop_app q4
   have a6:=numI_write (b:=b) (s:=⟨s.pos + (uintL p.id.toNat).length + (uintL p.x.toNat).length + (uintL p.y.toNat).length + (p.bag.flatMap slotL).length + (uintL (p.wth + 1).toNat).length,false⟩) (most:=1) rfl q5 (agI_bd _) (by decide)
   have q6:=drop_app q5
   have a7 : offR b (p.wth + 1) ⟨s.pos + (uintL p.id.toNat).length + (uintL p.x.toNat).length + (uintL p.y.toNat).length + (p.bag.flatMap slotL).length + (uintL (p.wth + 1).toNat).length + (uintL (agI p.agrees).toNat).length,false⟩ = (p.offer,⟨s.pos + (plY p).length,false⟩):=by
     unfold offR
     rw [hlen]
     rcases hp.off with ⟨o1,o2⟩|⟨o1,o2⟩
     · rw [if_neg (by omega),o2];rfl
     · rw [if_pos (by omega)]
       exact all_write8 h8 o2 hp.offS rfl q6
   unfold plR
   dsimp only
   rw [a1];dsimp only
   rw [a2];dsimp only
   rw [a3];dsimp only
   rw [a4];dsimp only
   rw [a5];dsimp only
   rw [a6];dsimp only
   rw [a7]
   dsimp only
   rw [dec_agI,show p.wth + 1 - 1 = p.wth by omega]
 · have hA : ∀ (f : Rd → Rd),(∀ s,s.bad = true → (f s).bad = true) → ∀ s,(f s).bad = false → s.bad = false:=fun f hf s h=>by
     cases hx : s.bad with
     | false=>rfl
     | true=>rw [hf s hx] at h;cases h
   have h7 : (numI b 1 (numI b 1073741825 (allR (slotR b) 8 (numI b 1000 (numI b 1000 (numI b 1073741824 s).2).2).2).2).2).2.bad = false:=hA (fun t=>(offR b (numI b 1073741825 (allR (slotR b) 8 (numI b 1000 (numI b 1000 (numI b 1073741824 s).2).2).2).2).1 t).2) (fun t ht=>off_stays h8 ht) _ h
   have n1:=spec_num h8 (most:=1) (by decide)
   have n2:=spec_num h8 (most:=1000) (by decide)
   have n3:=spec_num h8 (most:=1073741824) (by decide)
   have n4:=spec_num h8 (most:=1073741825) (by decide)
   have h6:=hA (fun t=>(numI b 1 t).2) (fun t ht=>n1.stays t ht) _ h7
   have h5:=hA (fun t=>(numI b 1073741825 t).2) (fun t ht=>n4.stays t ht) _ h6
   have h4:=hA (fun t=>(allR (slotR b) 8 t).2) (fun t ht=>all_stays (spec_slot h8) 8 t ht) _ h5
   have h3:=hA (fun t=>(numI b 1000 t).2) (fun t ht=>n2.stays t ht) _ h4
   have h2:=hA (fun t=>(numI b 1000 t).2) (fun t ht=>n2.stays t ht) _ h3
   obtain ⟨b0,c1,c2,c3,c4⟩:=n3.read s hp h2
   obtain ⟨_,d1,d2,d3,d4⟩:=n2.read _ c3 h3
   obtain ⟨_,e1,e2,e3,e4⟩:=n2.read _ d3 h4
   obtain ⟨_,f0,f1,f2,f3,f4⟩:=all_read8 h8 e3 h5
   obtain ⟨_,g1,g2,g3,g4⟩:=n4.read _ f3 h6
   obtain ⟨_,k1,k2,k3,k4⟩:=n1.read _ g3 h7
   have hoff : (plR b s).1.wth = (numI b 1073741825 (allR (slotR b) 8 (numI b 1000 (numI b 1000 (numI b 1073741824 s).2).2).2).2).1 - 1:=rfl
   have ho : b.drop (numI b 1 (numI b 1073741825 (allR (slotR b) 8 (numI b 1000 (numI b 1000 (numI b 1073741824 s).2).2).2).2).2).2.pos = (plR b s).1.offer.flatMap slotL ++ b.drop (plR b s).2.pos ∧ (plR b s).2.pos = (numI b 1 (numI b 1073741825 (allR (slotR b) 8 (numI b 1000 (numI b 1000 (numI b 1073741824 s).2).2).2).2).2).2.pos + ((plR b s).1.offer.flatMap slotL).length ∧ (plR b s).2.pos ≤ b.length ∧ (((plR b s).1.wth = -1 ∧ (plR b s).1.offer = []) ∨ (0 ≤ (plR b s).1.wth ∧ (plR b s).1.offer.length = 8)) ∧ bagGood (plR b s).1.offer:=by
     have eo : ((plR b s).1.offer,(plR b s).2) = offR b (numI b 1073741825 (allR (slotR b) 8 (numI b 1000 (numI b 1000 (numI b 1073741824 s).2).2).2).2).1 (numI b 1 (numI b 1073741825 (allR (slotR b) 8 (numI b 1000 (numI b 1000 (numI b 1073741824 s).2).2).2).2).2).2:=rfl
     rw [hoff]
     generalize (plR b s).1.offer = O at *
     generalize (plR b s).2 = S2 at *
     unfold offR at eo
     by_cases hw : 0 ≤ (numI b 1073741825 (allR (slotR b) 8 (numI b 1000 (numI b 1000 (numI b 1073741824 s).2).2).2).2).1 - 1
     · rw [if_pos hw] at eo
       have eo1:=congrArg Prod.fst eo
       have eo2:=congrArg Prod.snd eo
       dsimp only at eo1 eo2
       have hb2 : (allR (slotR b) 8 (numI b 1 (numI b 1073741825 (allR (slotR b) 8 (numI b 1000 (numI b 1000 (numI b 1073741824 s).2).2).2).2).2).2).2.bad = false:=by rw [← eo2];exact h
       obtain ⟨_,z0,z1,z2,z3,z4⟩:=all_read8 h8 k3 hb2
       rw [eo1,eo2]
       exact ⟨z1,z2,z3,.inr ⟨hw,z0⟩,z4⟩
     · rw [if_neg hw] at eo
       have eo1:=congrArg Prod.fst eo
       have eo2:=congrArg Prod.snd eo
       dsimp only at eo1 eo2
       rw [eo1,eo2]
       exact ⟨rfl,rfl,k3,.inl ⟨by omega,rfl⟩,fun x hx=>by cases hx⟩
   obtain ⟨o1,o2,o3,o4,o5⟩:=ho
   have hag : agI (plR b s).1.agrees = (numI b 1 (numI b 1073741825 (allR (slotR b) 8 (numI b 1000 (numI b 1000 (numI b 1073741824 s).2).2).2).2).2).1:=agI_dec k4
   have hw1 : (plR b s).1.wth + 1 = (numI b 1073741825 (allR (slotR b) 8 (numI b 1000 (numI b 1000 (numI b 1073741824 s).2).2).2).2).1:=by rw [hoff];omega
   have eY : plY (plR b s).1 = uintL (numI b 1073741824 s).1.toNat ++ (uintL (numI b 1000 (numI b 1073741824 s).2).1.toNat ++ (uintL (numI b 1000 (numI b 1000 (numI b 1073741824 s).2).2).1.toNat ++ ((allR (slotR b) 8 (numI b 1000 (numI b 1000 (numI b 1073741824 s).2).2).2).1.flatMap slotL ++ (uintL (numI b 1073741825 (allR (slotR b) 8 (numI b 1000 (numI b 1000 (numI b 1073741824 s).2).2).2).2).1.toNat ++ (uintL (numI b 1 (numI b 1073741825 (allR (slotR b) 8 (numI b 1000 (numI b 1000 (numI b 1073741824 s).2).2).2).2).2).1.toNat ++ (plR b s).1.offer.flatMap slotL))))):=by
     unfold plY
     rw [hw1,hag]
     simp only [put_cons,show putY [] = [] from rfl,List.append_nil,List.append_assoc]
     rfl
   rw [eY]
   refine ⟨b0,?_,?_,o3,⟨c4,d4,e4,f0,f4,?_,o4,o5⟩⟩
   · rw [c1,d1,e1,f1,g1,k1,o1]
     simp only [List.append_assoc]
   · simp only [List.length_append]
     omega
   · rw [hoff]
     have:=g4.1
     have:=g4.2
     exact ⟨by omega,by omega⟩
open Go Go.RowKit Eng
theorem bag_good {l : List Slot} (h : bagOk l = true) : bagGood l:=fun s hs=>by
 have h2:=okN_slot (any_false (by simpa only [bagOk,Bool.not_eq_true'] using h) hs)
 exact ⟨bagOk_okSlot h s hs,by omega,by omega⟩
theorem goodP_right {p : Player} {z : Int} (hz : 1 ≤ z ∧ z ≤ 16) (h : soundB p = true) (hw : withinW z p.x p.y = true) : GoodP p:=by
 obtain ⟨p1,p2,p3,p4,p5⟩:=sound_parts h
 have hxy : 0 ≤ p.x ∧ p.x ≤ 127 ∧ 0 ≤ p.y ∧ p.y ≤ 127:=by
   unfold withinW at hw
   rw [wr8_eq (by omega) (by omega)] at hw
   simp only [Bool.and_eq_true,decide_eq_true_eq] at hw
   omega
 refine ⟨⟨p1,p2⟩,by omega,by omega,by omega,bag_good p4,?_,?_,?_⟩
 · rcases p5 with ⟨q,_⟩|⟨q1,q2,_⟩<;>omega
 · rcases p5 with ⟨q1,q2,q3⟩|⟨q1,q2,q3,q4,q5⟩
   · exact .inl ⟨q1,q2⟩
   · exact .inr ⟨q1,by omega⟩
 · rcases p5 with ⟨q1,q2,q3⟩|⟨q1,q2,q3,q4,q5⟩
   · rw [q2];intro s hs;cases hs
   · exact bag_good q5
theorem u8_blobY {c : Chunk} (h : GoodC c) : okU8 (blobY c):=u8_app (u8_uintF 9 _ (Nat.lt_of_le_of_lt h.le.1 (by decide))) (u8_bytesC h.right h.cells h.items h.bags)
theorem u8_slots {l : List Slot} (h : bagGood l) : okU8 (l.flatMap slotL):=u8_flat fun s hs=>u8_putB (by have:=h s hs;simp;omega)
theorem u8_plY {p : Player} (h : GoodP p) : okU8 (plY p):=by
 have h1:=h.id;have h2:=h.x;have h3:=h.y;have h4:=h.w
 have h5:=agI_bd p.agrees
 unfold plY
 exact u8_app (u8_putB (by simp;omega)) (u8_app (u8_slots h.bagS) (u8_app (u8_putB (by simp;omega)) (u8_slots h.offS)))
structure GoodW (w : Wld) : Prop where
 right : RW w
 seed : 0 ≤ w.seed ∧ w.seed ≤ 18446744073709551615
theorem GoodW.sz {w : Wld} (h : GoodW w) : (1 ≤ w.size ∧ w.size ≤ 16) ∧ (0 ≤ w.tick ∧ w.tick ≤ 1099511627776) ∧ w.players.length ≤ 32:=by
 have hh:=h.right.head
 unfold headW at hh
 simp only [Bool.and_eq_true,decide_eq_true_eq] at hh
 omega
theorem GoodW.pl {w : Wld} (h : GoodW w) {p : Player} (hp : p ∈ w.players) : GoodP p:=goodP_right h.sz.1 (h.right.players p hp).1 (h.right.players p hp).2
theorem GoodW.ch {w : Wld} (h : GoodW w) {c : Chunk} (hc : c ∈ w.chunks) : GoodC c:=goodC_right (h.right.chunks c hc).1
theorem u8_bytesW {w : Wld} (h : GoodW w) : okU8 (bytesW w):=by
 obtain ⟨h1,h2,h3⟩:=h.sz
 have h4:=h.seed
 have h5:=h.right.few
 unfold bytesW
 refine u8_app (u8_app (u8_app (u8_app (u8_app (u8_putB (by simp;omega)) (u8_uintF 9 _ (by show w.seed.toNat < 18446744073709551616;omega))) (u8_putB (by simp;omega))) (u8_flat fun c hc=>u8_blobY (h.ch hc))) (u8_putB (by simp;omega))) (u8_flat fun p hp=>u8_plY (h.pl hp))
theorem bytes_readW {b : List Int} (h8 : okU8 b) (h : (readW b).2 = 0) : bytesW (readW b).1 = b ∧ rightW (readW b).1 = true ∧ (0 ≤ (readW b).1.seed ∧ (readW b).1.seed ≤ 18446744073709551615):=by
 unfold readW at h ⊢
 by_cases c : (wrK b).ps.2.bad = true ∨ ¬ (wrK b).ps.2.pos = b.length ∨ rightW (wldK b) = false
 · rw [if_pos c] at h;cases h
 · rw [if_neg c]
   dsimp only
   rw [not_or,not_or] at c
   obtain ⟨c1,c2,c3⟩:=c
   have c3 : rightW (wldK b) = true:=by simpa using c3
   have c2 : (wrK b).ps.2.pos = b.length:=Decidable.not_not.1 c2
   have hps : (wrK b).ps.2.bad = false:=by simpa using c1
   have hA : ∀ (f : Rd → Rd),(∀ s,s.bad = true → (f s).bad = true) → ∀ s,(f s).bad = false → s.bad = false:=fun f hf s h=>by
     cases hx : s.bad with
     | false=>rfl
     | true=>rw [hf s hx] at h;cases h
   have ms : ∀ {α : Type} {f : Rd → α × Rd} (n : Nat) (s : Rd),s.bad = true → (manyR f n s).2.bad = true:=fun n s hs=>by rw [many_stays n s hs];exact hs
   have hnp : (wrK b).np.2.bad = false:=hA (fun t=>(manyR (plR b) (wrK b).np.1.toNat t).2) (fun t ht=>ms _ t ht) _ hps
   have hcs : (wrK b).cs.2.bad = false:=hA (fun t=>(numI b 32 t).2) (fun t ht=>numI_stays ht) _ hnp
   have hnc : (wrK b).nc.2.bad = false:=hA (fun t=>(manyR (chunkBR b 5000) (wrK b).nc.1.toNat t).2) (fun t ht=>ms _ t ht) _ hcs
   have htk : (wrK b).tk.2.bad = false:=hA (fun t=>(numI b 256 t).2) (fun t ht=>numI_stays ht) _ hnc
   have hsd : (wrK b).sd.2.bad = false:=hA (fun t=>(numI b B40 t).2) (fun t ht=>numI_stays ht) _ htk
   have hsz : (wrK b).sz.2.bad = false:=hA (fun t=>(numI b B64 t).2) (fun t ht=>numI_stays ht) _ hsd
   obtain ⟨_,x1,x2,x3,x4⟩:=(spec_num h8 (most:=16) (by decide)).read ⟨0,false⟩ (Nat.zero_le _) hsz
   obtain ⟨_,y1,y2,y3,y4⟩:=(spec_num h8 (most:=B64) (by decide)).read (wrK b).sz.2 x3 hsd
   obtain ⟨_,z1,z2,z3,z4⟩:=(spec_num h8 (most:=B40) (by decide)).read (wrK b).sd.2 y3 htk
   obtain ⟨_,n1,n2,n3,n4⟩:=(spec_num h8 (most:=256) (by decide)).read (wrK b).tk.2 z3 hnc
   obtain ⟨_,m0,m1,m2,m3,m4⟩:=many_read (spec_chunkB h8 (most:=5000) (by decide)) (wrK b).nc.1.toNat (wrK b).nc.2 n3 hcs
   obtain ⟨_,p1,p2,p3,p4⟩:=(spec_num h8 (most:=32) (by decide)).read (wrK b).cs.2 m3 hnp
   obtain ⟨_,r0,r1,r2,r3,r4⟩:=many_read (spec_player h8) (wrK b).np.1.toNat (wrK b).np.2 p3 hps
   have hn : ((wrK b).cs.1.length : Int) = (wrK b).nc.1:=by
     have h9 : (wrK b).cs.1.length = (wrK b).nc.1.toNat:=m0
     have h7 : 0 ≤ (wrK b).nc.1:=n4.1
     omega
   have hm : ((wrK b).ps.1.length : Int) = (wrK b).np.1:=by
     have h9 : (wrK b).ps.1.length = (wrK b).np.1.toNat:=r0
     have h7 : 0 ≤ (wrK b).np.1:=p4.1
     omega
   refine ⟨?_,c3,y4⟩
   have z1' : b = uintL (wrK b).sz.1.toNat ++ b.drop (wrK b).sz.2.pos:=(List.drop_zero (l:=b)).symm.trans x1
   have z2' : b.drop (wrK b).sz.2.pos = uintL (wrK b).sd.1.toNat ++ b.drop (wrK b).sd.2.pos:=y1
   have z3' : b.drop (wrK b).sd.2.pos = uintL (wrK b).tk.1.toNat ++ b.drop (wrK b).tk.2.pos:=z1
   have z4' : b.drop (wrK b).tk.2.pos = uintL (wrK b).nc.1.toNat ++ b.drop (wrK b).nc.2.pos:=n1
   have z5' : b.drop (wrK b).nc.2.pos = (wrK b).cs.1.flatMap blobY ++ b.drop (wrK b).cs.2.pos:=m1
   have z6' : b.drop (wrK b).cs.2.pos = uintL (wrK b).np.1.toNat ++ b.drop (wrK b).np.2.pos:=p1
   have z7' : b.drop (wrK b).np.2.pos = (wrK b).ps.1.flatMap plY ++ b.drop (wrK b).ps.2.pos:=r1
   have z8' : b.drop (wrK b).ps.2.pos = []:=by rw [c2];exact List.drop_length
   rw [z8'] at z7'
   rw [z7'] at z6'
   rw [z6'] at z5'
   rw [z5'] at z4'
   rw [z4'] at z3'
   rw [z3'] at z2'
   have e0:=z1'.trans (congrArg _ z2')
   unfold bytesW wldK
   dsimp only
   rw [hn,hm]
   refine Eq.trans ?_ e0.symm
   simp only [put_cons,show putY [] = [] from rfl,List.append_nil,List.append_assoc]
open Go Go.RowKit Eng
theorem okN_three' {a b c : Int} (h1 : okN a) (h2 : okN b) (h3 : okN c) : ∀ z ∈ [a,b,c],okN z:=fun z hz=>by
 simp only [List.mem_cons,List.not_mem_nil,or_false] at hz
 rcases hz with rfl|rfl|rfl<;>assumption
theorem wslots_ev (l : List (El .u8)) (len : Nat) (bag : List (El .slot)) (hlen : len = l.length) (hok : ∀ s ∈ bag,(0 ≤ s.item ∧ s.item ≤ 255) ∧ okN s.n) (hl : l.length + bag.length * 20 + 100 ≤ 140737488355328) : Ev1 Tryz.prog 78 [.vec .slot bag,.ptr 4 0] [(0,.box [.own .u8 1 0 len none]),(1,.row .u8 l),(4,.box [.clo (.func 76) [] [.ptr 0 0]])] (.tup []) [(0,.box [.own .u8 390001 0 (len + (bag.flatMap slotL).length) none]),(390001,.row .u8 (l ++ bag.flatMap slotL)),(4,.box [.clo (.func 76) [] [.ptr 0 0]])]:=by
 subst hlen
 refine Ev1.of_fin cfg_ok Tryz.func78 rfl (nt:=18) rfl rfl rfl ?_
 conv=>whnf
 refine Runs.loopS cfg_ok (σ:=Nat) [1,5,6,7] (fun k=>[.ptr 4 0,.vec .slot bag,i64 bag.length,i64 k]) (fun k=>[(0,.box [.own .u8 350001 0 (l.length + ((bag.take k).flatMap slotL).length) none]),(350001,.row .u8 (l ++ (bag.take k).flatMap slotL)),(4,.box [.clo (.func 76) [] [.ptr 0 0]])])
   (fun k=>k ≤ bag.length) (fun k=>bag.length - k) 0 (by omega) ?_ ?_
 · conv=>whnf
   repeat' (first|exact trivial|((first|refine kL ?_|(refine ⟨fun hb=>?_,fun hb=>?_⟩<;>(try simp only [nrm] at hb)<;>(try (first|(exfalso;omega)|contradiction|exact kB hb)))|refine kW cfg_ok ?_|refine kC ?_|refine bdA ?_|refine bd2 ?_|refine bdR ?_|refine bdL ?_)<;>(conv=>whnf))|(refine And.intro ?_ ?_;rotate_left;(conv=>whnf);rotate_right))
   all_goals first|rfl|(rw [List.take_length];simp;done)
 · intro k hk
   have hfl:=flatMap_len slotL 20 (bag.take k) (fun s _=>slotL_len s)
   rw [List.length_take] at hfl
   by_cases hlt : k < bag.length
   · obtain ⟨⟨ha1,ha2⟩,hb1,hb2⟩:=hok _ (elt_mem (t:=.slot) hlt)
     have hi1 : -9223372036854775808 ≤ (elt .slot bag k).item:=by omega
     have hi2 : (elt .slot bag k).item ≤ 9223372036854775807:=by omega
     have hok : ∀ z ∈ [(elt .slot bag k).item,(elt .slot bag k).n],okN z:=by
       intro z hz
       simp only [List.mem_cons,List.not_mem_nil,or_false] at hz
       rcases hz with rfl|rfl<;>(unfold okN;omega)
     have hput:=wput_ev (l ++ (bag.take k).flatMap slotL) _ [(elt .slot bag k).item,(elt .slot bag k).n] _ rfl (by rw [List.length_append]) hok (by simp only [List.length_append,List.length_cons,List.length_nil];omega)
     conv=>whnf
     repeat' (first|exact trivial|((first|refine kL ?_|(refine ⟨fun hb=>?_,fun hb=>?_⟩<;>(try simp only [nrm] at hb)<;>(try (first|(exfalso;omega)|contradiction|exact kB hb)))|refine kE hput [(0,0),(1,350001),(3,200035),(390001,350003)] rfl ?_|refine kF hput [(0,0),(1,350001),(3,200035),(390001,350003)] rfl ?_|(refine .inl ⟨in64 hi1 hi2,?_⟩)|refine kW cfg_ok ?_|refine kC ?_|refine bdA ?_|refine bd2 ?_|refine bdR ?_|refine bdL ?_)<;>(conv=>whnf))|(refine And.intro ?_ ?_;rotate_left;(conv=>whnf);rotate_right))
     refine .to (k + 1) hlt (by omega) ?_
     conv=>whnf
     repeat' (first|exact trivial|((first|refine kL ?_|(refine ⟨fun hb=>?_,fun hb=>?_⟩<;>(try simp only [nrm] at hb)<;>(try (first|(exfalso;omega)|contradiction|exact kB hb)))|refine kW cfg_ok ?_|refine kC ?_|refine bdA ?_|refine bd2 ?_|refine bdR ?_|refine bdL ?_)<;>(conv=>whnf))|(refine And.intro ?_ ?_;rotate_left;(conv=>whnf);rotate_right))
     · exact grow_len (t:=.slot) (f:=slotL) l hlt rfl
     · exact grow_row (t:=.slot) (f:=slotL) l hlt rfl
   · obtain rfl : k = bag.length:=by omega
     rw [List.take_length]
     conv=>whnf
     repeat' (first|exact trivial|((first|refine kL ?_|(refine ⟨fun hb=>?_,fun hb=>?_⟩<;>(try simp only [nrm] at hb)<;>(try (first|(exfalso;omega)|contradiction|exact kB hb)))|refine kW cfg_ok ?_|refine kC ?_|refine bdA ?_|refine bd2 ?_|refine bdR ?_|refine bdL ?_)<;>(conv=>whnf))|(refine And.intro ?_ ?_;rotate_left;(conv=>whnf);rotate_right))
     all_goals first|rfl|exact List.take_length|(refine List.take_of_length_le ?_;first|exact Nat.le_refl _|(rw [List.length_append];exact Nat.le_refl _))
theorem blobY_le {c : Chunk} (h : GoodC c) : (blobY c).length ≤ 5010:=by
 have h1:=h.le.1
 have : (uintL (bytesC c).length).length ≤ 10:=uintF_len 9 _
 unfold blobY
 rw [List.length_append];omega
theorem plY_le {p : Player} (h : GoodP p) : (plY p).length ≤ 400:=by
 have a1:=putY_len [p.id,p.x,p.y]
 have a2:=putY_len [p.wth + 1,agI p.agrees]
 have b1:=flatMap_len slotL 20 p.bag (fun s _=>slotL_len s)
 have b2:=flatMap_len slotL 20 p.offer (fun s _=>slotL_len s)
 have h1:=h.bag
 have h2 : p.offer.length ≤ 8:=by
   rcases h.off with ⟨_,h⟩|⟨_,h⟩
   · rw [h];simp
   · omega
 simp only [List.length_cons,List.length_nil] at a1 a2
 unfold plY
 simp only [List.length_append]
 omega
def bytesWE (w : Wld) : List (El .u8) × Int:=(if rightW w then bytesW w else [],if rightW w then 0 else 113)
theorem wbytes_api (w : Wld) (hw : OkW w) (hs : 0 ≤ w.seed ∧ w.seed ≤ 18446744073709551615) : Api Tryz.prog 30 [wldV w] (.tup [.vec .u8 (bytesWE w).1,i64 (bytesWE w).2]):=by
 have hrt:=rightW_api w hw
 unfold bytesWE
 cases hR : rightW w with
 | false =>
   rw [hR] at hrt
   rw [if_neg (by simp),if_neg (by simp)]
   refine Api.of_fin cfg_ok Tryz.func30 rfl (nt:=92) rfl rfl ?_
   conv=>whnf
   repeat' (first|exact trivial|((first|refine kL ?_|(refine ⟨fun hb=>?_,fun hb=>?_⟩<;>(try simp only [nrm] at hb)<;>(try (first|(exfalso;omega)|contradiction|exact kB hb)))|refine kA hrt ?_|refine kD hrt ?_|refine kW cfg_ok ?_|refine kC ?_|refine bdA ?_|refine bd2 ?_|refine bdR ?_|refine bdL ?_)<;>(conv=>whnf))|(refine And.intro ?_ ?_;rotate_left;(conv=>whnf);rotate_right))
 | true =>
 rw [hR] at hrt
 rw [if_pos rfl,if_pos rfl]
 have hG : GoodW w:=⟨rightW_iff.1 hR,hs⟩
 obtain ⟨z1,z2,z3⟩:=hG.sz
 have z4:=hG.right.few
 have h1 : (putY [w.size]).length ≤ 10:=putY_len _
 have h2 : (putY [w.tick,(w.chunks.length : Int)]).length ≤ 20:=putY_len _
 have h3 : (putY [(w.players.length : Int)]).length ≤ 10:=putY_len _
 have h4 : (uintL w.seed.toNat).length ≤ 10:=uintF_len 9 _
 have p1:=wput_nil [w.size] 1 rfl (okN_one (by unfold okN;omega)) (by simp)
 have p2:=uint_ev (putY [w.size]) w.seed.toNat (by omega) (by omega)
 rw [Int.toNat_of_nonneg hs.1] at p2
 have p3:=wput_ev (putY [w.size] ++ uintL w.seed.toNat) _ [w.tick,(w.chunks.length : Int)] 2 rfl (by rw [List.length_append]) (okN_two (by unfold okN;omega) (by unfold okN;omega)) (by rw [List.length_append];simp only [List.length_cons,List.length_nil];omega)
 unfold bytesW
 generalize putY [w.size] = A at *
 generalize uintL w.seed.toNat = B at *
 generalize putY [w.tick,(w.chunks.length : Int)] = C at *
 have hQe : A.length + B.length + C.length = (A ++ B ++ C).length:=by simp only [List.length_append]
 have hQl : (A ++ B ++ C).length ≤ 1000:=by simp only [List.length_append];omega
 rw [hQe] at p3
 generalize hQ : A ++ B ++ C = Q at *
 clear hQ hQe
 have hcl : (w.chunks.flatMap blobY).length ≤ w.chunks.length * 5010:=flatMap_len blobY 5010 w.chunks (fun c hc=>blobY_le (hG.ch hc))
 have p4:=wput_ev (Q ++ w.chunks.flatMap blobY) _ [(w.players.length : Int)] 1 rfl (by rw [List.length_append]) (okN_one (by unfold okN;omega)) (by simp only [List.length_cons,List.length_nil,List.length_append];omega)
 have hRl : (Q ++ w.chunks.flatMap blobY ++ putY [(w.players.length : Int)]).length ≤ 3000000:=by simp only [List.length_append];omega
 have hRe : Q.length + (w.chunks.flatMap blobY).length + (putY [(w.players.length : Int)]).length = (Q ++ w.chunks.flatMap blobY ++ putY [(w.players.length : Int)]).length:=by simp only [List.length_append]
 rw [hRe] at p4
 generalize hRR : Q ++ w.chunks.flatMap blobY ++ putY [(w.players.length : Int)] = R at *
 clear hRR hRe h3
 refine Api.of_fin cfg_ok Tryz.func30 rfl (nt:=92) rfl rfl ?_
 ((repeat (first|(with_reducible refine evCut fun N hN hE hT=>?_)|(with_reducible refine evBlk fun N hN hE hT=>?_)));(try with_reducible refine evCnd fun X Y hX hY=>?_);(conv=>whnf))
 repeat' (first|exact trivial|((first|((first|refine hT _ _ ?_|refine hE _ _ _ ?_|refine hN _ _ ?_);clear hN hE hT)|((first|refine hX ?_|refine hY ?_);clear hX hY)|refine kL ?_|(refine ⟨fun hb=>?_,fun hb=>?_⟩<;>(try simp only [nrm] at hb)<;>(try (first|(exfalso;omega)|contradiction|exact kB hb)))|refine kE p1 [(0,8),(3,45),(390001,150001)] rfl ?_ (hrd:=⟨rfl,rfl,trivial⟩)|refine kF p1 [(0,8),(3,45),(390001,150001)] rfl ?_ (hrd:=⟨rfl,rfl,trivial⟩)|refine kE p2 [(1,150001),(390001,150003)] rfl ?_ (hrd:=⟨rfl,trivial⟩)|refine kF p2 [(1,150001),(390001,150003)] rfl ?_ (hrd:=⟨rfl,trivial⟩)|refine kE p3 [(0,8),(1,150003),(3,69),(390001,150005)] rfl ?_ (hrd:=⟨rfl,rfl,rfl,trivial⟩)|refine kF p3 [(0,8),(1,150003),(3,69),(390001,150005)] rfl ?_ (hrd:=⟨rfl,rfl,rfl,trivial⟩)|refine kA hrt ?_|refine kD hrt ?_|refine kW cfg_ok ?_|refine kC ?_|refine bdA ?_|refine bd2 ?_|refine bdR ?_|refine bdL ?_)<;>((repeat (first|(with_reducible refine evCut fun N hN hE hT=>?_)|(with_reducible refine evBlk fun N hN hE hT=>?_)));(try with_reducible refine evCnd fun X Y hX hY=>?_);(conv=>whnf)))|(refine And.intro ?_ ?_;rotate_left;(conv=>whnf);rotate_right))
 clear hrt p1 p2 p3
 refine Runs.loopS cfg_ok (σ:=Nat) [1,4,5,6,37,38,39] (fun k=>[.ptr 2 0,.ptr 8 0,.ptr 10 0,.clo (.func 78) [] [.ptr 10 0],.vec .chunk w.chunks,i64 w.chunks.length,i64 k])
   (fun k=>[(2,.box (wldC w)),(8,.box [.own .u8 150007 0 (Q.length + ((w.chunks.take k).flatMap blobY).length) none]),(10,.box [.clo (.func 76) [] [.ptr 8 0]]),(150007,.row .u8 (Q ++ (w.chunks.take k).flatMap blobY))]) (fun k=>k ≤ w.chunks.length) (fun k=>w.chunks.length - k) 0 (by omega) ?_ ?_
 · conv=>whnf
   repeat' (first|exact trivial|((first|((first|refine hT _ _ ?_|refine hE _ _ _ ?_|refine hN _ _ ?_);clear hN hE hT)|((first|refine hX ?_|refine hY ?_);clear hX hY)|refine kL ?_|(refine ⟨fun hb=>?_,fun hb=>?_⟩<;>(try simp only [nrm] at hb)<;>(try (first|(exfalso;omega)|contradiction|exact kB hb)))|refine kW cfg_ok ?_|refine kC ?_|refine bdA ?_|refine bd2 ?_|refine bdR ?_|refine bdL ?_)<;>((repeat (first|(with_reducible refine evCut fun N hN hE hT=>?_)|(with_reducible refine evBlk fun N hN hE hT=>?_)));(try with_reducible refine evCnd fun X Y hX hY=>?_);(conv=>whnf)))|(refine And.intro ?_ ?_;rotate_left;(conv=>whnf);rotate_right))
   all_goals first|rfl|(rw [List.take_length];simp;done)|trace_state
 · intro k hk
   have hfl:=flatMap_len blobY 5010 (w.chunks.take k) (fun c hc=>blobY_le (hG.ch (List.mem_of_mem_take hc)))
   rw [List.length_take] at hfl
   by_cases hlt : k < w.chunks.length
   · as_aux_lemma =>
       have hgc:=hG.ch (elt_mem (t:=.chunk) hlt)
       have hb1:=bytes_api (elt .chunk w.chunks k) (okC_right hgc.right)
       rw [hgc.right,if_pos rfl,if_pos rfl] at hb1
       have hbl:=hgc.le.1
       have hbY : blobY (elt .chunk w.chunks k) = uintL (bytesC (elt .chunk w.chunks k)).length ++ bytesC (elt .chunk w.chunks k):=rfl
       have q1:=blob_ev (Q ++ (w.chunks.take k).flatMap blobY) (bytesC (elt .chunk w.chunks k)) _ (by rw [List.length_append]) (by simp only [List.length_append];omega)
       rw [← hbY] at q1
       clear hbY
       generalize bytesC (elt .chunk w.chunks k) = BC at *
       conv=>whnf
       repeat' (first|exact trivial|((first|((first|refine hT _ _ ?_|refine hE _ _ _ ?_|refine hN _ _ ?_);clear hN hE hT)|((first|refine hX ?_|refine hY ?_);clear hX hY)|refine kL ?_|(refine ⟨fun hb=>?_,fun hb=>?_⟩<;>(try simp only [nrm] at hb)<;>(try (first|(exfalso;omega)|contradiction|exact kB hb)))|refine kE q1 [(1,150007),(390001,150009)] rfl ?_ (hrd:=⟨rfl,trivial⟩)|refine kF q1 [(1,150007),(390001,150009)] rfl ?_ (hrd:=⟨rfl,trivial⟩)|refine kA hb1 ?_|refine kD hb1 ?_|refine kW cfg_ok ?_|refine kC ?_|refine bdA ?_|refine bd2 ?_|refine bdR ?_|refine bdL ?_)<;>((repeat (first|(with_reducible refine evCut fun N hN hE hT=>?_)|(with_reducible refine evBlk fun N hN hE hT=>?_)));(try with_reducible refine evCnd fun X Y hX hY=>?_);(conv=>whnf)))|(refine And.intro ?_ ?_;rotate_left;(conv=>whnf);rotate_right))
       refine .to (k + 1) hlt (by omega) ?_
       conv=>whnf
       repeat' (first|exact trivial|((first|((first|refine hT _ _ ?_|refine hE _ _ _ ?_|refine hN _ _ ?_);clear hN hE hT)|((first|refine hX ?_|refine hY ?_);clear hX hY)|refine kL ?_|(refine ⟨fun hb=>?_,fun hb=>?_⟩<;>(try simp only [nrm] at hb)<;>(try (first|(exfalso;omega)|contradiction|exact kB hb)))|refine kW cfg_ok ?_|refine kC ?_|refine bdA ?_|refine bd2 ?_|refine bdR ?_|refine bdL ?_)<;>((repeat (first|(with_reducible refine evCut fun N hN hE hT=>?_)|(with_reducible refine evBlk fun N hN hE hT=>?_)));(try with_reducible refine evCnd fun X Y hX hY=>?_);(conv=>whnf)))|(refine And.intro ?_ ?_;rotate_left;(conv=>whnf);rotate_right))
       · exact grow_len (t:=.chunk) (f:=blobY) Q hlt rfl
       · exact grow_row (t:=.chunk) (f:=blobY) Q hlt rfl
   · obtain rfl : k = w.chunks.length:=by omega
     rw [List.take_length]
     conv=>whnf
     repeat' (first|exact trivial|((first|((first|refine hT _ _ ?_|refine hE _ _ _ ?_|refine hN _ _ ?_);clear hN hE hT)|((first|refine hX ?_|refine hY ?_);clear hX hY)|refine kL ?_|(refine ⟨fun hb=>?_,fun hb=>?_⟩<;>(try simp only [nrm] at hb)<;>(try (first|(exfalso;omega)|contradiction|exact kB hb)))|refine kE p4 [(0,8),(1,150007),(3,113),(390001,150011)] rfl ?_ (hrd:=⟨rfl,rfl,rfl,trivial⟩)|refine kF p4 [(0,8),(1,150007),(3,113),(390001,150011)] rfl ?_ (hrd:=⟨rfl,rfl,rfl,trivial⟩)|refine kW cfg_ok ?_|refine kC ?_|refine bdA ?_|refine bd2 ?_|refine bdR ?_|refine bdL ?_)<;>((repeat (first|(with_reducible refine evCut fun N hN hE hT=>?_)|(with_reducible refine evBlk fun N hN hE hT=>?_)));(try with_reducible refine evCnd fun X Y hX hY=>?_);(conv=>whnf)))|(refine And.intro ?_ ?_;rotate_left;(conv=>whnf);rotate_right))
     clear p4
     refine Runs.loopS cfg_ok (σ:=Nat) [4,5,6,59,60,61] (fun k=>[.ptr 8 0,.ptr 10 0,.clo (.func 78) [] [.ptr 10 0],.vec .player w.players,i64 w.players.length,i64 k])
       (fun k=>[(8,.box [.own .u8 150013 0 (R.length + ((w.players.take k).flatMap plY).length) none]),(10,.box [.clo (.func 76) [] [.ptr 8 0]]),(150013,.row .u8 (R ++ (w.players.take k).flatMap plY))]) (fun k=>k ≤ w.players.length) (fun k=>w.players.length - k) 0 (by omega) ?_ ?_
     · conv=>whnf
       repeat' (first|exact trivial|((first|((first|refine hT _ _ ?_|refine hE _ _ _ ?_|refine hN _ _ ?_);clear hN hE hT)|((first|refine hX ?_|refine hY ?_);clear hX hY)|refine kL ?_|(refine ⟨fun hb=>?_,fun hb=>?_⟩<;>(try simp only [nrm] at hb)<;>(try (first|(exfalso;omega)|contradiction|exact kB hb)))|refine kW cfg_ok ?_|refine kC ?_|refine bdA ?_|refine bd2 ?_|refine bdR ?_|refine bdL ?_)<;>((repeat (first|(with_reducible refine evCut fun N hN hE hT=>?_)|(with_reducible refine evBlk fun N hN hE hT=>?_)));(try with_reducible refine evCnd fun X Y hX hY=>?_);(conv=>whnf)))|(refine And.intro ?_ ?_;rotate_left;(conv=>whnf);rotate_right))
       all_goals first|rfl|(rw [List.take_length];simp;done)|trace_state
     · intro j hj
       have hf2:=flatMap_len plY 400 (w.players.take j) (fun p hp=>plY_le (hG.pl (List.mem_of_mem_take hp)))
       rw [List.length_take] at hf2
       by_cases hlj : j < w.players.length
       · have hp:=hG.pl (elt_mem (t:=.player) hlj)
         have o1:=hp.id;have o2:=hp.x;have o3:=hp.y;have o4:=hp.bag;have o5:=hp.w
         have o6:=agI_bd (elt .player w.players j).agrees
         have o7 : (elt .player w.players j).offer.length ≤ 8:=by
           rcases hp.off with ⟨_,h⟩|⟨_,h⟩
           · rw [h];simp
           · omega
         have hplY : plY (elt .player w.players j) = putY [(elt .player w.players j).id,(elt .player w.players j).x,(elt .player w.players j).y] ++ ((elt .player w.players j).bag.flatMap slotL ++ (putY [(elt .player w.players j).wth + 1,agI (elt .player w.players j).agrees] ++ (elt .player w.players j).offer.flatMap slotL)):=rfl
         have c1:=putY_len [(elt .player w.players j).id,(elt .player w.players j).x,(elt .player w.players j).y]
         have c2:=putY_len [(elt .player w.players j).wth + 1,agI (elt .player w.players j).agrees]
         have c3:=flatMap_len slotL 20 (elt .player w.players j).bag (fun s _=>slotL_len s)
         simp only [List.length_cons,List.length_nil] at c1 c2
         generalize hS : R ++ (w.players.take j).flatMap plY = S at *
         have hSl : S.length ≤ 4000000:=by rw [← hS,List.length_append];omega
         have hSe : R.length + ((w.players.take j).flatMap plY).length = S.length:=by rw [← hS,List.length_append]
         rw [hSe]
         have q1:=wput_ev S S.length [(elt .player w.players j).id,(elt .player w.players j).x,(elt .player w.players j).y] 3 rfl rfl (okN_three' (by unfold okN;omega) (by unfold okN;omega) (by unfold okN;omega)) (by simp only [List.length_cons,List.length_nil];omega)
         generalize putY [(elt .player w.players j).id,(elt .player w.players j).x,(elt .player w.players j).y] = A1 at *
         have q2:=wslots_ev (S ++ A1) _ (elt .player w.players j).bag (by rw [List.length_append]) (fun s hs=>⟨(hp.bagS s hs).1,by have:=(hp.bagS s hs).2;unfold okN;omega⟩) (by simp only [List.length_append];omega)
         generalize (elt .player w.players j).bag.flatMap slotL = A2 at *
         have q3:=wput_ev (S ++ A1 ++ A2) _ [(elt .player w.players j).wth + 1,agI (elt .player w.players j).agrees] 2 rfl (by rw [List.length_append,List.length_append]) (okN_two (by unfold okN;omega) (by unfold okN;omega)) (by simp only [List.length_cons,List.length_nil,List.length_append];omega)
         generalize putY [(elt .player w.players j).wth + 1,agI (elt .player w.players j).agrees] = A3 at *
         have q4:=wslots_ev (S ++ A1 ++ A2 ++ A3) _ (elt .player w.players j).offer (by rw [List.length_append,List.length_append,List.length_append]) (fun s hs=>⟨(hp.offS s hs).1,by have:=(hp.offS s hs).2;unfold okN;omega⟩) (by simp only [List.length_append];omega)
         generalize (elt .player w.players j).offer.flatMap slotL = A4 at *
         have hax : ((elt .player w.players j).agrees = true ∧ agI (elt .player w.players j).agrees = 1) ∨ ((elt .player w.players j).agrees = false ∧ agI (elt .player w.players j).agrees = 0):=by unfold agI;cases (elt .player w.players j).agrees<;>simp
         have hG1:=grow_len (t:=.player) (f:=plY) R hlj rfl
         have hG2:=grow_row (t:=.player) (f:=plY) R hlj rfl
         rw [hSe,hplY] at hG1
         rw [hSe,hplY,hS] at hG2
         have u1 : -9223372036854775808 ≤ (elt .player w.players (j : Int).toNat).wth + 1:=by have h:=o5.1;exact Int.le_trans (by omega) (Int.add_le_add_right h 1)
         have u2 : (elt .player w.players (j : Int).toNat).wth + 1 ≤ 9223372036854775807:=by have h:=o5.2;exact Int.le_trans (Int.add_le_add_right h 1) (by omega)
         rw [take_app] at hG2
         clear o1 o2 o3 o4 o5 o6 o7 c1 c2 c3 hplY hf2
         rcases hax with ⟨hx,hy⟩|⟨hx,hy⟩
         all_goals
           as_aux_lemma =>
             rw [hy] at q3
             show ev _ _ _ _ _ _ _
             (repeat (first|(with_reducible refine evCut fun N hN hE hT=>?_)|(with_reducible refine evBlk fun N hN hE hT=>?_)));(try with_reducible refine evCnd fun X Y hX hY=>?_);(conv=>whnf)
             repeat' (first|exact trivial|((first|((first|refine hT _ _ ?_|refine hE _ _ _ ?_|refine hN _ _ ?_);clear hN hE hT)|((first|refine hX ?_|refine hY ?_);clear hX hY)|refine kL ?_|(refine ⟨fun hb=>?_,fun hb=>?_⟩<;>(try simp only [nrm] at hb)<;>(try (first|(exfalso;omega)|contradiction|exact kB hb)))|refine kE q1 [(0,8),(1,150013),(3,145),(390001,150015)] rfl ?_ (hrd:=⟨rfl,rfl,rfl,trivial⟩)|refine kF q1 [(0,8),(1,150013),(3,145),(390001,150015)] rfl ?_ (hrd:=⟨rfl,rfl,rfl,trivial⟩)|refine kE q2 [(0,8),(1,150015),(4,10),(390001,150017)] rfl ?_ (hrd:=⟨rfl,rfl,rfl,trivial⟩)|refine kF q2 [(0,8),(1,150015),(4,10),(390001,150017)] rfl ?_ (hrd:=⟨rfl,rfl,rfl,trivial⟩)|refine kE q3 [(0,8),(1,150017),(3,171),(390001,150019)] rfl ?_ (hrd:=⟨rfl,rfl,rfl,trivial⟩)|refine kF q3 [(0,8),(1,150017),(3,171),(390001,150019)] rfl ?_ (hrd:=⟨rfl,rfl,rfl,trivial⟩)|refine kE q4 [(0,8),(1,150019),(4,10),(390001,150021)] rfl ?_ (hrd:=⟨rfl,rfl,rfl,trivial⟩)|refine kF q4 [(0,8),(1,150019),(4,10),(390001,150021)] rfl ?_ (hrd:=⟨rfl,rfl,rfl,trivial⟩)|(refine .inl ⟨in64 u1 u2,?_⟩)|refine kW cfg_ok ?_|refine kC ?_|refine bdA ?_|refine bd2 ?_|refine bdR ?_|refine bdL ?_)<;>((repeat (first|(with_reducible refine evCut fun N hN hE hT=>?_)|(with_reducible refine evBlk fun N hN hE hT=>?_)));(try with_reducible refine evCnd fun X Y hX hY=>?_);(conv=>whnf)))|(refine And.intro ?_ ?_;rotate_left;(conv=>whnf);rotate_right))
             refine .to (j + 1) hlj (by omega) ?_
             conv=>whnf
             repeat' (first|exact trivial|((first|((first|refine hT _ _ ?_|refine hE _ _ _ ?_|refine hN _ _ ?_);clear hN hE hT)|((first|refine hX ?_|refine hY ?_);clear hX hY)|refine kL ?_|(refine ⟨fun hb=>?_,fun hb=>?_⟩<;>(try simp only [nrm] at hb)<;>(try (first|(exfalso;omega)|contradiction|exact kB hb)))|refine kW cfg_ok ?_|refine kC ?_|refine bdA ?_|refine bd2 ?_|refine bdR ?_|refine bdL ?_)<;>((repeat (first|(with_reducible refine evCut fun N hN hE hT=>?_)|(with_reducible refine evBlk fun N hN hE hT=>?_)));(try with_reducible refine evCnd fun X Y hX hY=>?_);(conv=>whnf)))|(refine And.intro ?_ ?_;rotate_left;(conv=>whnf);rotate_right))
             all_goals first|(rw [← hG1];simp only [List.length_append];omega)|(rw [← hG2,List.take_of_length_le (by simp only [List.length_append];omega)];simp only [List.append_assoc])
       · obtain rfl : j = w.players.length:=by omega
         rw [List.take_length]
         conv=>whnf
         repeat' (first|exact trivial|((first|((first|refine hT _ _ ?_|refine hE _ _ _ ?_|refine hN _ _ ?_);clear hN hE hT)|((first|refine hX ?_|refine hY ?_);clear hX hY)|refine kL ?_|(refine ⟨fun hb=>?_,fun hb=>?_⟩<;>(try simp only [nrm] at hb)<;>(try (first|(exfalso;omega)|contradiction|exact kB hb)))|refine kW cfg_ok ?_|refine kC ?_|refine bdA ?_|refine bd2 ?_|refine bdR ?_|refine bdL ?_)<;>((repeat (first|(with_reducible refine evCut fun N hN hE hT=>?_)|(with_reducible refine evBlk fun N hN hE hT=>?_)));(try with_reducible refine evCnd fun X Y hX hY=>?_);(conv=>whnf)))|(refine And.intro ?_ ?_;rotate_left;(conv=>whnf);rotate_right))
         show List.take (R.length + (List.flatMap plY w.players).length) (R ++ List.flatMap plY w.players) = _
         exact take_app _ _
end Go.Proofs.YtaecchphjploaaaGreat
