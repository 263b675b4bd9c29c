/- ledger.Expect. -/
import Derived.Test.YtkojlembanldcaaGreatRp
import Derived.Test.YtkojlembanldcaaGreatRh
import Derived.Test.YtkojlembanldcaaGreatRb
set_option linter.unusedSimpArgs false
set_option linter.unusedVariables false
set_option maxRecDepth 100000
set_option maxHeartbeats 16000000
namespace Go.Proofs.YtkojlembanldcaaGreat
open Go Go.RowKit Eng
theorem DJ (w : Wld) (hw : OkW w) : Ev1 Tryz.prog 55 [az w] [] (.own .i64 390001 0 13 none) [(390001,.row .i64 (bY w))]:=by
 have hrt:=dA w hw
 cases hR : aO w with
 | false =>
  rw [hR] at hrt
  have hs : bY w = aq:=by unfold bY;rw [if_neg (by rw [hR];simp)]
  rw [hs]
  refine eF Tryz.func55 10 ?_
  exact fD0
 | true =>
  rw [hR] at hrt
  have hRW:=aK.1 hR
  have hs : bY w = tot (bK w):=by unfold bY;rw [if_pos hR]
  rw [hs]
  have hev:=zp w (kv hRW hw) (ox hRW hw) hw
  have hln:=(tW (kv hRW hw).fit).len
  generalize tot (bK w) = T at *
  refine eF Tryz.func55 10 ?_
  conv=>whnf
  repeat' (first|exact trivial|((first|refine kL ?_|(refine ⟨fun hb=>?_,fun hb=>?_⟩<;>(try simp only [nrm] at hb)<;>try exact kZ hb)|refine kE hev [(0,200006),(1,200009)] rfl ?_|refine kF hev [(0,200006),(1,200009)] rfl ?_|refine kV ?_)<;>(conv=>whnf))|refine kY ?_ ?_)
  all_goals first|rfl|omega|exact List.take_of_length_le (by omega)|(rw [List.drop_zero];exact List.take_of_length_le (by omega))|trace_state
theorem Jz {V : Wld} (hR : RW V) (S : List (El .order)) (hS : ∀ o ∈ S,OkO o) : ∃ (W : Nat → Wld) (H : Nat → List (El .i64)),W 0 = V ∧ H 0 = d8 V ∧ H S.length = d8 (bw V S).1 ∧ (∀ j,j ≤ S.length → (H j).length = 13) ∧
  ∀ j,j < S.length → ∃ (D : List (El .i64)) (e : Int) (X : Nat → List (El .i64)),Api Tryz.prog 39 [az (W j),i64 (elt .order S j).player,co (elt .order S j).cmd] (.vec .i64 D) ∧
   Api Tryz.prog 30 [az (W j),i64 (elt .order S j).player,co (elt .order S j).cmd] (.tup [az (W (j + 1)),i64 e]) ∧ D.length = 13 ∧ X 0 = H j ∧ X 13 = H (j + 1) ∧ (∀ i,i ≤ 13 → (X i).length = 13) ∧
   (∀ i,i < 13 → (X i).set i ((elt .i64 (X i) i : Int) + elt .i64 D i) = X (i + 1)) ∧ (∀ i,i < 13 → inN 288230376151711744 (elt .i64 (X i) i) ∧ inN 288230376151711744 ((elt .i64 (X i) i : Int) + elt .i64 D i)):=by
 refine ⟨fun k=>(bw V (S.take k)).1,fun k=>d8 (bw V (S.take k)).1,rfl,rfl,by dsimp only;rw [List.take_length],fun j _=>jm _ (by omega),fun j hj=>?_⟩
 have hR2:=mv (l:=S.take j) hR
 have ho:=hS _ (ao (t:=.order) hj)
 have e:=kP V (ar .order S j hj)
 have hl : (d8 (bw V (S.take j)).1).length = 13:=jm _ (by omega)
 have hst:=wP hR2 (elt .order S j)
 refine ⟨dp (bw V (S.take j)).1 (elt .order S j).player (elt .order S j).cmd,(fP (bw V (S.take j)).1 (elt .order S j)).2,fun i=>kQ (d8 (bw V (S.take j)).1) (dp (bw V (S.take j)).1 (elt .order S j).player (elt .order S j).cmd) i,
  Dk _ _ _ (bZ hR2) ho.1 ho.2,?_,uq _ _ _,rfl,?_,fun i hi=>vo hl hi,fun i hi=>?_,fun i hi=>?_⟩
 ·dsimp only
  rw [e];exact ga _ _ _ (bZ hR2) ho.1 ho.2
 ·dsimp only
  rw [e];exact hst
 ·dsimp only
  rw [uo hl hi];exact zT hl hi
 ·dsimp only
  rw [uo hl hi]
  refine ⟨rv hR2 hi,?_⟩
  have h1:=rv (nM hR2 (elt .order S j)) hi
  rw [← hst,vp hl hi] at h1
  exact h1
theorem DK (w : Wld) (l : List (El .orders)) (hw : OkW w) (hl : l.length ≤ 1000) (hO : ∀ b ∈ l,List.length b ≤ 1000 ∧ ∀ o ∈ b,OkO o) : Api Tryz.prog 24 [az w,.vec .orders l] (.tup [.vec .i64 (bY (eL w l)),az (eL w l)]):=by
 have hs:=iM w hw
 have hlen : ∀ V : Wld,OkW V → (bY V).length = 13:=fun V hV=>(jP hV).1
 obtain ⟨V,hV⟩ : ∃ V : Nat → Wld,V = fun k=>eL w (l.take k):=⟨_,rfl⟩
 have hV0 : V 0 = w:=by rw [hV];rfl
 have hVE : V l.length = eL w l:=by rw [hV];dsimp only;rw [List.take_length]
 have hVok : ∀ k,OkW (V k):=fun k=>by rw [hV];exact ql hw
 have hVs : ∀ k,k < l.length → V (k + 1) = (ci (V k) (elt .orders l k)).1:=fun k hk=>by
  rw [hV];dsimp only
  rw [List.take_add_one,ar .orders l k hk,Option.toList_some,wQ];rfl
 rw [← hVE]
 clear hV hVE
 have hN0 : (bY (V 0)).length = 13:=hlen _ (hVok 0)
 have hco:=DJ w hw
 rw [show bY w = bY (V 0) by rw [hV0]] at hco
 have hT0 : bA w = bA (V 0):=by rw [hV0]
 refine aF Tryz.func24 78 ?_
 conv=>whnf
 repeat' (first|exact trivial|((first|refine kL ?_|(refine ⟨fun hb=>?_,fun hb=>?_⟩<;>(try simp only [nrm] at hb)<;>try exact kZ hb)|refine kE hco [(390001,150001)] rfl ?_|refine kF hco [(390001,150001)] rfl ?_|refine kV ?_)<;>(conv=>whnf))|refine kY ?_ ?_)
 refine ap.loopS ah (σ:=Nat) [2,5,6,24,25,26] (fun k=>[.ptr 4 0,.ptr 10 0,.own .i64 150001 0 13 none,.vec .orders l,i64 l.length,i64 k]) (fun k=>[(4,.box (bA (V k))),(10,.box xn),(150001,.row .i64 (bY (V k)))]) (fun k=>k ≤ l.length) (fun k=>l.length - k) 0 (by omega) ?_ ?_
 ·conv=>whnf
  repeat' (first|exact trivial|((first|(refine ⟨fun hb=>?_,fun hb=>?_⟩<;>(try simp only [nrm] at hb)<;>try exact kZ hb)|refine kV ?_)<;>(conv=>whnf))|refine kY ?_ ?_)
  all_goals first|rfl|omega|exact List.take_of_length_le (by omega)|rw [hV0]|trace_state
 ·intro k hk
  have hNk:=hlen _ (hVok k)
  by_cases hlt : k < l.length
  ·have hb:=hO _ (ao (t:=.orders) hlt)
   have hs1:=hVs k hlt
   have hNk1:=hlen _ (hVok (k + 1))
   have hf:=HX (V k) (elt .orders l k) (hVok k) (by omega) hb.2
   have hso:=uk (elt .orders l k) (by omega)
   rcases o7 (V k) (elt .orders l k) with ⟨e1,e2,_⟩|⟨hR,_,h200,e⟩
   ·rw [e2] at hs1
    rw [e2] at hf
    generalize (ci (V k) (elt .orders l k)).2.2 = E at *
    generalize (ci (V k) (elt .orders l k)).2.1 = F at *
    conv=>whnf
    repeat' (first|exact trivial|((first|(refine ⟨fun hb=>?_,fun hb=>?_⟩<;>(try simp only [nrm] at hb)<;>try exact kZ hb)|refine kV ?_)<;>(conv=>whnf))|refine kY ?_ ?_)
    refine .to (k + 1) (by omega) (by omega) ?_
    conv=>whnf
    repeat' (first|exact trivial|((first|(refine ⟨fun hb=>?_,fun hb=>?_⟩<;>(try simp only [nrm] at hb)<;>try exact kZ hb)|refine kV ?_)<;>(conv=>whnf))|refine kY ?_ ?_)
    all_goals first|rfl|omega|(rw [hs1];exact List.take_of_length_le (by omega))|rw [hs1]|trace_state
   ·rw [e] at hf hs1
    dsimp only at hf hs1
    have hSO : ∀ o ∈ b7 (elt .orders l k),OkO o:=fun o ho=>hb.2 o (lB ho)
    have hSl:=lC (elt .orders l k)
    have hcE : bY (V (k + 1)) = d8 (bw (V k) (b7 (elt .orders l k))).1:=by
     rw [hs1,jU (i_ (mv hR) ⟨by have:=hR.size;omega,by omega⟩)];rfl
    have hc0 : bY (V k) = d8 (V k):=jU hR
    have hrl : (bw (V k) (b7 (elt .orders l k))).2.length ≤ 1000:=by rw [vn];omega
    generalize b7 (elt .orders l k) = S at *
    obtain ⟨W,H,w0,h0,hE,hHl,hst⟩:=Jz hR S hSO
    rw [← hE] at hcE
    rw [← h0] at hc0
    generalize (bw (V k) S).2 = Q at *
    generalize cg (bw (V k) S).1 ((V k).tick + 1) = Nx at *
    have hH0:=hHl 0 (by omega)
    conv=>whnf
    repeat' (first|exact trivial|((first|(refine ⟨fun hb=>?_,fun hb=>?_⟩<;>(try simp only [nrm] at hb)<;>try exact kZ hb)|refine kV ?_)<;>(conv=>whnf))|refine kY ?_ ?_)
    refine ap.loopS ah (σ:=Nat) [2,5,6,9,24,25,26,40,41,42] (fun j=>[.ptr 4 0,.ptr 10 0,.own .i64 150001 0 13 none,.ptr 18 0,.vec .orders l,i64 l.length,i64 k,.vec .order S,i64 S.length,i64 j])
     (fun j=>[(4,.box (bA (W j))),(10,.box xn),(18,.box (bA Nx)),(150001,.row .i64 (H j))]) (fun j=>j ≤ S.length) (fun j=>S.length - j) 0 (by omega) ?_ ?_
    ·conv=>whnf
     repeat' (first|exact trivial|((first|(refine ⟨fun hb=>?_,fun hb=>?_⟩<;>(try simp only [nrm] at hb)<;>try exact kZ hb)|refine kV ?_)<;>(conv=>whnf))|refine kY ?_ ?_)
     all_goals first|rfl|omega|rw [w0]|(rw [← hc0];exact List.take_of_length_le (by omega))|trace_state
    ·intro j hj
     have hHj:=hHl j hj
     by_cases hlj : j < S.length
     ·obtain ⟨D,e,X,hD,hA,hDl,x0,xE,xl,xs,xb⟩:=hst j hlj
      have hHj1:=hHl (j + 1) (by omega)
      conv=>whnf
      repeat' (first|exact trivial|((first|(refine ⟨fun hb=>?_,fun hb=>?_⟩<;>(try simp only [nrm] at hb)<;>try exact kZ hb)|refine kV ?_)<;>(conv=>whnf))|refine kY ?_ ?_)
      refine ap.loopS ah (σ:=Nat) [2,5,6,9,13,24,25,26,40,41,42,51,52,53] (fun i=>[.ptr 4 0,.ptr 10 0,.own .i64 150001 0 13 none,.ptr 18 0,.ptr 26 0,.vec .orders l,i64 l.length,i64 k,.vec .order S,i64 S.length,i64 j,.vec .i64 D,i64 D.length,i64 i])
       (fun i=>[(4,.box (bA (W j))),(10,.box xn),(18,.box (bA Nx)),(26,.box (cells .order (elt .order S j))),(150001,.row .i64 (X i))]) (fun i=>i ≤ 13) (fun i=>13 - i) 0 (by omega) ?_ ?_
      ·conv=>whnf
       repeat' (first|exact trivial|((first|(refine ⟨fun hb=>?_,fun hb=>?_⟩<;>(try simp only [nrm] at hb)<;>try exact kZ hb)|refine kV ?_)<;>(conv=>whnf))|refine kY ?_ ?_)
       all_goals first|rfl|omega|(rw [x0];exact List.take_of_length_le (by omega))|trace_state
      ·intro i hi
       have hxl:=xl i hi
       by_cases hli : i < 13
       ·have hxb:=xb i hli
        have hxs:=xs i hli
        have hxl1:=xl (i + 1) (by omega)
        have hxb2 : inN 288230376151711744 (elt .i64 (X i) ((i : Int).toNat + 0)) ∧ inN 288230376151711744 ((elt .i64 (X i) ((i : Int).toNat + 0) : Int) + elt .i64 D (i : Int).toNat):=hxb
        have hxs2 : (X i).set ((i : Int).toNat + 0) ((elt .i64 (X i) ((i : Int).toNat + 0) : Int) + elt .i64 D (i : Int).toNat) = X (i + 1):=hxs
        unfold inN at hxb2
        conv=>whnf
        repeat' (first|exact trivial|((first|(refine ⟨fun hb=>?_,fun hb=>?_⟩<;>(try simp only [nrm] at hb)<;>try exact kZ hb)|refine kV ?_)<;>(conv=>whnf))|refine kY ?_ ?_)
        refine .to (i + 1) (by omega) (by omega) ?_
        conv=>whnf
        repeat' (first|exact trivial|((first|(refine ⟨fun hb=>?_,fun hb=>?_⟩<;>(try simp only [nrm] at hb)<;>try exact kZ hb)|refine kV ?_)<;>(conv=>whnf))|refine kY ?_ ?_)
        all_goals first|rfl|omega|(rw [hxs2];exact List.take_of_length_le (by omega))|(rw [hxs2];omega)|(rw [List.length_set];omega)|trace_state
       ·obtain rfl : i = 13:=by omega
        conv=>whnf
        repeat' (first|exact trivial|((first|(refine ⟨fun hb=>?_,fun hb=>?_⟩<;>(try simp only [nrm] at hb)<;>try exact kZ hb)|refine kV ?_)<;>(conv=>whnf))|refine kY ?_ ?_)
        refine .to (j + 1) (by omega) (by omega) ?_
        conv=>whnf
        repeat' (first|exact trivial|((first|(refine ⟨fun hb=>?_,fun hb=>?_⟩<;>(try simp only [nrm] at hb)<;>try exact kZ hb)|refine kV ?_)<;>(conv=>whnf))|refine kY ?_ ?_)
        all_goals first|rfl|omega|(rw [xE];exact List.take_of_length_le (by omega))|trace_state
     ·obtain rfl : j = S.length:=by omega
      conv=>whnf
      repeat' (first|exact trivial|((first|(refine ⟨fun hb=>?_,fun hb=>?_⟩<;>(try simp only [nrm] at hb)<;>try exact kZ hb)|refine kV ?_)<;>(conv=>whnf))|refine kY ?_ ?_)
      refine .to (k + 1) (by omega) (by omega) ?_
      conv=>whnf
      repeat' (first|exact trivial|((first|(refine ⟨fun hb=>?_,fun hb=>?_⟩<;>(try simp only [nrm] at hb)<;>try exact kZ hb)|refine kV ?_)<;>(conv=>whnf))|refine kY ?_ ?_)
      all_goals first|rfl|omega|(rw [hcE];exact List.take_of_length_le (by omega))|rw [hs1]|trace_state
  ·obtain rfl : k = l.length:=by omega
   conv=>whnf
   repeat' (first|exact trivial|((first|(refine ⟨fun hb=>?_,fun hb=>?_⟩<;>(try simp only [nrm] at hb)<;>try exact kZ hb)|refine kV ?_)<;>(conv=>whnf))|refine kY ?_ ?_)
   all_goals first|rfl|omega|exact List.take_of_length_le (by omega)|(rw [List.drop_zero];exact List.take_of_length_le (by omega))|trace_state
end Go.Proofs.YtkojlembanldcaaGreat
