/- view.Right, view.Same. -/
import Derived.Test.YtaecchphjploaaaGreatGi
import Derived.Test.YtaecchphjploaaaGreatGk
import Derived.Test.YtaecchphjploaaaGreatGh
import Derived.Test.YtaecchphjploaaaGreatGg
set_option linter.unusedSimpArgs false
set_option linter.unusedVariables false
set_option maxRecDepth 100000
set_option maxHeartbeats 16000000
namespace Go.Proofs.YtaecchphjploaaaGreat
open Go Go.RowKit Eng
def wv16 : Wld:=⟨16,0,0,[],[]⟩
def okCh (l : List Chunk) (i : Nat) : Bool:=rightB (elt .chunk l i) && (decide (i = 0) || decide (orderI (elt .chunk l (i - 1)) (elt .chunk l i) < 0))
def okOt (me : Int) (l : List Seen) (i : Nat) : Bool:=decide (0 ≤ (elt .seen l i).id ∧ (elt .seen l i).id ≤ 1073741824 ∧ (elt .seen l i).id ≠ me ∧ 0 ≤ min (elt .seen l i).x (elt .seen l i).y ∧ max (elt .seen l i).x (elt .seen l i).y < 128 ∧ (i = 0 ∨ (elt .seen l (i - 1)).id < (elt .seen l i).id))
def headV (v : Viw) : Bool:=decide ((setW wv16 v.me).2 = 0 ∧ 0 ≤ v.tick ∧ v.tick ≤ 1099511627776 ∧ v.chunks.length ≤ 49 ∧ v.others.length ≤ 32)
def rightV (v : Viw) : Bool:=headV v && (List.range v.chunks.length).all (okCh v.chunks) && (List.range v.others.length).all (okOt v.me.id v.others)
open Go Go.RowKit Eng
theorem rowV_mem {w : Wld} {p : Player} {r : Int} {y k : Nat} {c : Chunk} (h : c ∈ rowV w p r y k) : ∃ x : Nat,x < k ∧ seesB p r (x : Nat) (y : Nat) = true ∧ c = (chunkW w (x : Nat) (y : Nat)).1:=by
 unfold rowV at h
 obtain ⟨x,hx,rfl⟩:=List.mem_map.1 h
 obtain ⟨h1,h2⟩:=List.mem_filter.1 hx
 exact ⟨x,List.mem_range.1 h1,h2,rfl⟩
theorem rowsV_mem {w : Wld} {p : Player} {r : Int} {s y : Nat} {c : Chunk} (h : c ∈ rowsV w p r s y) : ∃ b : Nat,b < y ∧ ∃ x : Nat,x < s ∧ seesB p r (x : Nat) (b : Nat) = true ∧ c = (chunkW w (x : Nat) (b : Nat)).1:=by
 induction y with
 | zero=>simp [rowsV] at h
 | succ y ih =>
   rw [rowsV] at h
   rcases List.mem_append.1 h with h|h
   · obtain ⟨b,hb,hr⟩:=ih h;exact ⟨b,by omega,hr⟩
   · exact ⟨y,by omega,rowV_mem h⟩
theorem rowsV_congr {u w : Wld} {p : Player} {r : Int} {s y : Nat} (h : ∀ x b : Nat,x < s → b < y → seesB p r (x : Nat) (b : Nat) = true → (chunkW u (x : Nat) (b : Nat)).1 = (chunkW w (x : Nat) (b : Nat)).1) : rowsV u p r s y = rowsV w p r s y:=by
 induction y with
 | zero=>rfl
 | succ y ih =>
   rw [rowsV,rowsV,ih fun x b hx hb hs=>h x b hx (by omega) hs]
   congr 1
   unfold rowV
   refine List.map_congr_left fun x hx=>?_
   obtain ⟨h1,h2⟩:=List.mem_filter.1 hx
   exact h x y (List.mem_range.1 h1) (by omega) h2
theorem risesK_append {α : Type} {key : α → Int} {A B : List α} (ha : risesK key A) (hb : risesK key B) (h : ∀ a ∈ A,∀ b ∈ B,key a < key b) : risesK key (A ++ B):=by
 induction A with
 | nil=>exact hb
 | cons a r ih =>
   refine ⟨fun x hx=>?_,ih ha.2 fun a ha b hb=>h a (List.mem_cons_of_mem _ ha) b hb⟩
   rcases List.mem_append.1 hx with hx|hx
   · exact ha.1 x hx
   · exact h a (List.mem_cons_self ..) x hx
theorem risesK_filter {α : Type} {key : α → Int} {f : α → Bool} {l : List α} (h : risesK key l) : risesK key (l.filter f):=by
 induction l with
 | nil=>exact h
 | cons a r ih =>
   cases hf : f a with
   | true=>rw [List.filter_cons_of_pos hf];exact ⟨fun x hx=>h.1 x (List.mem_filter.1 hx).1,ih h.2⟩
   | false=>rw [List.filter_cons_of_neg (by rw [hf];simp)];exact ih h.2
theorem risesK_map {α β : Type} {key : α → Int} {kb : β → Int} {f : α → β} {l : List α} (hk : ∀ a,kb (f a) = key a) (h : risesK key l) : risesK kb (l.map f):=by
 induction l with
 | nil=>trivial
 | cons a r ih =>
   refine ⟨fun x hx=>?_,ih h.2⟩
   obtain ⟨b,hb,rfl⟩:=List.mem_map.1 hx
   rw [hk,hk];exact h.1 b hb
theorem seen_at {w : Wld} (hR : RW w) {x y : Nat} (hx : (x : Int) < w.size) (hy : (y : Int) < w.size) : rightB (chunkW w (x : Nat) (y : Nat)).1 = true ∧ (chunkW w (x : Nat) (y : Nat)).1.x = x ∧ (chunkW w (x : Nat) (y : Nat)).1.y = y ∧ (chunkW w (x : Nat) (y : Nat)).2 = true:=by
 obtain ⟨h1,h2,h3⟩:=chunkW_in hR (x:=(x : Nat)) (y:=(y : Nat)) ⟨by omega,hx⟩ ⟨by omega,hy⟩
 exact ⟨chunk_right hR ⟨by omega,hx⟩ ⟨by omega,hy⟩,h2,h3,by rw [h1]⟩
theorem rowV_rises {w : Wld} (hR : RW w) {p : Player} {r : Int} {y k : Nat} (hy : (y : Int) < w.size) (hk : (k : Int) ≤ w.size) : risesK keyC (rowV w p r y k):=by
 induction k with
 | zero=>trivial
 | succ k ih =>
   rw [rowV_succ]
   refine risesK_append (ih (by omega)) ?_ fun a ha b hb=>?_
   · split
     · exact ⟨fun x hx=>(by cases hx),trivial⟩
     · trivial
   · obtain ⟨x,hx,_,rfl⟩:=rowV_mem ha
     split at hb
     · obtain rfl:=List.mem_singleton.1 hb
       obtain ⟨_,h1,h2,_⟩:=seen_at hR (x:=x) (y:=y) (by omega) hy
       obtain ⟨_,h3,h4,_⟩:=seen_at hR (x:=k) (y:=y) (by omega) hy
       unfold keyC;omega
     · cases hb
theorem rowsV_rises {w : Wld} (hR : RW w) {p : Player} {r : Int} {s y : Nat} (hs : (s : Int) ≤ w.size) (hy : (y : Int) ≤ w.size) : risesK keyC (rowsV w p r s y):=by
 have hsz:=hR.size
 induction y with
 | zero=>trivial
 | succ y ih =>
   rw [rowsV]
   refine risesK_append (ih (by omega)) (rowV_rises hR (by omega) hs) fun a ha b hb=>?_
   obtain ⟨v,hv,x,hx,_,rfl⟩:=rowsV_mem ha
   obtain ⟨z,hz,_,rfl⟩:=rowV_mem hb
   obtain ⟨_,h1,h2,_⟩:=seen_at hR (x:=x) (y:=v) (by omega) (by omega)
   obtain ⟨_,h3,h4,_⟩:=seen_at hR (x:=z) (y:=y) (by omega) (by omega)
   unfold keyC;omega
theorem rwv16 : RW wv16:=rightW_iff.1 (by kernel_rfl)
theorem of_right {w : Wld} {id r : Int} (h : (ofW w id r).2 = 0) : rightV (ofW w id r).1 = true:=by
 obtain ⟨hr0,hr3,hR,hP,hof⟩:=ofW_ok h
 obtain ⟨hmem,hid⟩:=player_mem hP
 have hsz:=hR.size
 obtain ⟨hso,hwi⟩:=hR.players _ hmem
 have hwi2:=(within_iff hR).1 hwi
 rw [hof]
 have hset : setOk wv16 (playerW w id).1:=⟨rwv16,hso,(within_iff rwv16).2 (by have h16 : wv16.size = 16:=rfl;omega),.inr (by decide)⟩
 have hx:=cnt_side (a:=(playerW w id).1.x / 8) (r:=r) (S:=w.size.toNat) (by omega) (by omega) (by omega)
 have hy:=cnt_side (a:=(playerW w id).1.y / 8) (r:=r) (S:=w.size.toNat) (by omega) (by omega) (by omega)
 have hcn:=rowsV_cnt w (playerW w id).1 r w.size.toNat w.size.toNat
 have h49 : cntI ((playerW w id).1.x / 8) r w.size.toNat * cntI ((playerW w id).1.y / 8) r w.size.toNat ≤ 7 * 7:=Nat.mul_le_mul (by omega) (by omega)
 have hol:=othV_len w.players (playerW w id).1 r id w.players.length
 have hrc:=rowsV_rises hR (p:=(playerW w id).1) (r:=r) (s:=w.size.toNat) (y:=w.size.toNat) (by omega) (by omega)
 have hro : risesK (fun s : Seen=>s.id) (othV w.players (playerW w id).1 r id w.players.length):=by
   unfold othV
   rw [List.take_length]
   exact risesK_map (key:=pid) (fun a=>rfl) (risesK_filter hR.rp)
 have hme : (playerW w id).1.id = id:=hid
 have hch : ∀ c ∈ rowsV w (playerW w id).1 r w.size.toNat w.size.toNat,rightB c = true ∧ 0 ≤ c.x ∧ c.x < 16:=by
   intro c hc
   obtain ⟨v,hv,x,hx,_,rfl⟩:=rowsV_mem hc
   obtain ⟨h1,h2,_,_⟩:=seen_at hR (x:=x) (y:=v) (by omega) (by omega)
   exact ⟨h1,by omega,by omega⟩
 have hot : ∀ s ∈ othV w.players (playerW w id).1 r id w.players.length,0 ≤ s.id ∧ s.id ≤ 1073741824 ∧ s.id ≠ id ∧ 0 ≤ s.x ∧ s.x < 128 ∧ 0 ≤ s.y ∧ s.y < 128:=by
   intro s hs
   unfold othV at hs
   rw [List.take_length] at hs
   obtain ⟨q,hq,rfl⟩:=List.mem_map.1 hs
   obtain ⟨hq1,hq2⟩:=List.mem_filter.1 hq
   obtain ⟨b1,b2,b3,b4⟩:=within_bd hR hq1
   have hsq:=(hR.players _ hq1).1
   unfold othB at hq2
   simp only [Bool.and_eq_true,Bool.not_eq_true',decide_eq_false_iff_not] at hq2
   simp only [soundB,Bool.and_eq_true,decide_eq_true_eq] at hsq
   exact ⟨by show 0 ≤ q.id;omega,by show q.id ≤ _;omega,hq2.1,b1,b2,b3,b4⟩
 generalize rowsV w (playerW w id).1 r w.size.toNat w.size.toNat = C at *
 generalize othV w.players (playerW w id).1 r id w.players.length = O at *
 unfold rightV headV
 simp only [Bool.and_eq_true,decide_eq_true_eq,List.all_eq_true,List.mem_range]
 refine ⟨⟨⟨?_,by omega,by omega,by omega,by omega⟩,fun i hi=>?_⟩,fun i hi=>?_⟩
 · rw [set_eq hset]
 · have hm:=hch _ (elt_mem (t:=.chunk) hi)
   unfold okCh
   rw [hm.1,Bool.true_and,Bool.or_eq_true,decide_eq_true_eq,decide_eq_true_eq]
   by_cases h0 : i = 0
   · exact .inl h0
   · refine .inr ?_
     have hk:=risesK_lt hrc (i:=i - 1) (j:=i) (by omega) (elt_get .chunk C (i - 1) (by omega)) (elt_get .chunk C i hi)
     have hm2:=hch _ (elt_mem (t:=.chunk) (l:=C) (i:=i - 1) (by omega))
     generalize elt .chunk C i = b at *
     generalize elt .chunk C (i - 1) = a at *
     have h1:=hm.2
     have h2:=hm2.2
     unfold orderI cmpOr cmpI
     unfold keyC at hk
     (repeat' split)<;>omega
 · have hm:=hot _ (elt_mem (t:=.seen) hi)
   unfold okOt
   rw [decide_eq_true_eq]
   refine ⟨hm.1,hm.2.1,by rw [hme];exact hm.2.2.1,by omega,by omega,?_⟩
   by_cases h0 : i = 0
   · exact .inl h0
   · exact .inr (risesK_lt hro (i:=i - 1) (j:=i) (by omega) (elt_get .seen O (i - 1) (by omega)) (elt_get .seen O i hi))
theorem playerW_chunks {w : Wld} {l : List Chunk} (h1 : RW w) (h2 : RW (withCs w l)) (id : Int) : playerW (withCs w l) id = playerW w id:=by
 unfold playerW
 rw [if_neg (by rw [rightW_iff.2 h2];simp),if_neg (by rw [rightW_iff.2 h1];simp)]
 rfl
theorem ofW_eq {w : Wld} {id r : Int} (h0 : 0 ≤ r) (h3 : r ≤ 3) (hR : RW w) (hP : (playerW w id).2 = true) : ofW w id r = (⟨w.tick,(playerW w id).1,rowsV w (playerW w id).1 r w.size.toNat w.size.toNat,othV w.players (playerW w id).1 r id w.players.length⟩,0):=by
 unfold ofW
 rw [if_neg (by omega),if_neg (by rw [rightW_iff.2 hR];simp),if_neg (by rw [hP];simp)]
theorem seesW_in {w : Wld} {id r x y : Int} (h0 : 0 ≤ r) (h3 : r ≤ 3) (hP : (playerW w id).2 = true) (hx : 0 ≤ x ∧ x < w.size) (hy : 0 ≤ y ∧ y < w.size) : seesW w id r x y = seesB (playerW w id).1 r x y:=by
 unfold seesW
 rw [hP,decide_eq_true (by omega)];rfl
theorem ofW_put {w : Wld} {id r : Int} {c : Chunk} (h : (ofW w id r).2 = 0) (hp : (putW w c).2 = 0) (hs : seesW w id r c.x c.y = false) : ofW (putW w c).1 id r = ofW w id r:=by
 obtain ⟨hr0,hr3,hR,hP,hof⟩:=ofW_ok h
 obtain ⟨_,hB,hM⟩:=put_ok hp
 have hpos:=rightB_pos hB
 have hsz:=hR.size
 rw [seesW_in hr0 hr3 hP (by omega) (by omega)] at hs
 have hU:=rw_put hR hB hM
 rw [put_eq hR hB hM]
 have hpl:=playerW_chunks hR hU id
 rw [ofW_eq (w:=withCs w (putL w.seed w.chunks c)) hr0 hr3 hU (by rw [hpl];exact hP),hof,hpl]
 have hrows : rowsV (withCs w (putL w.seed w.chunks c)) (playerW w id).1 r w.size.toNat w.size.toNat = rowsV w (playerW w id).1 r w.size.toNat w.size.toNat:=by
   refine rowsV_congr fun x b hx hb hse=>?_
   rw [(chunkW_in (w:=withCs w (putL w.seed w.chunks c)) hU (x:=(x : Nat)) (y:=(b : Nat)) ⟨by omega,by show (x : Int) < w.size;omega⟩ ⟨by omega,by show (b : Int) < w.size;omega⟩).1,(chunkW_in hR (x:=(x : Nat)) (y:=(b : Nat)) ⟨by omega,by omega⟩ ⟨by omega,by omega⟩).1]
   have hg : getK keyC (withCs w (putL w.seed w.chunks c)).chunks (keyC (atC (x : Nat) (b : Nat))) = getK keyC w.chunks (keyC (atC (x : Nat) (b : Nat))):=by
     show getK keyC (putL w.seed w.chunks c) _ = _
     rw [getK_putL hR.rc,if_neg]
     intro he
     have h7 : keyC (atC (x : Nat) (b : Nat)) = 16 * (b : Int) + x:=rfl
     rw [h7] at he
     have h8 : keyC c = 16 * c.y + c.x:=rfl
     rw [h8] at he
     have hx2 : c.x = (x : Nat):=by omega
     have hy2 : c.y = (b : Nat):=by omega
     rw [hx2,hy2,hse] at hs
     simp at hs
   rw [hg];rfl
 show ((⟨w.tick,(playerW w id).1,rowsV (withCs w (putL w.seed w.chunks c)) (playerW w id).1 r w.size.toNat w.size.toNat,othV w.players (playerW w id).1 r id w.players.length⟩ : Viw),(0 : Int)) = _
 rw [hrows]
theorem filter_ins {α : Type} {key : α → Int} {f : α → Bool} {x : α} {l : List α} (hx : f x = false) : (insK key x l).filter f = l.filter f:=by
 induction l with
 | nil=>simp [insK,hx]
 | cons b r ih =>
   unfold insK
   split
   · rw [List.filter_cons,List.filter_cons,ih]
   · rw [List.filter_cons_of_neg (by rw [hx];simp)]
theorem filter_del {α : Type} {key : α → Int} {t : Int} {f : α → Bool} {l : List α} (h : ∀ q ∈ l,key q = t → f q = false) : (delK key t l).filter f = l.filter f:=by
 induction l with
 | nil=>rfl
 | cons b r ih =>
   unfold delK
   split
   · rw [List.filter_cons,List.filter_cons,ih fun q hq=>h q (List.mem_cons_of_mem _ hq)]
   · split
     · rename_i hk
       rw [List.filter_cons_of_neg (by rw [h b (List.mem_cons_self ..) hk];simp)]
     · rfl
theorem ofW_set {w : Wld} {id r : Int} {p : Player} (h : (ofW w id r).2 = 0) (hp : (setW w p).2 = 0) (hne : ¬ p.id = id) (hold : (playerW w p.id).2 = true → seesW w id r ((playerW w p.id).1.x / 8) ((playerW w p.id).1.y / 8) = false) (hnew : seesW w id r (p.x / 8) (p.y / 8) = false) : ofW (setW w p).1 id r = ofW w id r:=by
 obtain ⟨hr0,hr3,hR,hP,hof⟩:=ofW_ok h
 have hok:=set_ok hp
 have hsz:=hR.size
 have hU:=rw_set hok
 have hwi:=(within_iff hR).1 hok.2.2.1
 rw [seesW_in hr0 hr3 hP (by omega) (by omega)] at hnew
 rw [set_eq hok]
 have hpl : playerW (withP w (setL w.players p)) id = playerW w id:=by
   unfold playerW
   rw [if_neg (by rw [rightW_iff.2 hU];simp),if_neg (by rw [rightW_iff.2 hR];simp)]
   show (match getK pid (setL w.players p) id with|some p=>(p,true)|none=>(zeroP,false)) = _
   rw [getK_setL hR.rp,if_neg (fun e=>hne e.symm)]
   rfl
 rw [ofW_eq (w:=withP w (setL w.players p)) hr0 hr3 hU (by rw [hpl];exact hP),hof,hpl]
 have hrows : rowsV (withP w (setL w.players p)) (playerW w id).1 r w.size.toNat w.size.toNat = rowsV w (playerW w id).1 r w.size.toNat w.size.toNat:=by
   refine rowsV_congr fun x b hx hb hse=>?_
   rw [(chunkW_in (w:=withP w (setL w.players p)) hU (x:=(x : Nat)) (y:=(b : Nat)) ⟨by omega,by show (x : Int) < w.size;omega⟩ ⟨by omega,by show (b : Int) < w.size;omega⟩).1,(chunkW_in hR (x:=(x : Nat)) (y:=(b : Nat)) ⟨by omega,by omega⟩ ⟨by omega,by omega⟩).1]
   rfl
 have hoth : othV (setL w.players p) (playerW w id).1 r id (setL w.players p).length = othV w.players (playerW w id).1 r id w.players.length:=by
   unfold othV
   rw [List.take_length,List.take_length]
   congr 1
   unfold setL
   rw [filter_ins (by unfold othB;rw [hnew,Bool.and_false]),filter_del]
   intro q hq hk
   unfold othB
   have hgq:=getK_of_mem hR.rp hq
   have hk2 : pid q = p.id:=hk
   rw [hk2] at hgq
   have hq1 : playerW w p.id = (q,true):=by
     unfold playerW
     rw [if_neg (by rw [rightW_iff.2 hR];simp),hgq]
   have hqw:=(within_iff hR).1 (hR.players _ hq).2
   have h1:=hold (by rw [hq1])
   rw [hq1,seesW_in hr0 hr3 hP (by show 0 ≤ q.x / 8 ∧ q.x / 8 < _;omega) (by show 0 ≤ q.y / 8 ∧ q.y / 8 < _;omega)] at h1
   rw [h1,Bool.and_false]
 show ((⟨w.tick,(playerW w id).1,rowsV (withP w (setL w.players p)) (playerW w id).1 r w.size.toNat w.size.toNat,othV (setL w.players p) (playerW w id).1 r id (setL w.players p).length⟩ : Viw),(0 : Int)) = _
 rw [hrows,hoth]
theorem of_chunk {w : Wld} {id r : Int} (h : (ofW w id r).2 = 0) {c : Chunk} (hc : c ∈ (ofW w id r).1.chunks) : chunkW w c.x c.y = (c,true) ∧ seesW w id r c.x c.y = true:=by
 obtain ⟨hr0,hr3,hR,hP,hof⟩:=ofW_ok h
 have hsz:=hR.size
 rw [hof] at hc
 obtain ⟨v,hv,x,hx,hse,rfl⟩:=rowsV_mem hc
 obtain ⟨_,h1,h2,h3⟩:=seen_at hR (x:=x) (y:=v) (by omega) (by omega)
 rw [h1,h2]
 refine ⟨?_,by rw [seesW_in hr0 hr3 hP (by omega) (by omega)];exact hse⟩
 rw [← h3]
open Go Go.RowKit Eng
def bagLe (x : Box) : Prop:=x.bag.length ≤ 9000000000000000000
theorem OkC.bags {c : Chunk} (hc : OkC c) : ∀ x ∈ c.boxes,bagLe x:=fun x hx=>by
 have:=(hc.boxes x hx).2
 unfold big at this
 unfold bagLe;omega
end Go.Proofs.YtaecchphjploaaaGreat
