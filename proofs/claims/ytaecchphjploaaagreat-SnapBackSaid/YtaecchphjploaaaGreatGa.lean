/- The engine, first part: abstract values over memory, operations. -/
import Derived.WalkKit
import Derived.Deep.AppendSrc
import Derived.Laws.MakeOwn
set_option linter.unusedSimpArgs false
set_option linter.unusedVariables false
set_option maxRecDepth 100000
set_option maxHeartbeats 16000000
namespace Eng
open Go
structure Slot where
 item : Int
 n : Int
structure Heap where
 cell : Int
 slot : Slot
structure Box where
 cell : Int
 bag : List Slot
structure Chunk where
 x : Int
 y : Int
 cells : List Int
 heaps : List Heap
 boxes : List Box
structure Player where
 id : Int
 x : Int
 y : Int
 bag : List Slot
 wth : Int
 offer : List Slot
 agrees : Bool
structure Seen where
 id : Int
 x : Int
 y : Int
structure Cmd where
 dol : Int
 a : Int
 b : Int
 c : Int
 n : Int
structure Order where
 player : Int
 seq : Int
 cmd : Cmd
structure Reply where
 player : Int
 seq : Int
 err : Int
structure Step where
 dol : Int
 other : Bool
 pos : Int
 n : Int
structure Recipe where
 of : List Slot
 makes : Slot
structure Doo where
 id : Int
 cmd : Cmd
structure Pos where
 x : Int
 y : Int
structure Deed where
 player : Int
 nd : Int
 nr : Int
 made : List Int
structure Viw where
 tick : Int
 me : Player
 chunks : List Chunk
 others : List Seen
inductive Ty where
 | u8|i64|slot|heap|box|chunk|player|seen|cmd|order|reply|step|recipe|ints|orders|doo|deed|pos|flag|view|boxF|boxJ|boxM|chunkF|chunkJ|chunkC|chunkK
@[reducible] def El : Ty → Type
 | .u8=>Int
 | .i64=>Int
 | .slot=>Slot
 | .heap=>Heap
 | .box=>Box
 | .chunk=>Chunk
 | .player=>Player
 | .seen=>Seen
 | .cmd=>Cmd
 | .order=>Order
 | .reply=>Reply
 | .step=>Step
 | .recipe=>Recipe
 | .ints=>List Int
 | .orders=>List Order
 | .doo=>Doo
 | .deed=>Deed
 | .pos=>Pos
 | .flag=>Bool
 | .view=>Viw
 | .boxF=>Box
 | .boxJ=>Box
 | .boxM=>Bool × Box
 | .chunkF=>Chunk
 | .chunkJ=>Chunk
 | .chunkC=>Chunk
 | .chunkK=>Chunk
inductive AV where
 | top
 | tt
 | ff
 | bl (p q : Prop)
 | emp (t : Ty)
 | lit (v : Value)
 | agg (cs : List AV)
 | tup (vs : List AV)
 | vec (t : Ty) (l : List (El t))
 | own (t : Ty) (k : Nat) (off len : Nat) (c : Option Nat)
 | ptr (k : Nat) (off : Nat)
 | rptr (t : Ty) (k : Nat) (i : Nat) (off : Nat)
 | vptr (t : Ty) (l : List (El t)) (i : Nat) (off : Nat)
 | clo (fn : Fn) (first cap : List AV)
 | mp (k : Nat)
 | fec (j : Bool) (t : Ty) (l : List (El t))
 | fptr (t : Ty) (n i off : Nat)
 | sl
def i64 (n : Int) : AV:=.lit (.int .i64 n)
def u8 (n : Int) : AV:=.lit (.int .u8 n)
def bol (b : Bool) : AV:=.lit (.bool b)
def und : AV:=.lit (.tuple #[])
def bagM (f : Bool) (l : List Slot) : AV:=match f with|true=>.fec false .slot l|false=>.vec .slot l
def cells : (t : Ty) → El t → List AV
 | .u8,n=>[.lit (.int .u8 n)]
 | .i64,n=>[.lit (.int .i64 n)]
 | .slot,s=>[.lit (.int .u8 s.item),.lit (.int .i64 s.n)]
 | .heap,h=>[.lit (.int .i64 h.cell),.lit (.int .u8 h.slot.item),.lit (.int .i64 h.slot.n)]
 | .box,b=>[.lit (.int .i64 b.cell),.vec .slot b.bag]
 | .chunk,c=>[.lit (.int .i64 c.x),.lit (.int .i64 c.y),.vec .u8 c.cells,.vec .heap c.heaps,.vec .box c.boxes]
 | .player,p=>[.lit (.int .i64 p.id),.lit (.int .i64 p.x),.lit (.int .i64 p.y),.vec .slot p.bag,.lit (.int .i64 p.wth),.vec .slot p.offer,.lit (.bool p.agrees)]
 | .seen,s=>[.lit (.int .i64 s.id),.lit (.int .i64 s.x),.lit (.int .i64 s.y)]
 | .cmd,c=>[.lit (.int .u8 c.dol),.lit (.int .i64 c.a),.lit (.int .i64 c.b),.lit (.int .i64 c.c),.lit (.int .i64 c.n)]
 | .order,o=>[.lit (.int .i64 o.player),.lit (.int .i64 o.seq),.lit (.int .u8 o.cmd.dol),.lit (.int .i64 o.cmd.a),.lit (.int .i64 o.cmd.b),.lit (.int .i64 o.cmd.c),.lit (.int .i64 o.cmd.n)]
 | .reply,r=>[.lit (.int .i64 r.player),.lit (.int .i64 r.seq),.lit (.int .i64 r.err)]
 | .step,s=>[.lit (.int .i64 s.dol),.lit (.bool s.other),.lit (.int .i64 s.pos),.lit (.int .i64 s.n)]
 | .recipe,r=>[.vec .slot r.of,.lit (.int .u8 r.makes.item),.lit (.int .i64 r.makes.n)]
 | .ints,l=>[.vec .i64 l]
 | .orders,l=>[.vec .order l]
 | .doo,o=>[.lit (.int .i64 o.id),.lit (.int .u8 o.cmd.dol),.lit (.int .i64 o.cmd.a),.lit (.int .i64 o.cmd.b),.lit (.int .i64 o.cmd.c),.lit (.int .i64 o.cmd.n)]
 | .deed,d=>[.lit (.int .i64 d.player),.lit (.int .i64 d.nd),.lit (.int .i64 d.nr),.vec .i64 d.made]
 | .pos,p=>[.lit (.int .i64 p.x),.lit (.int .i64 p.y)]
 | .flag,b=>[.lit (.bool b)]
 | .view,v=>[.lit (.int .i64 v.tick),.lit (.int .i64 v.me.id),.lit (.int .i64 v.me.x),.lit (.int .i64 v.me.y),.vec .slot v.me.bag,.lit (.int .i64 v.me.wth),.vec .slot v.me.offer,.lit (.bool v.me.agrees),.vec .chunk v.chunks,.vec .seen v.others]
 | .boxF,b=>[.lit (.int .i64 b.cell),.fec false .slot b.bag]
 | .boxJ,b=>[.lit (.int .i64 b.cell),.fec true .slot b.bag]
 | .boxM,b=>[.lit (.int .i64 b.2.cell),bagM b.1 b.2.bag]
 | .chunkF,c=>[.lit (.int .i64 c.x),.lit (.int .i64 c.y),.fec false .u8 c.cells,.vec .heap c.heaps,.vec .boxF c.boxes]
 | .chunkJ,c=>[.lit (.int .i64 c.x),.lit (.int .i64 c.y),.fec true .u8 c.cells,.vec .heap c.heaps,.vec .boxJ c.boxes]
 | .chunkC,c=>[.lit (.int .i64 c.x),.lit (.int .i64 c.y),.fec false .u8 c.cells,.vec .heap c.heaps,.vec .box c.boxes]
 | .chunkK,c=>[.lit (.int .i64 c.x),.lit (.int .i64 c.y),.fec true .u8 c.cells,.vec .heap c.heaps,.vec .box c.boxes]
def csz : Ty → Nat
 | .u8=>1
 | .i64=>1
 | .slot=>2
 | .heap=>3
 | .box=>2
 | .chunk=>5
 | .player=>7
 | .seen=>3
 | .cmd=>5
 | .order=>7
 | .reply=>3
 | .step=>4
 | .recipe=>3
 | .ints=>1
 | .orders=>1
 | .doo=>6
 | .deed=>4
 | .pos=>2
 | .flag=>1
 | .view=>10
 | .boxF=>2
 | .boxJ=>2
 | .boxM=>2
 | .chunkF=>5
 | .chunkJ=>5
 | .chunkC=>5
 | .chunkK=>5
def bsz : Ty → Nat
 | .u8=>1
 | .i64=>8
 | .slot=>16
 | .heap=>24
 | .box=>32
 | .chunk=>88
 | .player=>88
 | .seen=>24
 | .cmd=>40
 | .order=>56
 | .reply=>24
 | .step=>32
 | .recipe=>40
 | .ints=>24
 | .orders=>24
 | .doo=>48
 | .deed=>48
 | .pos=>16
 | .flag=>1
 | .view=>144
 | .boxF=>32
 | .boxJ=>32
 | .boxM=>32
 | .chunkF=>88
 | .chunkJ=>88
 | .chunkC=>88
 | .chunkK=>88
theorem cells_length (t : Ty) (e : El t) : (cells t e).length = csz t:=by cases t<;>rfl
theorem csz_pos (t : Ty) : 0 < csz t:=by cases t<;>decide
def flat (t : Ty) (l : List (El t)) : List AV:=l.flatMap (cells t)
theorem flat_length (t : Ty) (l : List (El t)) : (flat t l).length = l.length * csz t:=by
 unfold flat
 induction l with
 | nil=>simp
 | cons a l ih=>rw [List.flatMap_cons,List.length_append,cells_length,ih,List.length_cons,Nat.succ_mul];omega
theorem flat_get (t : Ty) (l : List (El t)) (i : Nat) (e : El t) (h : l[i]? = some e) (j : Nat) (hj : j < csz t) :
  (flat t l)[i * csz t + j]? = (cells t e)[j]?:=by
 induction l generalizing i with
 | nil=>simp at h
 | cons a l ih =>
  cases i with
  | zero =>
   simp at h;subst h
   simp [flat,List.flatMap_cons]
   rw [List.getElem?_append_left (by rw [cells_length];exact hj)]
  | succ i =>
   simp at h
   have:=ih i h
   simp only [flat,List.flatMap_cons]
   rw [List.getElem?_append_right (by rw [cells_length,Nat.succ_mul];omega),cells_length]
   have e1 : (i + 1) * csz t + j - csz t = i * csz t + j:=by rw [Nat.succ_mul];omega
   rw [e1];exact this
def dflt : (t : Ty) → El t
 | .u8=>(0 : Int)
 | .i64=>(0 : Int)
 | .slot=>(⟨0,0⟩ : Slot)
 | .heap=>(⟨0,⟨0,0⟩⟩ : Heap)
 | .box=>(⟨0,[]⟩ : Box)
 | .chunk=>(⟨0,0,[],[],[]⟩ : Chunk)
 | .player=>(⟨0,0,0,[],0,[],false⟩ : Player)
 | .seen=>(⟨0,0,0⟩ : Seen)
 | .cmd=>(⟨0,0,0,0,0⟩ : Cmd)
 | .order=>(⟨0,0,⟨0,0,0,0,0⟩⟩ : Order)
 | .reply=>(⟨0,0,0⟩ : Reply)
 | .step=>(⟨0,false,0,0⟩ : Step)
 | .recipe=>(⟨[],⟨0,0⟩⟩ : Recipe)
 | .ints=>([] : List Int)
 | .orders=>([] : List Order)
 | .doo=>(⟨0,⟨0,0,0,0,0⟩⟩ : Doo)
 | .deed=>(⟨0,0,0,[]⟩ : Deed)
 | .pos=>(⟨0,0⟩ : Pos)
 | .flag=>false
 | .view=>(⟨0,⟨0,0,0,[],0,[],false⟩,[],[]⟩ : Viw)
 | .boxF=>(⟨0,[]⟩ : Box)
 | .boxJ=>(⟨0,[]⟩ : Box)
 | .boxM=>(true,(⟨0,[]⟩ : Box))
 | .chunkF=>(⟨0,0,[],[],[]⟩ : Chunk)
 | .chunkJ=>(⟨0,0,[],[],[]⟩ : Chunk)
 | .chunkC=>(⟨0,0,[],[],[]⟩ : Chunk)
 | .chunkK=>(⟨0,0,[],[],[]⟩ : Chunk)
instance (t : Ty) : Inhabited (El t):=⟨dflt t⟩
def toSlots : AV → Option (List Slot)
 | .vec .slot l=>some l
 | .lit (.slice none 0 _)=>some []
 | .emp _=>some []
 | _=>none
def toU8s : AV → Option (List Int)
 | .vec .u8 l=>some l
 | .lit (.slice none 0 _)=>some []
 | .emp _=>some []
 | _=>none
def toI64s : AV → Option (List Int)
 | .vec .i64 l=>some l
 | .lit (.slice none 0 _)=>some []
 | .emp _=>some []
 | _=>none
def toHeaps : AV → Option (List Heap)
 | .vec .heap l=>some l
 | .lit (.slice none 0 _)=>some []
 | .emp _=>some []
 | _=>none
def toBoxes : AV → Option (List Box)
 | .vec .box l=>some l
 | .lit (.slice none 0 _)=>some []
 | .emp _=>some []
 | _=>none
def toOrders : AV → Option (List Order)
 | .vec .order l=>some l
 | .lit (.slice none 0 _)=>some []
 | .emp _=>some []
 | _=>none
def toSlotsF : AV → Option (List Slot)
 | .fec false .slot l=>some l
 | .lit (.slice none 0 _)=>some []
 | .emp _=>some []
 | _=>none
def toU8sF : AV → Option (List Int)
 | .fec false .u8 l=>some l
 | .lit (.slice none 0 _)=>some []
 | .emp _=>some []
 | _=>none
def toBoxesF : AV → Option (List Box)
 | .vec .boxF l=>some l
 | .lit (.slice none 0 _)=>some []
 | .emp _=>some []
 | _=>none
def leafB : Ty → Bool
 | .u8=>true
 | .i64=>true
 | .slot=>true
 | .heap=>true
 | .seen=>true
 | .cmd=>true
 | .order=>true
 | .reply=>true
 | .step=>true
 | .doo=>true
 | .pos=>true
 | .flag=>true
 | _=>false
def fB : Ty → Bool
 | .boxF=>true
 | .boxJ=>true
 | .boxM=>true
 | .chunkF=>true
 | .chunkJ=>true
 | .chunkC=>true
 | .chunkK=>true
 | _=>false
def ofCells : (t : Ty) → List AV → Option (El t)
 | .u8,[.lit (.int .u8 n)]=>some n
 | .i64,[.lit (.int .i64 n)]=>some n
 | .slot,[.lit (.int .u8 i),.lit (.int .i64 n)]=>some (⟨i,n⟩ : Slot)
 | .heap,[.lit (.int .i64 c),.lit (.int .u8 i),.lit (.int .i64 n)]=>some (⟨c,⟨i,n⟩⟩ : Heap)
 | .box,[.lit (.int .i64 c),l]=>(toSlots l).map fun l=>(⟨c,l⟩ : Box)
 | .chunk,[.lit (.int .i64 x),.lit (.int .i64 y),c,h,b] =>
  match toU8s c,toHeaps h,toBoxes b with
  | some c,some h,some b=>some (⟨x,y,c,h,b⟩ : Chunk)
  | _,_,_=>none
 | .player,[.lit (.int .i64 i),.lit (.int .i64 x),.lit (.int .i64 y),b,.lit (.int .i64 w),o,.lit (.bool g)] =>
  match toSlots b,toSlots o with
  | some b,some o=>some (⟨i,x,y,b,w,o,g⟩ : Player)
  | _,_=>none
 | .seen,[.lit (.int .i64 i),.lit (.int .i64 x),.lit (.int .i64 y)]=>some (⟨i,x,y⟩ : Seen)
 | .cmd,[.lit (.int .u8 d),.lit (.int .i64 a),.lit (.int .i64 b),.lit (.int .i64 c),.lit (.int .i64 n)]=>some (⟨d,a,b,c,n⟩ : Cmd)
 | .order,[.lit (.int .i64 p),.lit (.int .i64 s),.lit (.int .u8 d),.lit (.int .i64 a),.lit (.int .i64 b),.lit (.int .i64 c),.lit (.int .i64 n)]=>some (⟨p,s,⟨d,a,b,c,n⟩⟩ : Order)
 | .reply,[.lit (.int .i64 p),.lit (.int .i64 s),.lit (.int .i64 e)]=>some (⟨p,s,e⟩ : Reply)
 | .step,[.lit (.int .i64 d),.lit (.bool o),.lit (.int .i64 p),.lit (.int .i64 n)]=>some (⟨d,o,p,n⟩ : Step)
 | .recipe,[l,.lit (.int .u8 i),.lit (.int .i64 n)]=>(toSlots l).map fun l=>(⟨l,⟨i,n⟩⟩ : Recipe)
 | .ints,[l]=>toI64s l
 | .orders,[l]=>toOrders l
 | .doo,[.lit (.int .i64 p),.lit (.int .u8 d),.lit (.int .i64 a),.lit (.int .i64 b),.lit (.int .i64 c),.lit (.int .i64 n)]=>some (⟨p,⟨d,a,b,c,n⟩⟩ : Doo)
 | .deed,[.lit (.int .i64 p),.lit (.int .i64 s),.lit (.int .i64 e),l]=>(toI64s l).map fun l=>(⟨p,s,e,l⟩ : Deed)
 | .pos,[.lit (.int .i64 x),.lit (.int .i64 y)]=>some (⟨x,y⟩ : Pos)
 | .flag,[.lit (.bool b)]=>some b
 | .boxF,[.lit (.int .i64 c),l]=>(toSlotsF l).map fun l=>(⟨c,l⟩ : Box)
 | .boxM,[.lit (.int .i64 c),l]=>match toSlotsF l with
  | some l=>some (true,(⟨c,l⟩ : Box))
  | none=>(toSlots l).map fun l=>(false,(⟨c,l⟩ : Box))
 | .chunkF,[.lit (.int .i64 x),.lit (.int .i64 y),c,h,b] =>
  match toU8sF c,toHeaps h,toBoxesF b with
  | some c,some h,some b=>some (⟨x,y,c,h,b⟩ : Chunk)
  | _,_,_=>none
 | .chunkC,[.lit (.int .i64 x),.lit (.int .i64 y),c,h,b] =>
  match toU8sF c,toHeaps h,toBoxes b with
  | some c,some h,some b=>some (⟨x,y,c,h,b⟩ : Chunk)
  | _,_,_=>none
 | _,_=>none
inductive Blk where
 | box (cs : List AV)
 | row (t : Ty) (l : List (El t))
 | mp (ks : List Value) (cs : List AV)
 | pm (ik : IntKind) (F : Int → Int → Option Int) (n : Nat)
abbrev Mem:=List (Nat × Blk)
def mget : Mem → Nat → Option Blk
 | [],_=>none
 | (i,b) :: r,k=>match Nat.beq i k with|true=>some b|false=>mget r k
def mset : Mem → Nat → Blk → Mem
 | [],k,b=>[(k,b)]
 | (i,c) :: r,k,b=>match Nat.beq i k with|true=>(k,b) :: r|false=>(i,c) :: mset r k b
def mdel : Mem → Nat → Mem
 | [],_=>[]
 | (i,c) :: r,k=>match Nat.beq i k with|true=>mdel r k|false=>(i,c) :: mdel r k
theorem nbt {a b : Nat} : Nat.beq a b = true ↔ a = b:=⟨Nat.eq_of_beq_eq_true,fun h=>h ▸ Nat.beq_refl a⟩
theorem nbf {a b : Nat} : Nat.beq a b = false ↔ a ≠ b:=
 ⟨Nat.ne_of_beq_eq_false,fun h=>by cases hb : Nat.beq a b with|true=>exact absurd (nbt.1 hb) h|false=>rfl⟩
theorem mget_mset (m : Mem) (k : Nat) (b : Blk) (j : Nat) : mget (mset m k b) j = if k = j then some b else mget m j:=by
 induction m with
 | nil =>
  simp only [mset,mget]
  by_cases h : k = j
  ·simp [nbt.2 h,h]
  ·simp [nbf.2 h,h]
 | cons p r ih =>
  obtain ⟨i,c⟩:=p
  simp only [mset]
  cases hi : Nat.beq i k with
  | true =>
   have hik:=nbt.1 hi
   subst hik
   simp only [mget]
   by_cases h : i = j
   ·simp [nbt.2 h,h]
   ·simp [nbf.2 h,h]
  | false =>
   have hik:=nbf.1 hi
   simp only [mget,ih]
   by_cases h : i = j
   ·have : ¬ k = j:=fun e=>hik (h.trans e.symm)
    simp [nbt.2 h,this]
   ·simp [nbf.2 h]
theorem mget_mdel (m : Mem) (k : Nat) (j : Nat) : mget (mdel m k) j = if k = j then none else mget m j:=by
 induction m with
 | nil=>simp [mdel,mget]
 | cons p r ih =>
  obtain ⟨i,c⟩:=p
  simp only [mdel]
  cases hi : Nat.beq i k with
  | true =>
   have hik:=nbt.1 hi
   subst hik
   simp only [ih,mget]
   by_cases h : i = j
   ·simp [h]
   ·simp [nbf.2 h,h]
  | false =>
   have hik:=nbf.1 hi
   simp only [mget,ih]
   by_cases h : i = j
   ·have : ¬ k = j:=fun e=>hik (h.trans e.symm)
    simp [nbt.2 h,this]
   ·simp [nbf.2 h]
open Go Go.RowKit
structure G where
 ro : Nat → Prop
 no : Nat → Prop
 al : Nat → Prop
 be : Nat → Nat
 sz : Nat → Nat
 fr : Nat → Prop
 jd : Nat → Nat → Prop
 fn : Nat → Prop
inductive Rep (w : World) (g : G) (lim : Nat) : AV → Value → Prop where
 | top (x : Value) : Rep w g lim .top x
 | tt : Rep w g lim .tt (.bool true)
 | ff : Rep w g lim .ff (.bool false)
 | emp (t : Ty) (a : Option Addr) : Rep w g lim (.emp t) (.slice a 0 0)
 | bl (p q : Prop) (b : Bool) (hp : b = true → p) (hq : b = false → q) : Rep w g lim (.bl p q) (.bool b)
 | lit (v : Value) : Rep w g lim (.lit v) v
 | agg (cs : List AV) (xs : Array Value) (hl : cs.length = xs.size) (h : ∀ (i : Nat) c x,cs[i]? = some c → xs[i]? = some x → Rep w g lim c x) : Rep w g lim (.agg cs) (.agg xs)
 | tup (cs : List AV) (xs : Array Value) (hl : cs.length = xs.size) (h : ∀ (i : Nat) c x,cs[i]? = some c → xs[i]? = some x → Rep w g lim c x) : Rep w g lim (.tup cs) (.tuple xs)
 | vecE (t : Ty) (a : Option Addr) (cap : Nat) : Rep w g lim (.vec t []) (.slice a 0 cap)
 | vec (t : Ty) (l : List (El t)) (b o cap : Nat) (xs : Nat → Value) (hc : l.length ≤ cap) (hr : g.ro b)
  (hw : ∀ (i : Nat) c,(flat t l)[i]? = some c → w.cell? ⟨b,o + i,none⟩ = some (xs i)) (h : ∀ (i : Nat) c,(flat t l)[i]? = some c → Rep w g lim c (xs i)) :
  Rep w g lim (.vec t l) (.slice (some ⟨b,o,none⟩) l.length cap)
 | own (t : Ty) (k off len b cap : Nat) (c : Option Nat) (hk : k < lim ∨ k % 2 = 1) (hc : len ≤ cap) (hcc : ∀ n,c = some n → cap = n) (h : g.al k → b = g.be k ∧ (off + cap) * csz t ≤ g.sz k) :
  Rep w g lim (.own t k off len c) (.slice (some ⟨b,off * csz t,none⟩) len cap)
 | ownE (t : Ty) (k off : Nat) (c : Option Nat) (ad : Option Addr) (hk : k < lim ∨ k % 2 = 1) (hcc : ∀ n,c = some n → n = 0) : Rep w g lim (.own t k off 0 c) (.slice ad 0 0)
 | ptr (k off b : Nat) (hk : k < lim ∨ k % 2 = 1) (h : g.al k → b = g.be k) : Rep w g lim (.ptr k off) (.pointer (some ⟨b,off,none⟩))
 | rptr (t : Ty) (k i off b : Nat) (hk : k < lim ∨ k % 2 = 1) (h : g.al k → b = g.be k) : Rep w g lim (.rptr t k i off) (.pointer (some ⟨b,i * csz t + off,none⟩))
 | vptr (t : Ty) (l : List (El t)) (i off b o : Nat) (xs : Nat → Value) (hr : g.ro b ∨ g.fr b)
  (hw : ∀ (i : Nat) c,(flat t l)[i]? = some c → w.cell? ⟨b,o + i,none⟩ = some (xs i)) (h : ∀ (i : Nat) c,(flat t l)[i]? = some c → Rep w g lim c (xs i)) :
  Rep w g lim (.vptr t l i off) (.pointer (some ⟨b,o + (i * csz t + off),none⟩))
 | clo (fn : Fn) (fs cs : List AV) (fs' cs' : Array Value) (hl : fs.length = fs'.size) (h : ∀ (i : Nat) c x,fs[i]? = some c → fs'[i]? = some x → Rep w g lim c x)
  (hl' : cs.length = cs'.size) (h' : ∀ (i : Nat) c x,cs[i]? = some c → cs'[i]? = some x → Rep w g lim c x) : Rep w g lim (.clo fn fs cs) (.func fn fs' cs')
 | mp (k b : Nat) (hk : k < lim ∨ k % 2 = 1) (h : g.al k → b = g.be k) : Rep w g lim (.mp k) (.map (some b))
 | fecE (j : Bool) (t : Ty) (a : Option Addr) (cap : Nat) : Rep w g lim (.fec j t []) (.slice a 0 cap)
 | fec (t : Ty) (l : List (El t)) (b o cap : Nat) (xs : Nat → Value) (hc : l.length ≤ cap) (hr : g.fr b) (hg : g.fn b ↔ leafB t = false)
  (hw : ∀ (i : Nat) c,(flat t l)[i]? = some c → w.cell? ⟨b,o + i,none⟩ = some (xs i)) (h : ∀ (i : Nat) c,(flat t l)[i]? = some c → Rep w g lim c (xs i)) :
  Rep w g lim (.fec false t l) (.slice (some ⟨b,o,none⟩) l.length cap)
 | jec (t : Ty) (l : List (El t)) (b o cap n : Nat) (hc : l.length ≤ cap) (hr : g.jd b n) (hn : o + l.length * csz t ≤ n) : Rep w g lim (.fec true t l) (.slice (some ⟨b,o,none⟩) l.length cap)
 | fptr (t : Ty) (m i off b o n : Nat) (hr : g.jd b n) (hn : o + m * csz t ≤ n) : Rep w g lim (.fptr t m i off) (.pointer (some ⟨b,o + (i * csz t + off),none⟩))
 | sl (a : Option Addr) (n c : Nat) : Rep w g lim .sl (.slice a n c)
def Le (c c' : AV) : Prop:=∀ (w : World) (g : G) (lim : Nat) (x : Value),Rep w g lim c x → Rep w g lim c' x
theorem Le.refl (c : AV) : Le c c:=fun _ _ _ _ h=>h
mutual
def men (k : Nat) : AV → Bool
 | .own _ j _ _ _=>Nat.beq j k
 | .ptr j _=>Nat.beq j k
 | .rptr _ j _ _=>Nat.beq j k
 | .mp j=>Nat.beq j k
 | .agg cs=>menL k cs
 | .tup cs=>menL k cs
 | .clo _ a b=>match menL k a with|true=>true|false=>menL k b
 | _=>false
def menL (k : Nat) : List AV → Bool
 | []=>false
 | c :: r=>match men k c with|true=>true|false=>menL k r
end
mutual
def fgt (k : Nat) : AV → AV
 | .own t j o n c=>match Nat.beq j k with|true=>.top|false=>.own t j o n c
 | .ptr j o=>match Nat.beq j k with|true=>.top|false=>.ptr j o
 | .rptr t j i o=>match Nat.beq j k with|true=>.top|false=>.rptr t j i o
 | .mp j=>match Nat.beq j k with|true=>.top|false=>.mp j
 | .agg cs=>.agg (fgtL k cs)
 | .tup cs=>.tup (fgtL k cs)
 | .clo f a b=>.clo f (fgtL k a) (fgtL k b)
 | v=>v
def fgtL (k : Nat) : List AV → List AV
 | []=>[]
 | c :: r=>fgt k c :: fgtL k r
end
theorem menL_get {k : Nat} {cs : List AV} {i : Nat} {c : AV} (h : cs[i]? = some c) (hm : men k c = true) : menL k cs = true:=by
 induction cs generalizing i with
 | nil=>simp at h
 | cons a r ih =>
  simp only [menL]
  cases i with
  | zero=>simp at h;subst h;simp [hm]
  | succ i =>
   simp at h
   cases men k a with
   | true=>rfl
   | false=>exact ih h
theorem men_cells {t : Ty} {e : El t} {c : AV} (h : c ∈ cells t e) (k : Nat) : men k c = false:=by
 cases t
 case boxM=>obtain ⟨f,e⟩:=e;cases f<;>simp [cells,bagM] at h<;>(repeat' (first|(subst h;rfl)|(rcases h with h|h)))
 all_goals simp [cells] at h<;>(repeat' (first|(subst h;rfl)|(rcases h with h|h)))
theorem men_flat {t : Ty} {l : List (El t)} {i : Nat} {c : AV} (h : (flat t l)[i]? = some c) (k : Nat) : men k c = false:=by
 have hm:=List.mem_of_getElem? h
 simp only [flat,List.mem_flatMap] at hm
 obtain ⟨e,_,hc⟩:=hm
 exact men_cells hc k
mutual
def nofV : AV → Bool
 | .vec t _=>match fB t with|true=>false|false=>true
 | .vptr _ _ _ _=>false
 | .fec _ _ _=>false
 | .fptr _ _ _ _=>false
 | .agg cs=>nofL cs
 | .tup cs=>nofL cs
 | .clo _ a b=>match nofL a with|true=>nofL b|false=>false
 | _=>true
def nofL : List AV → Bool
 | []=>true
 | c :: r=>match nofV c with|true=>nofL r|false=>false
end
theorem nofL_get {cs : List AV} (h : nofL cs = true) {i : Nat} {c : AV} (hc : cs[i]? = some c) : nofV c = true:=by
 induction cs generalizing i with
 | nil=>simp at hc
 | cons a r ih =>
  simp only [nofL] at h
  cases ha : nofV a with
  | false=>rw [ha] at h;cases h
  | true =>
   rw [ha] at h
   cases i with
   | zero=>simp at hc;subst hc;exact ha
   | succ i=>simp at hc;exact ih h hc
theorem nof_cells {t : Ty} (ht : fB t = false) {e : El t} {c : AV} (h : c ∈ cells t e) : nofV c = true:=by
 cases t<;>first|(cases ht;done)|(simp [cells] at h<;>(repeat' (first|(subst h;rfl)|(rcases h with h|h))))
theorem nof_flat {t : Ty} (ht : fB t = false) {l : List (El t)} {i : Nat} {c : AV} (h : (flat t l)[i]? = some c) : nofV c = true:=by
 have hm:=List.mem_of_getElem? h
 simp only [flat,List.mem_flatMap] at hm
 obtain ⟨e,_,hc⟩:=hm
 exact nof_cells ht hc
theorem nof_fB {t : Ty} (h : (match fB t with|true=>false|false=>true) = true) : fB t = false:=by
 cases hb : fB t with
 | false=>rfl
 | true=>rw [hb] at h;cases h
structure KeepsW (w w' : World) (g g' : G) : Prop where
 ro : ∀ b,g.ro b → g'.ro b
 same : ∀ b,g.ro b → w'.heap[b]? = w.heap[b]?
structure KeepsF (w w' : World) (g g' : G) : Prop where
 fr : ∀ b,g.fr b → g'.fr b ∧ w'.heap[b]? = w.heap[b]?
 jd : ∀ b n,g.jd b n → g'.jd b n
 fn : ∀ b,g.fr b → (g'.fn b ↔ g.fn b)
structure Keeps (w w' : World) (g g' : G) : Prop where
 ro : ∀ b,g.ro b → g'.ro b
 same : ∀ b,g.ro b → w'.heap[b]? = w.heap[b]?
 f : KeepsF w w' g g'
theorem Keeps.w {w w' : World} {g g' : G} (h : Keeps w w' g g') : KeepsW w w' g g':=⟨h.ro,h.same⟩
theorem KeepsF.id {w : World} {g g' : G} (h1 : g'.fr = g.fr:=by rfl) (h2 : g'.jd = g.jd:=by rfl) (h3 : g'.fn = g.fn:=by rfl) : KeepsF w w g g':=
 ⟨fun b h=>⟨by rw [h1];exact h,rfl⟩,fun b n h=>by rw [h2];exact h,fun b _=>by rw [h3]⟩
theorem KeepsF.of {w w' : World} {g g' : G} (hs : ∀ b,g.fr b → w'.heap[b]? = w.heap[b]?) (h1 : g'.fr = g.fr:=by rfl) (h2 : g'.jd = g.jd:=by rfl) (h3 : g'.fn = g.fn:=by rfl) : KeepsF w w' g g':=
 ⟨fun b h=>⟨by rw [h1];exact h,hs b h⟩,fun b n h=>by rw [h2];exact h,fun b _=>by rw [h3]⟩
theorem Keeps.ofS {w w' : World} {g g' : G} (hs : ∀ b,g.ro b ∨ g.fr b → w'.heap[b]? = w.heap[b]?) (h0 : g'.ro = g.ro:=by rfl) (h1 : g'.fr = g.fr:=by rfl) (h2 : g'.jd = g.jd:=by rfl) (h3 : g'.fn = g.fn:=by rfl) : Keeps w w' g g':=
 ⟨fun b h=>by rw [h0];exact h,fun b hb=>hs b (.inl hb),.of (fun b hb=>hs b (.inr hb)) h1 h2 h3⟩
theorem Rep.monoF {w w' : World} {g g' : G} {lim lim' : Nat} {v : AV} {x : Value} (hk : KeepsW w w' g g') (hlim : lim ≤ lim') (h : Rep w g lim v x) (hF : nofV v = true ∨ KeepsF w w' g g')
  (hal : ∀ k,men k v = true → (k < lim ∨ k % 2 = 1) → g'.al k → g.al k ∧ g'.be k = g.be k ∧ g'.sz k = g.sz k) : Rep w' g' lim' v x:=by
 induction h with
 | top x=>exact .top x
 | tt=>exact .tt
 | ff=>exact .ff
 | lit v=>exact .lit v
 | agg cs xs hl h ih=>exact .agg cs xs hl fun i c x hc hx=>ih i c x hc hx (hF.imp (fun h=>nofL_get h hc) fun h=>h) fun k hm hkl ha=>hal k (by simpa [men] using menL_get hc hm) hkl ha
 | tup cs xs hl h ih=>exact .tup cs xs hl fun i c x hc hx=>ih i c x hc hx (hF.imp (fun h=>nofL_get h hc) fun h=>h) fun k hm hkl ha=>hal k (by simpa [men] using menL_get hc hm) hkl ha
 | vecE t a cap=>exact .vecE t a cap
 | vec t l b o cap xs hc hr hw h ih =>
  exact .vec t l b o cap xs hc (hk.ro b hr) (fun i c hi=>by rw [World.cell?_of_block (w:=w) (hk.same b hr)];exact hw i c hi)
   fun i c hi=>ih i c hi (hF.imp (fun h=>nof_flat (nof_fB h) hi) fun h=>h) fun k hm=>by rw [men_flat hi] at hm;cases hm
 | emp t a=>exact .emp t a
 | bl p q b hp hq=>exact .bl p q b hp hq
 | own t k off len b cap c hkl hc hcc h =>
  exact .own t k off len b cap c (by omega) hc hcc fun ha=>by
   obtain ⟨e1,e2,e3⟩:=hal k (by simp [men]) hkl ha
   rw [e2,e3];exact h e1
 | ownE t k off c ad hkl hcc=>exact .ownE t k off c ad (by omega) hcc
 | ptr k off b hkl h =>
  exact .ptr k off b (by omega) fun ha=>by
   obtain ⟨e1,e2,e3⟩:=hal k (by simp [men]) hkl ha
   rw [e2];exact h e1
 | rptr t k i off b hkl h =>
  exact .rptr t k i off b (by omega) fun ha=>by
   obtain ⟨e1,e2,e3⟩:=hal k (by simp [men]) hkl ha
   rw [e2];exact h e1
 | vptr t l i off b o xs hr hw h ih =>
  rcases hF with hF|hF
  ·cases hF
  have hs : w'.heap[b]? = w.heap[b]?:=hr.elim (hk.same b) fun h=>(hF.fr b h).2
  exact .vptr t l i off b o xs (hr.imp (hk.ro b) fun h=>(hF.fr b h).1) (fun i c hi=>by rw [World.cell?_of_block (w:=w) hs];exact hw i c hi)
   fun i c hi=>ih i c hi (.inr hF) fun k hm=>by rw [men_flat hi] at hm;cases hm
 | mp k b hkl h =>
  exact .mp k b (by omega) fun ha=>by
   obtain ⟨e1,e2,e3⟩:=hal k (by simp [men]) hkl ha
   rw [e2];exact h e1
 | clo fn fs cs fs' cs' hl h hl' h' ih ih' =>
  have hF2 : (nofL fs = true ∧ nofL cs = true) ∨ KeepsF w w' g g':=hF.imp (fun h=>by
   simp only [nofV] at h
   cases hf : nofL fs with
   | false=>rw [hf] at h;cases h
   | true=>rw [hf] at h;exact ⟨rfl,h⟩) fun h=>h
  exact .clo fn fs cs fs' cs' hl (fun i c x hc hx=>ih i c x hc hx (hF2.imp (fun h=>nofL_get h.1 hc) fun h=>h) fun k hm hkl ha=>hal k (by simp [men,menL_get hc hm]) hkl ha)
   hl' (fun i c x hc hx=>ih' i c x hc hx (hF2.imp (fun h=>nofL_get h.2 hc) fun h=>h) fun k hm hkl ha=>hal k (by simp only [men,menL_get hc hm];split<;>rfl) hkl ha)
 | fecE j t a cap=>exact .fecE j t a cap
 | fec t l b o cap xs hc hr hg hw h ih =>
  rcases hF with hF|hF
  ·cases hF
  exact .fec t l b o cap xs hc (hF.fr b hr).1 ((hF.fn b hr).trans hg) (fun i c hi=>by rw [World.cell?_of_block (w:=w) (hF.fr b hr).2];exact hw i c hi)
   fun i c hi=>ih i c hi (.inr hF) fun k hm=>by rw [men_flat hi] at hm;cases hm
 | jec t l b o cap n hc hr hn =>
  rcases hF with hF|hF
  ·cases hF
  exact .jec t l b o cap n hc (hF.jd b n hr) hn
 | fptr t m i off b o n hr hn =>
  rcases hF with hF|hF
  ·cases hF
  exact .fptr t m i off b o n (hF.jd b n hr) hn
 | sl a n c=>exact .sl a n c
theorem Rep.mono' {w w' : World} {g g' : G} {lim lim' : Nat} {v : AV} {x : Value} (hk : Keeps w w' g g') (hlim : lim ≤ lim') (h : Rep w g lim v x)
  (hal : ∀ k,men k v = true → (k < lim ∨ k % 2 = 1) → g'.al k → g.al k ∧ g'.be k = g.be k ∧ g'.sz k = g.sz k) : Rep w' g' lim' v x:=
 Rep.monoF hk.w hlim h (.inr hk.f) hal
theorem Rep.mono {w w' : World} {g g' : G} {lim lim' : Nat} {v : AV} {x : Value} (h : Rep w g lim v x) (hk : Keeps w w' g g') (hlim : lim ≤ lim')
  (hal : ∀ k,(k < lim ∨ k % 2 = 1) → g'.al k → g.al k ∧ g'.be k = g.be k ∧ g'.sz k = g.sz k) : Rep w' g' lim' v x:=
 Rep.mono' hk hlim h fun k _ hl ha=>hal k hl ha
theorem fgtL_get {k : Nat} {cs : List AV} {i : Nat} {c : AV} (h : (fgtL k cs)[i]? = some c) : ∃ c',cs[i]? = some c' ∧ c = fgt k c':=by
 induction cs generalizing i with
 | nil=>simp [fgtL] at h
 | cons a r ih =>
  simp only [fgtL] at h
  cases i with
  | zero=>simp at h;exact ⟨a,by simp,h.symm⟩
  | succ i=>simp at h;simpa using ih h
theorem fgtL_length (k : Nat) (cs : List AV) : (fgtL k cs).length = cs.length:=by
 induction cs with
 | nil=>rfl
 | cons a r ih=>simp [fgtL,ih]
theorem Rep.fgt {w : World} {g : G} {lim : Nat} {v : AV} {x : Value} (k : Nat) (h : Rep w g lim v x) : Rep w g lim (fgt k v) x:=by
 induction h with
 | top x=>exact .top x
 | tt=>exact .tt
 | ff=>exact .ff
 | lit v=>exact .lit v
 | agg cs xs hl h ih=>exact .agg _ xs (by rw [fgtL_length];exact hl) fun i c x hc hx=>by obtain ⟨c',h1,rfl⟩:=fgtL_get hc;exact ih i c' x h1 hx
 | tup cs xs hl h ih=>exact .tup _ xs (by rw [fgtL_length];exact hl) fun i c x hc hx=>by obtain ⟨c',h1,rfl⟩:=fgtL_get hc;exact ih i c' x h1 hx
 | vecE t a cap=>exact .vecE t a cap
 | vec t l b o cap xs hc hr hw h ih=>exact .vec t l b o cap xs hc hr hw h
 | emp t a=>exact .emp t a
 | bl p q b hp hq=>exact .bl p q b hp hq
 | own t j off len b cap c hkl hc hcc h=>(simp only [Eng.fgt];split<;>first|exact .top _|exact .own t j off len b cap c hkl hc hcc h)
 | ownE t j off c ad hkl hcc=>(simp only [Eng.fgt];split<;>first|exact .top _|exact .ownE t j off c ad hkl hcc)
 | ptr j off b hkl h=>(simp only [Eng.fgt];split<;>first|exact .top _|exact .ptr j off b hkl h)
 | rptr t j i off b hkl h=>(simp only [Eng.fgt];split<;>first|exact .top _|exact .rptr t j i off b hkl h)
 | vptr t l i off b o xs hr hw h ih=>exact .vptr t l i off b o xs hr hw h
 | fecE j t a cap=>exact .fecE j t a cap
 | fec t l b o cap xs hc hr hg hw h ih=>exact .fec t l b o cap xs hc hr hg hw h
 | jec t l b o cap n hc hr hn=>exact .jec t l b o cap n hc hr hn
 | fptr t m i off b o n hr hn=>exact .fptr t m i off b o n hr hn
 | sl a n c=>exact .sl a n c
 | mp j b hkl h=>(simp only [Eng.fgt];split<;>first|exact .top _|exact .mp j b hkl h)
 | clo fn fs cs fs' cs' hl h hl' h' ih ih' =>
  exact .clo fn _ _ fs' cs' (by rw [fgtL_length];exact hl) (fun i c x hc hx=>by obtain ⟨c',h1,rfl⟩:=fgtL_get hc;exact ih i c' x h1 hx)
   (by rw [fgtL_length];exact hl') (fun i c x hc hx=>by obtain ⟨c',h1,rfl⟩:=fgtL_get hc;exact ih' i c' x h1 hx)
mutual
theorem men_fgt (k : Nat) : ∀ v : AV,men k (fgt k v) = false
 | .top=>rfl
 | .tt=>rfl
 | .ff=>rfl
 | .lit _=>rfl
 | .agg cs=>by simp only [fgt,men];exact menL_fgtL k cs
 | .tup cs=>by simp only [fgt,men];exact menL_fgtL k cs
 | .vec _ _=>rfl
 | .emp _=>rfl
 | .bl _ _=>rfl
 | .own t j o n c=>by simp only [fgt];cases h : Nat.beq j k<;>simp [men,h]
 | .ptr j o=>by simp only [fgt];cases h : Nat.beq j k<;>simp [men,h]
 | .rptr t j i o=>by simp only [fgt];cases h : Nat.beq j k<;>simp [men,h]
 | .vptr _ _ _ _=>rfl
 | .fec _ _ _=>rfl
 | .fptr _ _ _ _=>rfl
 | .sl=>rfl
 | .mp j=>by simp only [fgt];cases h : Nat.beq j k<;>simp [men,h]
 | .clo f a b=>by simp only [fgt,men];rw [menL_fgtL k a,menL_fgtL k b]
theorem menL_fgtL (k : Nat) : ∀ cs : List AV,menL k (fgtL k cs) = false
 | []=>rfl
 | c :: r=>by simp only [fgtL,menL];rw [men_fgt k c,menL_fgtL k r]
end
def prV (x y : Int) : Value:=.agg #[.int .i64 x,.int .i64 y]
structure PmOk (ik : IntKind) (F : Int → Int → Option Int) (l : List MapEntry) : Prop where
 ent : ∀ e ∈ l,∃ x y z,e.key = prV x y ∧ e.val = .int ik z ∧ F x y = some z
 has : ∀ x y z,F x y = some z → ∃ e ∈ l,e.key = prV x y
 one : ∀ (i j : Nat) (e f : MapEntry),l[i]? = some e → l[j]? = some f → e.key = f.key → i = j
def BlkRep (w : World) (g : G) (lim : Nat) (b n : Nat) : Blk → Prop
 | .box cs=>0 < n ∧ ∃ (c : Array Value) (ty : TypeId),w.heap[b]? = some (.cells c ty (0,0)) ∧ c.size = n ∧ cs.length ≤ n ∧ ∀ (i : Nat) a x,cs[i]? = some a → c[i]? = some x → Rep w g lim a x
 | .row t l=>(n = 0 ∧ l = []) ∨ (0 < n ∧ ∃ (c : Array Value) (ty : TypeId),w.heap[b]? = some (.cells c ty (0,0)) ∧ c.size = n ∧ (flat t l).length ≤ n ∧ ∀ (i : Nat) a x,(flat t l)[i]? = some a → c[i]? = some x → Rep w g lim a x)
 | .mp ks cs=>0 < n ∧ ks.length = cs.length ∧ ∃ (c : Array MapEntry) (clock : Nat),w.heap[b]? = some (.map c clock) ∧ c.size = cs.length ∧ (∀ (i : Nat) k x,ks[i]? = some k → c[i]? = some x → x.key = k) ∧ ∀ (i : Nat) a x,cs[i]? = some a → c[i]? = some x → Rep w g lim a x.val
 | .pm ik F m=>0 < n ∧ ∃ (c : Array MapEntry) (clock : Nat),w.heap[b]? = some (.map c clock) ∧ c.size = m ∧ PmOk ik F c.toList
theorem flat_nil {t : Ty} {l : List (El t)} (h : (flat t l).length ≤ 0) : l = []:=by
 rw [flat_length] at h
 have h2:=csz_pos t
 cases l with
 | nil=>rfl
 | cons a r=>rw [List.length_cons,Nat.succ_mul] at h;omega
theorem BlkRep.mkRow {w : World} {g : G} {lim b n : Nat} {t : Ty} {l : List (El t)} (h : ∃ (c : Array Value) (ty : TypeId),w.heap[b]? = some (.cells c ty (0,0)) ∧ c.size = n ∧ (flat t l).length ≤ n ∧ ∀ (i : Nat) a x,(flat t l)[i]? = some a → c[i]? = some x → Rep w g lim a x) : BlkRep w g lim b n (.row t l):=by
 rcases Nat.eq_zero_or_pos n with h0|h0
 ·obtain ⟨c,ty,_,_,h3,_⟩:=h
  exact .inl ⟨h0,flat_nil (by omega)⟩
 ·exact .inr ⟨h0,h⟩
theorem BlkRep.getRow {w : World} {g : G} {lim b n : Nat} {t : Ty} {l : List (El t)} (h : BlkRep w g lim b n (.row t l)) (h0 : 0 < n) : ∃ (c : Array Value) (ty : TypeId),w.heap[b]? = some (.cells c ty (0,0)) ∧ c.size = n ∧ (flat t l).length ≤ n ∧ ∀ (i : Nat) a x,(flat t l)[i]? = some a → c[i]? = some x → Rep w g lim a x:=by
 rcases h with h|h
 ·omega
 ·exact h.2
theorem BlkRep.le {w : World} {g : G} {lim b n : Nat} {t : Ty} {l : List (El t)} (h : BlkRep w g lim b n (.row t l)) : l.length * csz t ≤ n:=by
 rcases h with ⟨_,rfl⟩|⟨_,c,ty,_,_,h3,_⟩
 ·simp
 ·rw [flat_length] at h3;exact h3
theorem BlkRep.in {w : World} {g : G} {lim b n : Nat} {bl : Blk} (h : BlkRep w g lim b n bl) (h0 : 0 < n) : b < w.heap.size:=by
 cases bl with
 | box cs=>obtain ⟨_,c,ty,h1,_⟩:=h;exact (Array.getElem?_eq_some_iff.1 h1).1
 | row t l=>obtain ⟨c,ty,h1,_⟩:=h.getRow h0;exact (Array.getElem?_eq_some_iff.1 h1).1
 | mp ks cs=>obtain ⟨_,_,c,cl,h1,_⟩:=h;exact (Array.getElem?_eq_some_iff.1 h1).1
 | pm ik F m=>obtain ⟨_,c,cl,h1,_⟩:=h;exact (Array.getElem?_eq_some_iff.1 h1).1
def menB (k : Nat) : Blk → Bool
 | .box cs=>menL k cs
 | .row _ _=>false
 | .mp _ cs=>menL k cs
 | .pm _ _ _=>false
def fgtB (k : Nat) : Blk → Blk
 | .box cs=>.box (fgtL k cs)
 | .row t l=>.row t l
 | .mp ks cs=>.mp ks (fgtL k cs)
 | .pm ik F n=>.pm ik F n
structure FJ (w : World) (g : G) : Prop where
 fz : ∀ b,g.fr b → ∃ c ty,w.heap[b]? = some (.cells c ty (0,0))
 jz : ∀ b n,g.jd b n → ∃ c ty,w.heap[b]? = some (.cells c ty (0,0)) ∧ c.size = n
 jf : ∀ b n,g.jd b n → ¬ g.fr b
 nro : ∀ b,(g.fr b ∨ ∃ n,g.jd b n) → ¬ g.ro b ∧ ¬ g.no b
 nal : ∀ b,(g.fr b ∨ ∃ n,g.jd b n) → ∀ k,g.al k → 0 < g.sz k → g.be k ≠ b
theorem FJ.lt {w : World} {g : G} (h : FJ w g) {b : Nat} (hb : g.fr b ∨ ∃ n,g.jd b n) : b < w.heap.size:=by
 rcases hb with hb|⟨n,hb⟩
 ·obtain ⟨c,ty,h1⟩:=h.fz b hb;exact (Array.getElem?_eq_some_iff.1 h1).1
 ·obtain ⟨c,ty,h1,_⟩:=h.jz b n hb;exact (Array.getElem?_eq_some_iff.1 h1).1
theorem FJ.step {w w' : World} {g g' : G} (h : FJ w g) (hw : ∀ b,(g.fr b ∨ ∃ n,g.jd b n) → w'.heap[b]? = w.heap[b]?)
  (hro : ∀ b,(g.fr b ∨ ∃ n,g.jd b n) → ¬ g'.ro b ∧ ¬ g'.no b) (hal : ∀ b,(g.fr b ∨ ∃ n,g.jd b n) → ∀ k,g'.al k → 0 < g'.sz k → g'.be k ≠ b)
  (h1 : g'.fr = g.fr:=by rfl) (h2 : g'.jd = g.jd:=by rfl) : FJ w' g':=by
 refine ⟨fun b hb=>?_,fun b n hb=>?_,fun b n hb hf=>?_,fun b hb=>?_,fun b hb=>?_⟩
 ·rw [h1] at hb
  obtain ⟨c,ty,h3⟩:=h.fz b hb
  exact ⟨c,ty,(hw b (.inl hb)).trans h3⟩
 ·rw [h2] at hb
  obtain ⟨c,ty,h3,h4⟩:=h.jz b n hb
  exact ⟨c,ty,(hw b (.inr ⟨n,hb⟩)).trans h3,h4⟩
 ·rw [h2] at hb;rw [h1] at hf;exact h.jf b n hb hf
 ·rw [h1,h2] at hb;exact hro b hb
 ·rw [h1,h2] at hb;exact hal b hb
theorem FJ.none {w : World} {g : G} (h1 : ∀ b,¬ g.fr b) (h2 : ∀ b n,¬ g.jd b n) : FJ w g:=
 ⟨fun b hb=>(h1 b hb).elim,fun b n hb=>(h2 b n hb).elim,fun b n hb=>(h2 b n hb).elim,fun b hb=>by
  rcases hb with hb|⟨n,hb⟩
  ·exact (h1 b hb).elim
  ·exact (h2 b n hb).elim,fun b hb=>by
  rcases hb with hb|⟨n,hb⟩
  ·exact (h1 b hb).elim
  ·exact (h2 b n hb).elim⟩
theorem FJ.join {w w' : World} {g g' g2 : G} (h : FJ w g) (h' : FJ w' g') (hold : ∀ b,(g.fr b ∨ ∃ n,g.jd b n) → w'.heap[b]? = w.heap[b]?) (hno : ∀ b,(g.fr b ∨ ∃ n,g.jd b n) → g'.no b)
  (hro : ∀ b,((g.fr b ∨ ∃ n,g.jd b n) ∨ (g'.fr b ∨ ∃ n,g'.jd b n)) → ¬ g2.ro b ∧ ¬ g2.no b) (hal : ∀ b,((g.fr b ∨ ∃ n,g.jd b n) ∨ (g'.fr b ∨ ∃ n,g'.jd b n)) → ∀ k,g2.al k → 0 < g2.sz k → g2.be k ≠ b)
  (h1 : g2.fr = fun b=>g.fr b ∨ g'.fr b:=by rfl) (h2 : g2.jd = fun b n=>g.jd b n ∨ g'.jd b n:=by rfl) : FJ w' g2:=by
 have key : ∀ b,(g2.fr b ∨ ∃ n,g2.jd b n) → (g.fr b ∨ ∃ n,g.jd b n) ∨ (g'.fr b ∨ ∃ n,g'.jd b n):=fun b hb=>by
  rw [h1,h2] at hb
  rcases hb with (hb|hb)|⟨n,hb|hb⟩
  ·exact .inl (.inl hb)
  ·exact .inr (.inl hb)
  ·exact .inl (.inr ⟨n,hb⟩)
  ·exact .inr (.inr ⟨n,hb⟩)
 refine ⟨fun b hb=>?_,fun b n hb=>?_,fun b n hb hf=>?_,fun b hb=>hro b (key b hb),fun b hb=>hal b (key b hb)⟩
 ·rw [h1] at hb
  rcases hb with hb|hb
  ·obtain ⟨c,ty,h3⟩:=h.fz b hb
   exact ⟨c,ty,(hold b (.inl hb)).trans h3⟩
  ·exact h'.fz b hb
 ·rw [h2] at hb
  rcases hb with hb|hb
  ·obtain ⟨c,ty,h3,h4⟩:=h.jz b n hb
   exact ⟨c,ty,(hold b (.inr ⟨n,hb⟩)).trans h3,h4⟩
  ·exact h'.jz b n hb
 ·rw [h2] at hb;rw [h1] at hf
  rcases hb with hb|hb<;>rcases hf with hf|hf
  ·exact h.jf b n hb hf
  ·exact (h'.nro b (.inl hf)).2 (hno b (.inr ⟨n,hb⟩))
  ·exact (h'.nro b (.inr ⟨n,hb⟩)).2 (hno b (.inl hf))
  ·exact h'.jf b n hb hf
structure MSim (w : World) (g : G) (lim : Nat) (m : Nat → Option Blk) : Prop where
 al : ∀ k,g.al k ↔ (m k).isSome
 lt : ∀ k,g.al k → k < lim ∨ k % 2 = 1
 nro : ∀ k,g.al k → 0 < g.sz k → ¬ g.ro (g.be k)
 inj : ∀ k j,g.al k → g.al j → 0 < g.sz k → 0 < g.sz j → g.be k = g.be j → k = j
 blk : ∀ k b,m k = some b → BlkRep w g lim (g.be k) (g.sz k) b
 rolt : ∀ b,g.ro b → b < w.heap.size
 nof : ∀ b,g.no b → b < w.heap.size ∧ ¬ g.ro b ∧ ∀ k,g.al k → 0 < g.sz k → g.be k ≠ b
 fj : FJ w g
structure Tr (g : G) (w w' : World) : Prop where
 os : w'.os = w.os
 tape : w'.tape = w.tape
 output : w'.output = w.output
 size : w.heap.size ≤ w'.heap.size ∧ w.drawn ≤ w'.drawn
 same : ∀ b,g.ro b → w'.heap[b]? = w.heap[b]?
 others : ∀ b,g.no b → w'.heap[b]? = w.heap[b]?
structure LeG (base : Nat) (g g' : G) : Prop where
 ro : ∀ b,g.ro b → g'.ro b
 no : ∀ b,g.no b → g'.no b
 al : ∀ k,k < base → g'.al k → g.al k ∧ g'.be k = g.be k ∧ g'.sz k = g.sz k
theorem Tr.refl (g : G) (w : World) : Tr g w w:=⟨rfl,rfl,rfl,⟨Nat.le_refl _,Nat.le_refl _⟩,fun _ _=>rfl,fun _ _=>rfl⟩
theorem Tr.trans {g g' : G} {base : Nat} {w w' w'' : World} (h : Tr g w w') (hg : LeG base g g') (h' : Tr g' w' w'') : Tr g w w'':=
 ⟨h'.os.trans h.os,h'.tape.trans h.tape,h'.output.trans h.output,⟨Nat.le_trans h.size.1 h'.size.1,Nat.le_trans h.size.2 h'.size.2⟩,fun b hb=>(h'.same b (hg.ro b hb)).trans (h.same b hb),fun b hb=>(h'.others b (hg.no b hb)).trans (h.others b hb)⟩
theorem LeG.refl (base : Nat) (g : G) : LeG base g g:=⟨fun _ h=>h,fun _ h=>h,fun _ _ h=>⟨h,rfl,rfl⟩⟩
theorem LeG.trans {base : Nat} {g g' g'' : G} (h : LeG base g g') (h' : LeG base g' g'') : LeG base g g'':=
 ⟨fun b hb=>h'.ro b (h.ro b hb),fun b hb=>h'.no b (h.no b hb),fun k hk ha=>by
  obtain ⟨a1,a2,a3⟩:=h'.al k hk ha
  obtain ⟨b1,b2,b3⟩:=h.al k hk a1
  exact ⟨b1,a2.trans b2,a3.trans b3⟩⟩
theorem LeG.mono {base base' : Nat} {g g' : G} (h : LeG base g g') (hb : base' ≤ base) : LeG base' g g':=
 ⟨h.ro,h.no,fun k hk ha=>h.al k (by omega) ha⟩
theorem LeG.keeps {base : Nat} {g g' : G} {w w' : World} (h : LeG base g g') (ht : Tr g w w') : KeepsW w w' g g':=⟨h.ro,ht.same⟩
def RepL (w : World) (g : G) (lim : Nat) (cs : List AV) (xs : Array Value) : Prop:=
 cs.length = xs.size ∧ ∀ (i : Nat) c x,cs[i]? = some c → xs[i]? = some x → Rep w g lim c x
theorem RepL.mono {w w' : World} {g g' : G} {lim lim' : Nat} {cs : List AV} {xs : Array Value} (h : RepL w g lim cs xs) (hk : Keeps w w' g g') (hlim : lim ≤ lim')
  (hal : ∀ k,(k < lim ∨ k % 2 = 1) → g'.al k → g.al k ∧ g'.be k = g.be k ∧ g'.sz k = g.sz k) : RepL w' g' lim' cs xs:=
 ⟨h.1,fun i c x hc hx=>(h.2 i c x hc hx).mono hk hlim hal⟩
open Go Go.RowKit
structure Sim (w : World) (g : G) (lim : Nat) (f : List AV) (m : Nat → Option Blk) (a : Act) : Prop where
 fr : RepL w g lim f a.tmps
 df : a.defers = []
 me : MSim w g lim m
def fgtM (k : Nat) (m : Nat → Option Blk) : Nat → Option Blk:=fun j=>(m j).map (fgtB k)
def put (m : Nat → Option Blk) (k : Nat) (b : Option Blk) : Nat → Option Blk:=fun j=>if k = j then b else m j
theorem BlkRep.mono' {w w' : World} {g g' : G} {lim lim' b n : Nat} {bl : Blk} (h : BlkRep w g lim b n bl) (hk : Keeps w w' g g') (hlim : lim ≤ lim')
  (hb : 0 < n → w'.heap[b]? = w.heap[b]?) (hal : ∀ k,menB k bl = true → (k < lim ∨ k % 2 = 1) → g'.al k → g.al k ∧ g'.be k = g.be k ∧ g'.sz k = g.sz k) : BlkRep w' g' lim' b n bl:=by
 cases bl with
 | box cs =>
  obtain ⟨h0,c,ty,h1,h2,h3,h4⟩:=h
  exact ⟨h0,c,ty,(hb h0).trans h1,h2,h3,fun i a x ha hx=>(h4 i a x ha hx).mono' hk hlim fun k hm=>hal k (by simpa [menB] using menL_get ha hm)⟩
 | row t l =>
  rcases h with h|⟨h0,c,ty,h1,h2,h3,h4⟩
  ·exact .inl h
  exact .inr ⟨h0,c,ty,(hb h0).trans h1,h2,h3,fun i a x ha hx=>(h4 i a x ha hx).mono' hk hlim fun k hm=>by rw [men_flat ha] at hm;cases hm⟩
 | mp ks cs =>
  obtain ⟨h0,hl,c,ty,h1,h2,h3,h4⟩:=h
  exact ⟨h0,hl,c,ty,(hb h0).trans h1,h2,h3,fun i a x ha hx=>(h4 i a x ha hx).mono' hk hlim fun k hm=>hal k (by simpa [menB] using menL_get ha hm)⟩
 | pm ik F m =>
  obtain ⟨h0,c,ty,h1,h2⟩:=h
  exact ⟨h0,c,ty,(hb h0).trans h1,h2⟩
theorem BlkRep.fgt {w : World} {g : G} {lim b n : Nat} {bl : Blk} (k : Nat) (h : BlkRep w g lim b n bl) : BlkRep w g lim b n (fgtB k bl):=by
 cases bl with
 | box cs =>
  obtain ⟨h0,c,ty,h1,h2,h3,h4⟩:=h
  exact ⟨h0,c,ty,h1,h2,by rw [fgtL_length];exact h3,fun i a x ha hx=>by obtain ⟨a',h5,rfl⟩:=fgtL_get ha;exact (h4 i a' x h5 hx).fgt k⟩
 | row t l=>exact h
 | mp ks cs =>
  obtain ⟨h0,hl,c,ty,h1,h2,h3,h4⟩:=h
  exact ⟨h0,by rw [fgtL_length];exact hl,c,ty,h1,by rw [fgtL_length];exact h2,h3,fun i a x ha hx=>by obtain ⟨a',h5,rfl⟩:=fgtL_get ha;exact (h4 i a' x h5 hx).fgt k⟩
 | pm ik F m=>exact h
theorem menB_fgtB (k : Nat) (b : Blk) : menB k (fgtB k b) = false:=by
 cases b with
 | box cs=>exact menL_fgtL k cs
 | row t l=>rfl
 | mp ks cs=>exact menL_fgtL k cs
 | pm _ _ _=>rfl
theorem RepL.fgt {w : World} {g : G} {lim : Nat} {f : List AV} {xs : Array Value} (k : Nat) (h : RepL w g lim f xs) : RepL w g lim (fgtL k f) xs:=
 ⟨by rw [fgtL_length];exact h.1,fun i c x hc hx=>by obtain ⟨c',h1,rfl⟩:=fgtL_get hc;exact (h.2 i c' x h1 hx).fgt k⟩
theorem MSim.fgt {w : World} {g : G} {lim : Nat} {m : Nat → Option Blk} (k : Nat) (h : MSim w g lim m) : MSim w g lim (fgtM k m):=
 ⟨fun j=>by rw [h.al j];simp [fgtM],h.lt,h.nro,h.inj,fun j b hb=>by
  simp only [fgtM,Option.map_eq_some_iff] at hb
  obtain ⟨b',h1,rfl⟩:=hb
  exact (h.blk j b' h1).fgt k,h.rolt,h.nof,h.fj⟩
theorem Sim.fgt {w : World} {g : G} {lim : Nat} {f : List AV} {m : Nat → Option Blk} {a : Act} (k : Nat) (h : Sim w g lim f m a) : Sim w g lim (fgtL k f) (fgtM k m) a:=
 ⟨h.fr.fgt k,h.df,h.me.fgt k⟩
def fput (f : List AV) (d : Option Nat) (v : AV) : List AV:=match d with|some d=>f.set d v|none=>f
theorem RepL.put {w : World} {g : G} {lim : Nat} {f : List AV} {a : Act} {v : AV} {x : Value} (h : RepL w g lim f a.tmps) (hv : Rep w g lim v x) (d : Option Nat) :
  RepL w g lim (fput f d v) (a.put d x).tmps:=by
 cases d with
 | none=>exact h
 | some d =>
  refine ⟨by simp [fput,Act.put,h.1],fun i c y hc hy=>?_⟩
  simp only [fput] at hc
  simp only [Act.put] at hy
  by_cases hd : d = i
  ·subst hd
   rw [List.getElem?_set] at hc
   rw [Array.getElem?_setIfInBounds] at hy
   simp at hc hy
   obtain ⟨_,rfl⟩:=hc
   obtain ⟨_,rfl⟩:=hy
   exact hv
  ·rw [List.getElem?_set_ne hd] at hc
   rw [Array.getElem?_setIfInBounds_ne hd] at hy
   exact h.2 i c y hc hy
theorem Act.put_df (a : Act) (d : Option Nat) (x : Value) : (a.put d x).defers = a.defers:=by cases d<;>rfl
theorem Sim.put {w : World} {g : G} {lim : Nat} {f : List AV} {m : Nat → Option Blk} {a : Act} {v : AV} {x : Value} (h : Sim w g lim f m a) (hv : Rep w g lim v x) (d : Option Nat) :
  Sim w g lim (fput f d v) m (a.put d x):=
 ⟨h.fr.put hv d,(Act.put_df a d x).trans h.df,h.me⟩
def G.bind (g : G) (k b n : Nat) : G:={ ro:=g.ro,no:=g.no,al:=fun j=>j = k ∨ g.al j,be:=fun j=>if j = k then b else g.be j,sz:=fun j=>if j = k then n else g.sz j,fr:=g.fr,jd:=g.jd,fn:=g.fn }
def G.kill (g : G) (k : Nat) : G:={ g with al:=fun j=>j ≠ k ∧ g.al j }
def G.freeze (g : G) (k : Nat) : G:={ g with al:=fun j=>j ≠ k ∧ g.al j,ro:=fun b=>g.ro b ∨ (0 < g.sz k ∧ b = g.be k) }
theorem put_self (m : Nat → Option Blk) (k : Nat) (b : Option Blk) : put m k b k = b:=by simp [put]
theorem put_ne (m : Nat → Option Blk) {k j : Nat} (b : Option Blk) (h : k ≠ j) : put m k b j = m j:=by simp [put,h]
theorem MSim.pushO {w : World} {g : G} {lim : Nat} {m : Nat → Option Blk} (h : MSim w g lim m) {k : Nat} (hk : k < lim ∨ k % 2 = 1) (hm : ∀ j b,m j = some b → menB k b = false)
  (o : Obj) (n : Nat) (bl : Blk)
  (hbl : BlkRep (w.alloc o) (g.bind k w.heap.size n) lim w.heap.size n bl) :
  MSim (w.alloc o) (g.bind k w.heap.size n) lim (put m k (some bl)):=by
 have hsz : (w.alloc o).heap.size = w.heap.size + 1:=by simp
 have old : ∀ b,b < w.heap.size → (w.alloc o).heap[b]? = w.heap[b]?:=fun b hb=>Below.heap_alloc w _ b hb
 have blt : ∀ j,g.al j → 0 < g.sz j → g.be j < w.heap.size:=fun j hj h0=>by
  obtain ⟨b,hb⟩:=Option.isSome_iff_exists.1 ((h.al j).1 hj)
  exact (h.blk j b hb).in h0
 refine ⟨fun j=>?_,fun j hj=>?_,fun j hj hz hr=>?_,fun i j hi hj zi zj he=>?_,fun j b hb=>?_,fun b hb=>by rw [hsz];have:=h.rolt b hb;omega,fun b hb=>?_,h.fj.step (fun b hb=>old b (h.fj.lt hb)) h.fj.nro fun b hb j hj hz=>?_⟩
 ·by_cases hjk : j = k
  ·subst hjk;simp [G.bind,Eng.put]
  ·have : ¬ k = j:=fun e=>hjk e.symm
   simp [G.bind,hjk,Eng.put,this,h.al j]
 ·rcases hj with rfl|hj
  ·exact hk
  ·exact h.lt j hj
 ·by_cases hjk : j = k
  ·subst hjk
   simp [G.bind] at hr
   have:=h.rolt _ hr
   omega
  ·simp [G.bind,hjk] at hr hj hz
   exact h.nro j hj hz hr
 ·by_cases hik : i = k<;>by_cases hjk : j = k
  ·rw [hik,hjk]
  ·subst hik
   simp [G.bind,hjk] at hj he zj
   have:=blt j hj zj
   omega
  ·subst hjk
   simp [G.bind,hik] at hi he zi
   have:=blt i hi zi
   omega
  ·simp [G.bind,hik,hjk] at hi hj he zi zj
   exact h.inj i j hi hj zi zj he
 ·by_cases hjk : j = k
  ·subst hjk
   rw [put_self] at hb
   cases hb
   simpa [G.bind] using hbl
  ·rw [put_ne _ _ (fun e=>hjk e.symm)] at hb
   have hb2:=h.blk j b hb
   have ha : g.al j:=(h.al j).2 (by simp [hb])
   simp only [G.bind,if_neg hjk]
   refine hb2.mono' ⟨fun b hr=>hr,fun b hr=>old b (h.rolt b hr),.of fun b hb=>old b (h.fj.lt (.inl hb))⟩ (Nat.le_refl _) (fun h0=>old _ (blt j ha h0)) fun i hmi _ hai=>?_
   have hik : i ≠ k:=fun e=>by rw [e,hm j b hb] at hmi;cases hmi
   rcases hai with e|hai
   ·exact absurd e hik
   ·exact ⟨hai,by simp [hik],by simp [hik]⟩
 ·obtain ⟨n1,n2,n3⟩:=h.nof b hb
  refine ⟨by omega,n2,fun j hj hz=>?_⟩
  by_cases hjk : j = k
  ·subst hjk;simp [G.bind];omega
  ·simp [G.bind,hjk] at hj hz ⊢;exact n3 j hj hz
 ·have hlt:=h.fj.lt hb
  by_cases hjk : j = k
  ·subst hjk;simp [G.bind];omega
  ·simp [G.bind,hjk] at hj hz ⊢;exact h.fj.nal b hb j hj hz
theorem MSim.push {w : World} {g : G} {lim : Nat} {m : Nat → Option Blk} (h : MSim w g lim m) {k : Nat} (hk : k < lim ∨ k % 2 = 1) (hm : ∀ j b,m j = some b → menB k b = false)
 (c : Array Value) (ty : TypeId) (bl : Blk)
 (hbl : BlkRep (w.alloc (.cells c ty)) (g.bind k w.heap.size c.size) lim w.heap.size c.size bl) :
 MSim (w.alloc (.cells c ty)) (g.bind k w.heap.size c.size) lim (put m k (some bl)):=h.pushO hk hm _ _ bl hbl
theorem MSim.birth {w : World} {g : G} {lim : Nat} {m : Nat → Option Blk} (h : MSim w g lim m) {k : Nat} (t : Ty) (hk : k < lim ∨ k % 2 = 1) (hm : ∀ j b,m j = some b → menB k b = false) :
  MSim w (g.bind k 0 0) lim (put m k (some (.row t []))):=by
 refine ⟨fun j=>?_,fun j hj=>?_,fun j hj hz hr=>?_,fun i j hi hj zi zj he=>?_,fun j b hb=>?_,h.rolt,fun b hb=>?_,h.fj.step (fun _ _=>rfl) h.fj.nro fun b hb j hj hz=>?_⟩
 ·by_cases hjk : j = k
  ·subst hjk;simp [G.bind,Eng.put]
  ·have : ¬ k = j:=fun e=>hjk e.symm
   simp [G.bind,hjk,Eng.put,this,h.al j]
 ·rcases hj with rfl|hj
  ·exact hk
  ·exact h.lt j hj
 ·by_cases hjk : j = k
  ·subst hjk;simp [G.bind] at hz
  ·simp [G.bind,hjk] at hr hj hz
   exact h.nro j hj hz hr
 ·by_cases hik : i = k
  ·subst hik;simp [G.bind] at zi
  ·by_cases hjk : j = k
   ·subst hjk;simp [G.bind] at zj
   ·simp [G.bind,hik,hjk] at hi hj he zi zj
    exact h.inj i j hi hj zi zj he
 ·by_cases hjk : j = k
  ·subst hjk
   rw [put_self] at hb
   cases hb
   exact .inl ⟨by simp [G.bind],rfl⟩
  ·rw [put_ne _ _ (fun e=>hjk e.symm)] at hb
   have hb2:=h.blk j b hb
   simp only [G.bind,if_neg hjk]
   refine hb2.mono' ⟨fun b hr=>hr,fun b hr=>rfl,.id⟩ (Nat.le_refl _) (fun _=>rfl) fun i hmi _ hai=>?_
   have hik : i ≠ k:=fun e=>by rw [e,hm j b hb] at hmi;cases hmi
   rcases hai with e|hai
   ·exact absurd e hik
   ·exact ⟨hai,by simp [hik],by simp [hik]⟩
 ·obtain ⟨n1,n2,n3⟩:=h.nof b hb
  refine ⟨n1,n2,fun j hj hz=>?_⟩
  by_cases hjk : j = k
  ·subst hjk;simp [G.bind] at hz
  ·simp [G.bind,hjk] at hj hz ⊢;exact n3 j hj hz
 ·by_cases hjk : j = k
  ·subst hjk;simp [G.bind] at hz
  ·simp [G.bind,hjk] at hj hz ⊢;exact h.fj.nal b hb j hj hz
theorem RepL.bind {w w' : World} {g : G} {lim k b n : Nat} {f : List AV} {xs : Array Value} (h : RepL w g lim f xs) (hm : menL k f = false) (hs : ∀ b,g.ro b ∨ g.fr b → w'.heap[b]? = w.heap[b]?) :
  RepL w' (g.bind k b n) lim f xs:=
 ⟨h.1,fun i c x hc hx=>Rep.mono' (g:=g) (g':=g.bind k b n) ⟨fun b hr=>hr,fun b hb=>hs b (.inl hb),.of fun b hb=>hs b (.inr hb)⟩ (Nat.le_refl _) (h.2 i c x hc hx) fun j hj _ haj=>by
  have hjk : j ≠ k:=fun e=>by rw [e] at hj;rw [menL_get hc hj] at hm;cases hm
  rcases haj with e|haj
  ·exact absurd e hjk
  ·exact ⟨haj,by simp [G.bind,hjk],by simp [G.bind,hjk]⟩⟩
theorem MSim.lt_heap {w : World} {g : G} {lim : Nat} {m : Nat → Option Blk} (h : MSim w g lim m) {k : Nat} (hk : g.al k) (h0 : 0 < g.sz k) : g.be k < w.heap.size:=by
 obtain ⟨b,hb⟩:=Option.isSome_iff_exists.1 ((h.al k).1 hk)
 exact (h.blk k b hb).in h0
theorem MSim.write {w w' : World} {g : G} {lim : Nat} {m : Nat → Option Blk} (h : MSim w g lim m) {k : Nat} (hk : g.al k) (h0 : 0 < g.sz k) (bl : Blk)
  (hsz : w.heap.size ≤ w'.heap.size) (hw : ∀ b,b ≠ g.be k → b < w.heap.size → w'.heap[b]? = w.heap[b]?) (hbl : BlkRep w' g lim (g.be k) (g.sz k) bl) :
  MSim w' g lim (put m k (some bl)):=by
 have hro : ∀ b,g.ro b → w'.heap[b]? = w.heap[b]?:=fun b hb=>hw b (fun e=>h.nro k hk h0 (e ▸ hb)) (h.rolt b hb)
 refine ⟨fun j=>?_,h.lt,h.nro,h.inj,fun j b hb=>?_,fun b hb=>Nat.lt_of_lt_of_le (h.rolt b hb) hsz,fun b hb=>⟨Nat.lt_of_lt_of_le (h.nof b hb).1 hsz,(h.nof b hb).2⟩,h.fj.step (fun b hb=>hw b (fun e=>h.fj.nal b hb k hk h0 e.symm) (h.fj.lt hb)) h.fj.nro h.fj.nal⟩
 ·by_cases hjk : k = j
  ·subst hjk;simp [Eng.put,hk]
  ·simp [Eng.put,hjk,h.al j]
 ·by_cases hjk : k = j
  ·subst hjk;rw [put_self] at hb;cases hb;exact hbl
  ·rw [put_ne _ _ hjk] at hb
   have ha : g.al j:=(h.al j).2 (by simp [hb])
   exact (h.blk j b hb).mono' ⟨fun b hr=>hr,hro,.of fun b hb=>hw b (fun e=>h.fj.nal b (.inl hb) k hk h0 e.symm) (h.fj.lt (.inl hb))⟩ (Nat.le_refl _) (fun hz=>hw _ (fun e=>hjk (h.inj k j hk ha h0 hz e.symm)) (h.lt_heap ha hz)) fun i _ _ hai=>⟨hai,rfl,rfl⟩
theorem MSim.ne {w : World} {g : G} {lim : Nat} {m : Nat → Option Blk} (h : MSim w g lim m) {k : Nat} (hk : g.al k) (h0 : 0 < g.sz k) : ∀ b,g.ro b ∨ g.fr b → b ≠ g.be k:=fun b hb e=>by
 rcases hb with hb|hb
 ·exact h.nro k hk h0 (e ▸ hb)
 ·exact h.fj.nal b (.inl hb) k hk h0 e.symm
theorem RepL.same {w w' : World} {g : G} {lim : Nat} {f : List AV} {xs : Array Value} (h : RepL w g lim f xs) (hs : ∀ b,g.ro b ∨ g.fr b → w'.heap[b]? = w.heap[b]?) : RepL w' g lim f xs:=
 h.mono ⟨fun _ h=>h,fun b hb=>hs b (.inl hb),.of fun b hb=>hs b (.inr hb)⟩ (Nat.le_refl _) fun _ _ ha=>⟨ha,rfl,rfl⟩
theorem MSim.kill {w : World} {g : G} {lim : Nat} {m : Nat → Option Blk} (h : MSim w g lim m) (k : Nat) : MSim w (g.kill k) lim (put m k none):=by
 refine ⟨fun j=>?_,fun j hj=>h.lt j hj.2,fun j hj=>h.nro j hj.2,fun i j hi hj=>h.inj i j hi.2 hj.2,fun j b hb=>?_,h.rolt,fun b hb=>⟨(h.nof b hb).1,(h.nof b hb).2.1,fun j hj=>(h.nof b hb).2.2 j hj.2⟩,h.fj.step (fun _ _=>rfl) h.fj.nro fun b hb j hj=>h.fj.nal b hb j hj.2⟩
 ·by_cases hjk : k = j
  ·subst hjk;simp [Eng.put,G.kill]
  ·have : j ≠ k:=fun e=>hjk e.symm
   simp [Eng.put,hjk,G.kill,h.al j,this]
 ·by_cases hjk : k = j
  ·subst hjk;rw [put_self] at hb;cases hb
  ·rw [put_ne _ _ hjk] at hb
   exact (h.blk j b hb).mono' ⟨fun b hr=>hr,fun _ _=>rfl,.id⟩ (Nat.le_refl _) (fun _=>rfl) fun i _ _ hai=>⟨hai.2,rfl,rfl⟩
theorem Rep.kill {w : World} {g : G} {lim : Nat} {v : AV} {x : Value} (h : Rep w g lim v x) (k : Nat) : Rep w (g.kill k) lim v x:=
 h.mono ⟨fun _ h=>h,fun _ _=>rfl,.id⟩ (Nat.le_refl _) fun _ _ ha=>⟨ha.2,rfl,rfl⟩
theorem MSim.freeze {w : World} {g : G} {lim : Nat} {m : Nat → Option Blk} (h : MSim w g lim m) {k : Nat} (hk : g.al k) : MSim w (g.freeze k) lim (put m k none):=by
 refine ⟨fun j=>?_,fun j hj=>h.lt j hj.2,fun j hj hz hr=>?_,fun i j hi hj=>h.inj i j hi.2 hj.2,fun j b hb=>?_,fun b hb=>?_,fun b hb=>?_,h.fj.step (fun _ _=>rfl) (fun b hb=>⟨fun hr=>?_,(h.fj.nro b hb).2⟩) fun b hb j hj=>h.fj.nal b hb j hj.2⟩
 ·by_cases hjk : k = j
  ·subst hjk;simp [Eng.put,G.freeze]
  ·have : j ≠ k:=fun e=>hjk e.symm
   simp [Eng.put,hjk,G.freeze,h.al j,this]
 ·rcases hr with hr|hr
  ·exact h.nro j hj.2 hz hr
  ·exact hj.1 (h.inj j k hj.2 hk hz hr.1 hr.2)
 ·by_cases hjk : k = j
  ·subst hjk;rw [put_self] at hb;cases hb
  ·rw [put_ne _ _ hjk] at hb
   exact (h.blk j b hb).mono' ⟨fun b hr=>.inl hr,fun _ _=>rfl,.id⟩ (Nat.le_refl _) (fun _=>rfl) fun i _ _ hai=>⟨hai.2,rfl,rfl⟩
 ·rcases hb with hb|⟨h0,rfl⟩
  ·exact h.rolt b hb
  ·exact h.lt_heap hk h0
 ·obtain ⟨n1,n2,n3⟩:=h.nof b hb
  refine ⟨n1,fun hr=>?_,fun j hj=>n3 j hj.2⟩
  rcases hr with hr|⟨h0,rfl⟩
  ·exact n2 hr
  ·exact n3 k hk h0 rfl
 ·rcases hr with hr|⟨h0,e⟩
  ·exact (h.fj.nro b hb).1 hr
  ·exact h.fj.nal b hb k hk h0 e.symm
theorem Rep.freeze {w : World} {g : G} {lim : Nat} {v : AV} {x : Value} (h : Rep w g lim v x) (k : Nat) : Rep w (g.freeze k) lim v x:=
 h.mono ⟨fun _ h=>.inl h,fun _ _=>rfl,.id⟩ (Nat.le_refl _) fun _ _ ha=>⟨ha.2,rfl,rfl⟩
theorem RepL.kill {w : World} {g : G} {lim : Nat} {f : List AV} {xs : Array Value} (h : RepL w g lim f xs) (k : Nat) : RepL w (g.kill k) lim f xs:=
 ⟨h.1,fun i c x hc hx=>(h.2 i c x hc hx).kill k⟩
theorem RepL.freeze {w : World} {g : G} {lim : Nat} {f : List AV} {xs : Array Value} (h : RepL w g lim f xs) (k : Nat) : RepL w (g.freeze k) lim f xs:=
 ⟨h.1,fun i c x hc hx=>(h.2 i c x hc hx).freeze k⟩
def G.frzF (g : G) (k : Nat) (nl : Bool) : G:={ g with al:=fun j=>j ≠ k ∧ g.al j,fr:=fun b=>g.fr b ∨ (0 < g.sz k ∧ b = g.be k),fn:=fun b=>(g.fr b ∧ g.fn b) ∨ (¬ g.fr b ∧ nl = true) }
theorem KeepsF.frzF (w : World) (g : G) (k : Nat) (nl : Bool) : KeepsF w w g (g.frzF k nl):=⟨fun _ h=>⟨.inl h,rfl⟩,fun _ _ h=>h,fun b hb=>⟨fun h=>h.elim (fun h=>h.2) (fun h=>absurd hb h.1),fun h=>.inl ⟨hb,h⟩⟩⟩
theorem MSim.frzF {w : World} {g : G} {lim : Nat} {m : Nat → Option Blk} (h : MSim w g lim m) {k : Nat} (hk : g.al k) {t : Ty} {l : List (El t)} (hm : m k = some (.row t l)) (nl : Bool) : MSim w (g.frzF k nl) lim (put m k none):=by
 refine ⟨fun j=>?_,fun j hj=>h.lt j hj.2,fun j hj=>h.nro j hj.2,fun i j hi hj=>h.inj i j hi.2 hj.2,fun j b hb=>?_,h.rolt,fun b hb=>⟨(h.nof b hb).1,(h.nof b hb).2.1,fun j hj=>(h.nof b hb).2.2 j hj.2⟩,⟨fun b hb=>?_,h.fj.jz,fun b n hb hf=>?_,fun b hb=>?_,fun b hb j hj hz=>?_⟩⟩
 ·by_cases hjk : k = j
  ·subst hjk;simp [Eng.put,G.frzF]
  ·have : j ≠ k:=fun e=>hjk e.symm
   simp [Eng.put,hjk,G.frzF,h.al j,this]
 ·by_cases hjk : k = j
  ·subst hjk;rw [put_self] at hb;cases hb
  ·rw [put_ne _ _ hjk] at hb
   exact (h.blk j b hb).mono' ⟨fun b hr=>hr,fun _ _=>rfl,KeepsF.frzF w g k nl⟩ (Nat.le_refl _) (fun _=>rfl) fun i _ _ hai=>⟨hai.2,rfl,rfl⟩
 ·rcases hb with hb|⟨h0,rfl⟩
  ·exact h.fj.fz b hb
  ·obtain ⟨c,ty,h1,_⟩:=(h.blk k _ hm).getRow h0
   exact ⟨c,ty,h1⟩
 ·rcases hf with hf|⟨h0,e⟩
  ·exact h.fj.jf b n hb hf
  ·exact h.fj.nal b (.inr ⟨n,hb⟩) k hk h0 e.symm
 ·rcases hb with (hb|⟨h0,rfl⟩)|hb
  ·exact h.fj.nro b (.inl hb)
  ·exact ⟨h.nro k hk h0,fun hn=>(h.nof _ hn).2.2 k hk h0 rfl⟩
  ·exact h.fj.nro b (.inr hb)
 ·rcases hb with (hb|⟨h0,rfl⟩)|hb
  ·exact h.fj.nal b (.inl hb) j hj.2 hz
  ·exact fun e=>hj.1 (h.inj j k hj.2 hk hz h0 e)
  ·exact h.fj.nal b (.inr hb) j hj.2 hz
theorem Rep.frzF {w : World} {g : G} {lim : Nat} {v : AV} {x : Value} (h : Rep w g lim v x) (k : Nat) (nl : Bool) : Rep w (g.frzF k nl) lim v x:=
 h.mono ⟨fun _ h=>h,fun _ _=>rfl,KeepsF.frzF w g k nl⟩ (Nat.le_refl _) fun _ _ ha=>⟨ha.2,rfl,rfl⟩
theorem FJ.sameJ {w w' : World} {g : G} (h : FJ w g) {b n : Nat} (hb : g.jd b n) (hw : ∀ k,k ≠ b → w'.heap[k]? = w.heap[k]?) : ∀ k,g.ro k ∨ g.fr k → w'.heap[k]? = w.heap[k]?:=fun k hk=>hw k fun e=>by
 subst e
 rcases hk with hk|hk
 ·exact (h.nro k (.inr ⟨n,hb⟩)).1 hk
 ·exact h.jf k n hb hk
theorem MSim.jwrite {w w' : World} {g : G} {lim : Nat} {m : Nat → Option Blk} (h : MSim w g lim m) {b n : Nat} (hb : g.jd b n) (hsz : w.heap.size ≤ w'.heap.size) (hw : ∀ k,k ≠ b → w'.heap[k]? = w.heap[k]?)
  {c : Array Value} {ty : TypeId} (hc : w'.heap[b]? = some (.cells c ty (0,0))) (hn : c.size = n) : MSim w' g lim m:=by
 refine ⟨h.al,h.lt,h.nro,h.inj,fun k bl hk=>?_,fun k hk=>Nat.lt_of_lt_of_le (h.rolt k hk) hsz,fun k hk=>⟨Nat.lt_of_lt_of_le (h.nof k hk).1 hsz,(h.nof k hk).2⟩,⟨fun k hk=>?_,fun k j hk=>?_,h.fj.jf,h.fj.nro,h.fj.nal⟩⟩
 ·exact (h.blk k bl hk).mono' (Keeps.ofS (h.fj.sameJ hb hw)) (Nat.le_refl _) (fun hz=>hw _ (h.fj.nal b (.inr ⟨n,hb⟩) k ((h.al k).2 (by simp [hk])) hz)) fun _ _ _ ha=>⟨ha,rfl,rfl⟩
 ·obtain ⟨c1,ty1,h1⟩:=h.fj.fz k hk
  exact ⟨c1,ty1,(h.fj.sameJ hb hw k (.inr hk)).trans h1⟩
 ·obtain ⟨c1,ty1,h1,h2⟩:=h.fj.jz k j hk
  by_cases hkb : k = b
  ·subst hkb
   obtain ⟨c2,ty2,h3,h4⟩:=h.fj.jz k n hb
   rw [h1] at h3
   cases h3
   exact ⟨c,ty,hc,by omega⟩
  ·exact ⟨c1,ty1,(hw k hkb).trans h1,h2⟩
open Go Go.RowKit
def szOf (P : Program) (t : TypeId) : Option Nat:=match P.info? t with|some i=>some i.size|none=>none
def byOf (P : Program) (t : TypeId) : Option Nat:=match P.info? t with|some i=>some i.bytes|none=>none
def isAggT (P : Program) (t : TypeId) : Option Bool:=match P.underlying t with|some (.struct _)=>some true|some (.array _ _)=>some true|some _=>some false|none=>none
def fieldO (P : Program) (t : TypeId) (i : Nat) : Option Nat:=
 match P.underlying t with
 | some (.struct fs)=>match fs[i]? with
  | some f=>match szOf P f.type with
   | some (_ + 1)=>some f.offset
   | _=>none
  | none=>none
 | _=>none
def pickT : List Nat → Nat → Nat → (Nat → Prop) → Prop
 | [],_,v,K=>K v
 | e :: _,0,v,K=>match Nat.beq e v with|true=>K e|false=>K v
 | _ :: r,n + 1,v,K=>pickT r n v K
theorem pickT_eq (t : List Nat) : ∀ (d v : Nat) (K : Nat → Prop),pickT t d v K = K v:=by
 induction t with
 | nil=>intro d v K;rfl
 | cons e r ih =>
  intro d v K
  cases d with
  | zero =>
   simp only [pickT]
   cases h : Nat.beq e v with
   | true=>rw [nbt.1 h]
   | false=>rfl
  | succ d=>exact ih d v K
def tabN : List Nat:=[0,1,2,3,4,5,6,7,8,9,10,11,12,13,14,15,16,17,18,19,20,21,22,23,24,25,26,27,28,29,30,31,32,33,34,35,36,37,38,39,40,41,42,43,44,45,46,47,48,49,50,51,52,53,54,55,56,57,58,59,60,61,62,63]
def tab0E : List Nat:=[0,2,4,6,8,10,12,14,16,18,20,22,24,26,28,30,32,34,36,38,40,42,44,46,48,50,52,54,56,58,60,62,64,66,68,70,72,74,76,78,80,82,84,86,88,90,92,94,96,98,100,102,104,106,108,110,112,114,116,118,120,122,124,126,128,130,132,134,136,138,140,142,144,146,148,150,152,154,156,158,160,162,164,166,168,170,172,174,176,178,180,182,184,186,188,190,192,194,196,198,200,202,204,206,208,210,212,214,216,218,220,222,224,226,228,230,232,234,236,238,240,242,244,246,248,250,252,254,256,258,260,262,264,266,268,270,272,274,276,278,280,282,284,286,288,290,292,294,296,298,300,302,304,306,308,310,312,314,316,318,320,322,324,326,328,330,332,334,336,338,340,342,344,346,348,350,352,354,356,358,360,362,364,366,368,370,372,374,376,378,380,382,384,386,388,390,392,394,396,398,400,402,404,406,408,410,412,414,416,418,420,422,424,426,428,430,432,434,436,438,440,442,444,446,448,450,452,454,456,458,460,462,464,466,468,470,472,474,476,478,480,482,484,486,488,490,492,494,496,498,500,502,504,506,508,510,512,514,516,518,520,522,524,526,528,530,532,534,536,538,540,542,544,546,548,550,552,554,556,558,560,562,564,566,568,570,572,574,576,578,580,582,584,586,588,590,592,594,596,598,600,602,604,606,608,610,612,614,616,618,620,622,624,626,628,630,632,634,636,638,640,642,644,646,648,650,652,654,656,658,660,662,664,666,668,670,672,674,676,678,680,682,684,686,688,690,692,694,696,698,700,702,704,706,708,710,712,714,716,718,720,722,724,726,728,730,732,734,736,738,740,742,744,746,748,750,752,754,756,758,760,762,764,766,768,770,772,774,776,778,780,782,784,786,788,790,792,794,796,798]
def tab0O : List Nat:=[1,3,5,7,9,11,13,15,17,19,21,23,25,27,29,31,33,35,37,39,41,43,45,47,49,51,53,55,57,59,61,63,65,67,69,71,73,75,77,79,81,83,85,87,89,91,93,95,97,99,101,103,105,107,109,111,113,115,117,119,121,123,125,127,129,131,133,135,137,139,141,143,145,147,149,151,153,155,157,159,161,163,165,167,169,171,173,175,177,179,181,183,185,187,189,191,193,195,197,199,201,203,205,207,209,211,213,215,217,219,221,223,225,227,229,231,233,235,237,239,241,243,245,247,249,251,253,255,257,259,261,263,265,267,269,271,273,275,277,279,281,283,285,287,289,291,293,295,297,299,301,303,305,307,309,311,313,315,317,319,321,323,325,327,329,331,333,335,337,339,341,343,345,347,349,351,353,355,357,359,361,363,365,367,369,371,373,375,377,379,381,383,385,387,389,391,393,395,397,399,401,403,405,407,409,411,413,415,417,419,421,423,425,427,429,431,433,435,437,439,441,443,445,447,449,451,453,455,457,459,461,463,465,467,469,471,473,475,477,479,481,483,485,487,489,491,493,495,497,499,501,503,505,507,509,511,513,515,517,519,521,523,525,527,529,531,533,535,537,539,541,543,545,547,549,551,553,555,557,559,561,563,565,567,569,571,573,575,577,579,581,583,585,587,589,591,593,595,597,599,601,603,605,607,609,611,613,615,617,619,621,623,625,627,629,631,633,635,637,639,641,643,645,647,649,651,653,655,657,659,661,663,665,667,669,671,673,675,677,679,681,683,685,687,689,691,693,695,697,699,701,703,705,707,709,711,713,715,717,719,721,723,725,727,729,731,733,735,737,739,741,743,745,747,749,751,753,755,757,759,761,763,765,767,769,771,773,775,777,779,781,783,785,787,789,791,793,795,797,799]
def tabLE : List Nat:=[200000,200002,200004,200006,200008,200010,200012,200014,200016,200018,200020,200022,200024,200026,200028,200030,200032,200034,200036,200038,200040,200042,200044,200046,200048,200050,200052,200054,200056,200058,200060,200062,200064,200066,200068,200070,200072,200074,200076,200078,200080,200082,200084,200086,200088,200090,200092,200094,200096,200098,200100,200102,200104,200106,200108,200110,200112,200114,200116,200118,200120,200122,200124,200126,200128,200130,200132,200134,200136,200138,200140,200142,200144,200146,200148,200150,200152,200154,200156,200158,200160,200162,200164,200166,200168,200170,200172,200174,200176,200178,200180,200182,200184,200186,200188,200190,200192,200194,200196,200198,200200,200202,200204,200206,200208,200210,200212,200214,200216,200218,200220,200222,200224,200226,200228,200230,200232,200234,200236,200238,200240,200242,200244,200246,200248,200250,200252,200254,200256,200258,200260,200262,200264,200266,200268,200270,200272,200274,200276,200278,200280,200282,200284,200286,200288,200290,200292,200294,200296,200298,200300,200302,200304,200306,200308,200310,200312,200314,200316,200318,200320,200322,200324,200326,200328,200330,200332,200334,200336,200338,200340,200342,200344,200346,200348,200350,200352,200354,200356,200358,200360,200362,200364,200366,200368,200370,200372,200374,200376,200378,200380,200382,200384,200386,200388,200390,200392,200394,200396,200398,200400,200402,200404,200406,200408,200410,200412,200414,200416,200418,200420,200422,200424,200426,200428,200430,200432,200434,200436,200438,200440,200442,200444,200446,200448,200450,200452,200454,200456,200458,200460,200462,200464,200466,200468,200470,200472,200474,200476,200478,200480,200482,200484,200486,200488,200490,200492,200494,200496,200498,200500,200502,200504,200506,200508,200510,200512,200514,200516,200518,200520,200522,200524,200526,200528,200530,200532,200534,200536,200538,200540,200542,200544,200546,200548,200550,200552,200554,200556,200558,200560,200562,200564,200566,200568,200570,200572,200574,200576,200578,200580,200582,200584,200586,200588,200590,200592,200594,200596,200598,200600,200602,200604,200606,200608,200610,200612,200614,200616,200618,200620,200622,200624,200626,200628,200630,200632,200634,200636,200638,200640,200642,200644,200646,200648,200650,200652,200654,200656,200658,200660,200662,200664,200666,200668,200670,200672,200674,200676,200678,200680,200682,200684,200686,200688,200690,200692,200694,200696,200698,200700,200702,200704,200706,200708,200710,200712,200714,200716,200718,200720,200722,200724,200726,200728,200730,200732,200734,200736,200738,200740,200742,200744,200746,200748,200750,200752,200754,200756,200758,200760,200762,200764,200766,200768,200770,200772,200774,200776,200778,200780,200782,200784,200786,200788,200790,200792,200794,200796,200798]
def tabLO : List Nat:=[200001,200003,200005,200007,200009,200011,200013,200015,200017,200019,200021,200023,200025,200027,200029,200031,200033,200035,200037,200039,200041,200043,200045,200047,200049,200051,200053,200055,200057,200059,200061,200063,200065,200067,200069,200071,200073,200075,200077,200079,200081,200083,200085,200087,200089,200091,200093,200095,200097,200099,200101,200103,200105,200107,200109,200111,200113,200115,200117,200119,200121,200123,200125,200127,200129,200131,200133,200135,200137,200139,200141,200143,200145,200147,200149,200151,200153,200155,200157,200159,200161,200163,200165,200167,200169,200171,200173,200175,200177,200179,200181,200183,200185,200187,200189,200191,200193,200195,200197,200199,200201,200203,200205,200207,200209,200211,200213,200215,200217,200219,200221,200223,200225,200227,200229,200231,200233,200235,200237,200239,200241,200243,200245,200247,200249,200251,200253,200255,200257,200259,200261,200263,200265,200267,200269,200271,200273,200275,200277,200279,200281,200283,200285,200287,200289,200291,200293,200295,200297,200299,200301,200303,200305,200307,200309,200311,200313,200315,200317,200319,200321,200323,200325,200327,200329,200331,200333,200335,200337,200339,200341,200343,200345,200347,200349,200351,200353,200355,200357,200359,200361,200363,200365,200367,200369,200371,200373,200375,200377,200379,200381,200383,200385,200387,200389,200391,200393,200395,200397,200399,200401,200403,200405,200407,200409,200411,200413,200415,200417,200419,200421,200423,200425,200427,200429,200431,200433,200435,200437,200439,200441,200443,200445,200447,200449,200451,200453,200455,200457,200459,200461,200463,200465,200467,200469,200471,200473,200475,200477,200479,200481,200483,200485,200487,200489,200491,200493,200495,200497,200499,200501,200503,200505,200507,200509,200511,200513,200515,200517,200519,200521,200523,200525,200527,200529,200531,200533,200535,200537,200539,200541,200543,200545,200547,200549,200551,200553,200555,200557,200559,200561,200563,200565,200567,200569,200571,200573,200575,200577,200579,200581,200583,200585,200587,200589,200591,200593,200595,200597,200599,200601,200603,200605,200607,200609,200611,200613,200615,200617,200619,200621,200623,200625,200627,200629,200631,200633,200635,200637,200639,200641,200643,200645,200647,200649,200651,200653,200655,200657,200659,200661,200663,200665,200667,200669,200671,200673,200675,200677,200679,200681,200683,200685,200687,200689,200691,200693,200695,200697,200699,200701,200703,200705,200707,200709,200711,200713,200715,200717,200719,200721,200723,200725,200727,200729,200731,200733,200735,200737,200739,200741,200743,200745,200747,200749,200751,200753,200755,200757,200759,200761,200763,200765,200767,200769,200771,200773,200775,200777,200779,200781,200783,200785,200787,200789,200791,200793,200795,200797,200799]
def frcK (n : Nat) (K : Nat → Prop) : Prop:=pickT tabN n n K
theorem frcK_eq (n : Nat) (K : Nat → Prop) : frcK n K = K n:=pickT_eq _ _ _ _
def idK (base d : Nat) (K : Nat → Prop) : Prop:=match Nat.beq base 0 with
 | true=>pickT tab0E d (base + 2 * d) K
 | false=>match Nat.beq base 200000 with
  | true=>pickT tabLE d (base + 2 * d) K
  | false=>K (base + 2 * d)
def odK (base d : Nat) (K : Nat → Prop) : Prop:=match Nat.beq base 0 with
 | true=>pickT tab0O d (base + (2 * d + 1)) K
 | false=>match Nat.beq base 200000 with
  | true=>pickT tabLO d (base + (2 * d + 1)) K
  | false=>K (base + (2 * d + 1))
theorem idK_eq (base d : Nat) (K : Nat → Prop) : idK base d K = K (base + 2 * d):=by
 unfold idK;split
 ·exact pickT_eq _ _ _ _
 ·split
  ·exact pickT_eq _ _ _ _
  ·rfl
theorem odK_eq (base d : Nat) (K : Nat → Prop) : odK base d K = K (base + (2 * d + 1)):=by
 unfold odK;split
 ·exact pickT_eq _ _ _ _
 ·split
  ·exact pickT_eq _ _ _ _
  ·rfl
section
variable {P : Program} {w : World}
theorem run_underlying {t : TypeId} {d : TypeDesc} (h : P.underlying t = some d) : (underlying t).run P w = .ok d w:=by
 simp [underlying,h]
theorem run_sizeOf {t : TypeId} {n : Nat} (h : szOf P t = some n) : (Go.sizeOf t).run P w = .ok n w:=by
 unfold szOf at h
 cases hi : P.info? t with
 | none=>simp [hi] at h
 | some i=>simp [hi] at h;simp [Go.sizeOf,typeInfo,hi,h]
theorem run_typeInfo {t : TypeId} {i : TypeInfo} (h : P.info? t = some i) : (typeInfo t).run P w = .ok i w:=by
 simp [typeInfo,h]
theorem run_isAgg {t : TypeId} {b : Bool} (h : isAggT P t = some b) : (isAgg t).run P w = .ok b w:=by
 unfold isAggT at h
 cases hu : P.underlying t with
 | none=>simp [hu] at h
 | some d=>cases d<;>simp [hu] at h<;>subst h<;>simp [isAgg,underlying,hu]
theorem add_none (b o n : Nat) : (⟨b,o,none⟩ : Addr).add n = ⟨b,o + n,none⟩:=by
 unfold Addr.add;split
 ·subst_vars;rfl
 ·rfl
theorem run_fieldAt {t : TypeId} {i d : Nat} (h : fieldO P t i = some d) (b o : Nat) :
  (Instr.fieldAt t (.pointer (some ⟨b,o,none⟩)) i).run P w = .ok (.pointer (some ⟨b,o + d,none⟩)) w:=by
 unfold fieldO at h
 cases hu : P.underlying t with
 | none=>simp [hu] at h
 | some u =>
  cases u<;>simp [hu] at h
  rename_i fs
  cases hf : fs[i]? with
  | none=>simp [hf] at h
  | some f =>
   simp [hf] at h
   cases hs : szOf P f.type with
   | none=>simp [hs] at h
   | some n =>
    cases n with
    | zero=>simp [hs] at h
    | succ n =>
     simp [hs] at h
     subst h
     simp [Instr.fieldAt,run_underlying hu,hf,Instr.sureAddr,fieldPlace,run_sizeOf hs,add_none]
theorem run_loadCellsFrom (b o : Nat) (xs : List Value) : ∀ (i : Nat) (acc : Array Value),(∀ j x,xs[j]? = some x → w.cell? ⟨b,o + (i + j),none⟩ = some x) →
  (loadCellsFrom ⟨b,o,none⟩ i xs.length acc).run P w = .ok (acc ++ xs.toArray) w:=by
 induction xs with
 | nil=>intro i acc _;simp [loadCellsFrom]
 | cons x xs ih =>
  intro i acc h
  have h0 : w.cell? ⟨b,o + i,none⟩ = some x:=by have:=h 0 x (by simp);simpa using this
  simp only [List.length_cons,loadCellsFrom,Sem.run_bind,run_load,add_none,h0,Result.andThen_ok]
  rw [ih (i + 1) (acc.push x) (fun j y hj=>by have:=h (j + 1) y (by simpa using hj);rw [show i + 1 + j = i + (j + 1) by omega];exact this)]
  simp
theorem run_loadAgg {t : TypeId} (b o : Nat) (xs : List Value) (ha : isAggT P t = some true) (hs : szOf P t = some xs.length) (h : ∀ j x,xs[j]? = some x → w.cell? ⟨b,o + j,none⟩ = some x) :
  (Instr.loadAt t (.pointer (some ⟨b,o,none⟩))).run P w = .ok (.agg xs.toArray) w:=by
 have:=run_loadCellsFrom (P:=P) (w:=w) b o xs 0 #[] (by simpa using h)
 simp [Instr.loadAt,Instr.sureAddr,loadVar,run_isAgg ha,run_sizeOf hs,loadCells,this]
theorem run_loadOne {t : TypeId} (b o : Nat) (x : Value) (ha : isAggT P t = some false) (h : w.cell? ⟨b,o,none⟩ = some x) :
  (Instr.loadAt t (.pointer (some ⟨b,o,none⟩))).run P w = .ok x w:=by
 simp [Instr.loadAt,Instr.sureAddr,loadVar,run_isAgg ha,h]
def setRange (c : Array Value) (o : Nat) : List Value → Array Value
 | []=>c
 | v :: r=>setRange (c.setIfInBounds o v) (o + 1) r
theorem setRange_size (c : Array Value) (o : Nat) (vs : List Value) : (setRange c o vs).size = c.size:=by
 induction vs generalizing c o with
 | nil=>rfl
 | cons v r ih=>simp [setRange,ih]
theorem setRange_get (c : Array Value) (o : Nat) (vs : List Value) (i : Nat) (h : o + vs.length ≤ c.size) :
  (setRange c o vs)[i]? = if o ≤ i ∧ i < o + vs.length then vs[i - o]? else c[i]?:=by
 induction vs generalizing c o with
 | nil=>simp [setRange];intro _ h;omega
 | cons v r ih =>
  simp only [setRange]
  rw [ih _ _ (by simp at h ⊢;omega)]
  simp only [List.length_cons] at h ⊢
  by_cases h1 : o = i
  ·subst h1
   rw [if_neg (by omega),if_pos (by omega)]
   simp [Array.getElem?_setIfInBounds];omega
  ·by_cases h2 : o + 1 ≤ i ∧ i < o + 1 + r.length
   ·rw [if_pos h2,if_pos (by omega)]
    rw [show i - o = (i - (o + 1)) + 1 by omega];simp
   ·rw [if_neg h2,Array.getElem?_setIfInBounds_ne h1,if_neg (by omega)]
theorem run_storeCells (b o : Nat) (ty : TypeId) (vs : List Value) (h1 : ∀ v ∈ vs,v.oneCell' = true) : ∀ (i : Nat) (w : World) (c : Array Value),w.heap[b]? = some (.cells c ty (0,0)) →
  o + i + vs.length ≤ c.size → ∃ w',(storeCells ⟨b,o,none⟩ vs i).run P w = .ok () w' ∧ w'.heap[b]? = some (.cells (setRange c (o + i) vs) ty (0,0)) ∧
   (∀ k,k ≠ b → w'.heap[k]? = w.heap[k]?) ∧ w'.heap.size = w.heap.size ∧ w'.os = w.os ∧ w'.tape = w.tape ∧ w'.output = w.output ∧ w'.drawn = w.drawn:=by
 induction vs with
 | nil=>intro i w c hb _;exact ⟨w,by simp [storeCells],by simpa [setRange] using hb,fun _ _=>rfl,rfl,rfl,rfl,rfl,rfl⟩
 | cons v r ih =>
  intro i w c hb hl
  simp only [List.length_cons] at hl
  have hc : w.cell? ⟨b,o + i,none⟩ = some c[o + i]:=by
   rw [cell_of_row w b (o + i) c ty (0,0) hb,Array.getElem?_eq_getElem (by omega)]
  have hf : w.frozen? ⟨b,o + i,none⟩ = false:=frozen_of_row w b (o + i) c ty hb
  have hb' : (w.setCell ⟨b,o + i,none⟩ v).heap[b]? = some (.cells (c.setIfInBounds (o + i) v) ty (0,0)):=by
   have:=heap_setCell_same w b (o + i) c ty v hb
   simpa using this
  obtain ⟨w',e1,e2,e3,e4,e5,e6,e7,e8⟩:=ih (fun x hx=>h1 x (by simp [hx])) (i + 1) (w.setCell ⟨b,o + i,none⟩ v) _ hb' (by simp;omega)
  refine ⟨w',?_,?_,fun k hk=>?_,?_,?_,?_,?_,?_⟩
  ·simp only [storeCells,Sem.run_bind,add_none]
   rw [run_store P w _ v .plain (h1 v (by simp))]
   simp only [hc,hf,Bool.false_eq_true,if_false,Result.andThen_ok]
   exact e1
  ·rw [e2];simp [setRange,Nat.add_assoc]
  ·rw [e3 k hk,heap_setCell_other _ _ _ _ (by simpa using hk)]
  ·rw [e4];simp [World.setCell]
  ·rw [e5];rfl
  ·rw [e6];rfl
  ·rw [e7];rfl
  ·rw [e8];rfl
theorem run_storeAt {t : TypeId} (b o : Nat) (ty : TypeId) (c : Array Value) (x : Value) (hs : szOf P t = some x.cells.size) (h1 : ∀ v ∈ x.cells.toList,v.oneCell' = true)
  (hb : w.heap[b]? = some (.cells c ty (0,0))) (hl : o + x.cells.size ≤ c.size) :
  ∃ w',(Instr.storeAt t (.pointer (some ⟨b,o,none⟩)) x).run P w = .ok () w' ∧ w'.heap[b]? = some (.cells (setRange c o x.cells.toList) ty (0,0)) ∧
   (∀ k,k ≠ b → w'.heap[k]? = w.heap[k]?) ∧ w'.heap.size = w.heap.size ∧ w'.os = w.os ∧ w'.tape = w.tape ∧ w'.output = w.output ∧ w'.drawn = w.drawn:=by
 obtain ⟨w',e1,e2⟩:=run_storeCells (P:=P) b o ty x.cells.toList h1 0 w c hb (by simpa using hl)
 refine ⟨w',?_,by simpa using e2⟩
 simp [Instr.storeAt,Instr.sureAddr,storeVar,run_sizeOf hs,e1]
theorem run_newVar (t : TypeId) (x : Value) : (newVar t x).run P w = .ok ⟨w.heap.size,0,none⟩ (w.alloc (.cells x.cells t)):=by
 simp [newVar,newRow]
end
open Go Go.RowKit
def L : Nat:=200000
def aval (f : List AV) : Operand → AV
 | .tmp t=>(f[t]?).getD und
 | .const (.bool true)=>.tt
 | .const (.bool false)=>.ff
 | .const v=>.lit v
 | .global _=>.top
 | .func g=>.lit (.func (.func g) #[] #[])
theorem rep_aval {w : World} {g : G} {lim : Nat} {f : List AV} {m : Nat → Option Blk} {a : Act} (h : Sim w g lim f m a) (x : Operand) : Rep w g lim (aval f x) (a.eval x):=by
 cases x with
 | tmp t =>
  simp only [aval,Act.eval]
  by_cases ht : t < a.tmps.size
  ·have hl : f.length = a.tmps.size:=h.fr.1
   have h1 : f[t]? = some (f[t]'(by rw [hl];exact ht)):=List.getElem?_eq_getElem (by rw [hl];exact ht)
   have h2 : a.tmps[t]? = some a.tmps[t]:=Array.getElem?_eq_getElem ht
   have:=h.fr.2 t _ _ h1 h2
   simpa [h1,Array.getD,ht] using this
  ·have hl : f.length = a.tmps.size:=h.fr.1
   have h1 : f[t]? = none:=List.getElem?_eq_none (by rw [hl];exact Nat.le_of_not_lt ht)
   simp [h1,Array.getD,ht]
   exact .lit _
 | const v =>
  cases v<;>first|exact .lit _|skip
  rename_i b
  cases b
  ·exact .ff
  ·exact .tt
 | global k=>exact .top _
 | func k=>exact .lit _
def nthK : List AV → Nat → (AV → Prop) → Prop
 | [],_,K=>K und
 | a :: _,0,K=>K a
 | _ :: r,n + 1,K=>nthK r n K
theorem nthK_eq (f : List AV) (n : Nat) (K : AV → Prop) : nthK f n K = K ((f[n]?).getD und):=by
 induction f generalizing n with
 | nil=>simp [nthK]
 | cons a r ih=>cases n<;>simp [nthK,ih]
def avalK (f : List AV) (x : Operand) (K : AV → Prop) : Prop:=
 match x with
 | .tmp t=>nthK f t K
 | .const v=>match v with
  | .bool b=>match b with
   | true=>K .tt
   | false=>K .ff
  | v=>K (.lit v)
 | .global _=>K .top
 | .func g=>K (.lit (.func (.func g) #[] #[]))
theorem avalK_eq (f : List AV) (x : Operand) (K : AV → Prop) : avalK f x K = K (aval f x):=by
 cases x with
 | tmp t=>exact nthK_eq f t K
 | const v =>
  cases v<;>first|rfl|skip
  rename_i b;cases b<;>rfl
 | global k=>rfl
 | func k=>rfl
structure Act1 where
 v : AV
 rd : List (Nat × Blk)
 up : List (Nat × Option Blk)
 fg : List Nat
def fgtsF : List Nat → List AV → List AV
 | [],f=>f
 | k :: r,f=>fgtsF r (fgtL k f)
def fgtsM : List Nat → (Nat → Option Blk) → (Nat → Option Blk)
 | [],m=>m
 | k :: r,m=>fgtsM r (fgtM k m)
def putsM : List (Nat × Option Blk) → (Nat → Option Blk) → (Nat → Option Blk)
 | [],m=>m
 | (k,b) :: r,m=>putsM r (put m k b)
def Ok (P : Program) (base : Nat) (o : Oper) (f : List AV) (m : Nat → Option Blk) (f' : List AV) (m' : Nat → Option Blk) : Prop:=
 ∀ (w : World) (g : G) (a : Act),Sim w g (base + L) f m a → ∀ (K : Act → World → Prop) (Q : Exit → Act → World → Prop),
  (∀ w' g' a',Sim w' g' (base + L) f' m' a' → Tr g w w' → LeG base g g' → K a' w') → o.wp P a w K Q
def Act1.fr (c : Act1) (f : List AV) (d : Option Nat) : List AV:=fput (fgtsF c.fg f) d c.v
def Act1.me (c : Act1) (m : Nat → Option Blk) : Nat → Option Blk:=putsM c.up (fgtsM c.fg m)
def AOk (P : Program) (base : Nat) (o : Oper) (f : List AV) (c : Act1) : Prop:=
 ∀ (f' : List AV) (m' : Nat → Option Blk),(∀ x ∈ o.op.operands.toList,Le (aval f' x) (aval f x)) → (∀ p ∈ c.rd,m' p.1 = some p.2) → Ok P base o f' m' (c.fr f' o.dst) (c.me m')
theorem AOk.val {P : Program} {base : Nat} {o : Oper} {f : List AV} {v : AV} {rd : List (Nat × Blk)}
  (h : ∀ (f' : List AV) (m' : Nat → Option Blk) (w : World) (g : G) (a : Act),Sim w g (base + L) f' m' a → (∀ x ∈ o.op.operands.toList,Rep w g (base + L) (aval f x) (a.eval x)) →
   (∀ p ∈ rd,m' p.1 = some p.2) → ∃ x,(execOp a.eval o).run P w = .ok (.value x) w ∧ Rep w g (base + L) v x) : AOk P base o f ⟨v,rd,[],[]⟩:=by
 intro f' m' hop hrd w g a hs K Q hK
 obtain ⟨x,hr,hv⟩:=h f' m' w g a hs (fun x hx=>hop x hx _ _ _ _ (rep_aval hs x)) hrd
 unfold Oper.wp
 rw [hr,Oper.upon_value]
 exact hK w g _ (hs.put hv o.dst) (Tr.refl g w) (LeG.refl base g)
def vA (v : AV) : Act1:=⟨v,[],[],[]⟩
def inR (k : IntKind) (r : Int) : Prop:=k.wrap r = r
theorem in64 {r : Int} (h : -9223372036854775808 ≤ r) (h' : r ≤ 9223372036854775807) : inR .i64 r:=by
 unfold inR;exact IntWalk.i64_in r ⟨h,h'⟩
def arK (k : IntKind) (r : Int) (K : AV → Prop) : Prop:=(inR k r ∧ K (.lit (.int k r))) ∨ K (.lit (.int k (k.wrap r)))
theorem arK_ok {k : IntKind} {r : Int} {K : AV → Prop} (h : arK k r K) : K (.lit (.int k (k.wrap r))):=by
 rcases h with ⟨h1,h2⟩|h
 ·unfold inR at h1;rw [h1];exact h2
 ·exact h
def bitR (op : BinOp) (k : IntKind) (x y : Int) : Int:=
 match op with
 | .and=>k.wrap (BitVec.ofInt k.bits x &&& BitVec.ofInt k.bits y).toNat
 | .or=>k.wrap (BitVec.ofInt k.bits x ||| BitVec.ofInt k.bits y).toNat
 | .xor=>k.wrap (BitVec.ofInt k.bits x ^^^ BitVec.ofInt k.bits y).toNat
 | _=>k.wrap (BitVec.ofInt k.bits x &&& ~~~BitVec.ofInt k.bits y).toNat
def intK (op : BinOp) (k : IntKind) (a b : Int) (K : AV → Prop) : Prop:=
 match op with
 | .add=>arK k (a + b) K
 | .sub=>arK k (a - b) K
 | .mul=>arK k (a * b) K
 | .quo=>(0 ≤ a ∧ 0 < b ∧ arK k (a / b) K) ∨ (b ≠ 0 ∧ arK k (a.tdiv b) K)
 | .rem=>(0 ≤ a ∧ 0 < b ∧ K (.lit (.int k (a % b)))) ∨ (b ≠ 0 ∧ K (.lit (.int k (a.tmod b))))
 | .and=>K (.lit (.int k (bitR .and k a b)))
 | .or=>K (.lit (.int k (bitR .or k a b)))
 | .xor=>K (.lit (.int k (bitR .xor k a b)))
 | .andNot=>K (.lit (.int k (bitR .andNot k a b)))
 | .eql=>K (.lit (.bool (a == b)))
 | .neq=>K (.lit (.bool (a != b)))
 | .lss=>K (.lit (.bool (decide (a < b))))
 | .leq=>K (.lit (.bool (decide (a ≤ b))))
 | .gtr=>K (.lit (.bool (decide (b < a))))
 | .geq=>K (.lit (.bool (decide (b ≤ a))))
 | .shl=>0 ≤ b ∧ K (.lit (.int k (k.wrap (a * 2 ^ (min b.toNat k.bits)))))
 | .shr=>0 ≤ b ∧ K (.lit (.int k (a.fdiv (2 ^ (min b.toNat k.bits)))))
theorem intK_ok {P : Program} {op : BinOp} {k k' : IntKind} {a b : Int} {K : AV → Prop} {t : TypeId} (h : intK op k a b K) (hk : k = k' ∨ op = .shl ∨ op = .shr) :
  ∃ v,K (.lit v) ∧ ∀ w,(binOp op t (.int k a) (.int k' b)).run P w = .ok v w:=by
 cases op<;>simp only [intK] at h
 case add=>obtain rfl:=hk.resolve_right (by simp);exact ⟨_,arK_ok h,fun w=>by simp [binOp,Op.intArith]⟩
 case sub=>obtain rfl:=hk.resolve_right (by simp);exact ⟨_,arK_ok h,fun w=>by simp [binOp,Op.intArith]⟩
 case mul=>obtain rfl:=hk.resolve_right (by simp);exact ⟨_,arK_ok h,fun w=>by simp [binOp,Op.intArith]⟩
 case quo =>
  obtain rfl:=hk.resolve_right (by simp)
  rcases h with ⟨h1,h2,h3⟩|⟨h1,h3⟩
  ·have hb : b ≠ 0:=by omega
   exact ⟨_,arK_ok h3,fun w=>by simp [binOp,Op.intDiv,hb,Int.tdiv_eq_ediv_of_nonneg h1]⟩
  ·exact ⟨_,arK_ok h3,fun w=>by simp [binOp,Op.intDiv,h1]⟩
 case rem =>
  obtain rfl:=hk.resolve_right (by simp)
  rcases h with ⟨h1,h2,h3⟩|⟨h1,h3⟩
  ·have hb : b ≠ 0:=by omega
   exact ⟨_,h3,fun w=>by simp [binOp,Op.intDiv,hb,Int.tmod_eq_emod_of_nonneg h1]⟩
  ·exact ⟨_,h3,fun w=>by simp [binOp,Op.intDiv,h1]⟩
 case shl =>
  have hn : ¬ b < 0:=by omega
  exact ⟨_,h.2,fun w=>by simp [binOp,Op.shift,hn]⟩
 case shr =>
  have hn : ¬ b < 0:=by omega
  exact ⟨_,h.2,fun w=>by simp [binOp,Op.shift,hn]⟩
 case and=>obtain rfl:=hk.resolve_right (by simp);exact ⟨_,h,fun w=>by simp [binOp,Op.intBits,bitR]⟩
 case or=>obtain rfl:=hk.resolve_right (by simp);exact ⟨_,h,fun w=>by simp [binOp,Op.intBits,bitR]⟩
 case xor=>obtain rfl:=hk.resolve_right (by simp);exact ⟨_,h,fun w=>by simp [binOp,Op.intBits,bitR]⟩
 case andNot=>obtain rfl:=hk.resolve_right (by simp);exact ⟨_,h,fun w=>by simp [binOp,Op.intBits,bitR]⟩
 all_goals (obtain rfl:=hk.resolve_right (by simp);exact ⟨_,h,fun w=>by simp [binOp,Op.intCmp]⟩)
open Go Go.RowKit
def one : AV → Bool
 | .tt=>true
 | .ff=>true
 | .lit v=>v.oneCell'
 | .vec _ _=>true
 | .emp _=>true
 | .bl _ _=>true
 | .own _ _ _ _ _=>true
 | .ptr _ _=>true
 | .rptr _ _ _ _=>true
 | .vptr _ _ _ _=>true
 | .fec _ _ _=>true
 | .fptr _ _ _ _=>true
 | .sl=>true
 | .clo _ _ _=>true
 | .mp _=>true
 | _=>false
def ones : List AV → Bool
 | []=>true
 | a :: r=>match one a with|true=>ones r|false=>false
theorem one_ok {w : World} {g : G} {lim : Nat} {v : AV} {x : Value} (h : Rep w g lim v x) (h1 : one v = true) : x.oneCell' = true:=by
 cases h<;>first|rfl|exact h1|(simp [one] at h1)
theorem rep_ptr {w : World} {g : G} {lim k off : Nat} {x : Value} (h : Rep w g lim (.ptr k off) x) (ha : g.al k) : x = .pointer (some ⟨g.be k,off,none⟩):=by
 cases h with|ptr _ _ b hk h=>rw [h ha]
theorem rep_rptr {w : World} {g : G} {lim k i off : Nat} {t : Ty} {x : Value} (h : Rep w g lim (.rptr t k i off) x) (ha : g.al k) : x = .pointer (some ⟨g.be k,i * csz t + off,none⟩):=by
 cases h with|rptr _ _ _ _ b hk h=>rw [h ha]
theorem ones_get {cs : List AV} (h : ones cs = true) {i : Nat} {c : AV} (hc : cs[i]? = some c) : one c = true:=by
 induction cs generalizing i with
 | nil=>simp at hc
 | cons a r ih =>
  simp only [ones] at h
  cases ha : one a with
  | false=>rw [ha] at h;cases h
  | true =>
   rw [ha] at h
   cases i with
   | zero=>simp at hc;subst hc;exact ha
   | succ i=>simp at hc;exact ih h hc
def cellsK (v : AV) (K : List AV → Prop) : Prop:=
 match v with
 | .agg cs=>match ones cs with|true=>K cs|false=>False
 | v=>match one v with|true=>K [v]|false=>False
theorem cells_one {x : Value} (h : x.oneCell' = true) : x.cells = #[x]:=by cases x<;>first|rfl|(simp [Value.oneCell'] at h)
theorem cellsK_ok {v : AV} {K : List AV → Prop} (h : cellsK v K) : ∃ cs,K cs ∧ (∀ {w : World} {g : G} {lim : Nat} {x : Value},Rep w g lim v x →
  cs.length = x.cells.size ∧ (∀ (i : Nat) c y,cs[i]? = some c → x.cells[i]? = some y → Rep w g lim c y) ∧ ∀ y ∈ x.cells.toList,y.oneCell' = true):=by
 have key : ∀ v : AV,(match one v with|true=>K [v]|false=>False) → ∃ cs,K cs ∧ (∀ {w : World} {g : G} {lim : Nat} {x : Value},Rep w g lim v x →
  cs.length = x.cells.size ∧ (∀ (i : Nat) c y,cs[i]? = some c → x.cells[i]? = some y → Rep w g lim c y) ∧ ∀ y ∈ x.cells.toList,y.oneCell' = true):=by
  intro v h
  cases h1 : one v with
  | false=>rw [h1] at h;exact h.elim
  | true =>
   rw [h1] at h
   refine ⟨[v],h,fun {w g lim x} hr=>?_⟩
   have h2:=one_ok hr h1
   rw [cells_one h2]
   refine ⟨rfl,fun i c y hc hy=>?_,fun y hy=>by simp at hy;rw [hy];exact h2⟩
   cases i with
   | zero=>simp at hc hy;subst hc;subst hy;exact hr
   | succ i=>simp at hc
 cases v with
 | agg cs =>
  simp only [cellsK] at h
  cases h1 : ones cs with
  | false=>rw [h1] at h;exact h.elim
  | true =>
   rw [h1] at h
   refine ⟨cs,h,fun {w g lim x} hr=>?_⟩
   cases hr with
   | agg cs xs hl hr =>
    refine ⟨hl,hr,fun y hy=>?_⟩
    obtain ⟨i,hi⟩:=List.getElem?_of_mem hy
    have hi' : xs[i]? = some y:=by simpa [Value.cells] using hi
    have hlt : i < xs.size:=(Array.getElem?_eq_some_iff.1 hi').1
    have hc : cs[i]? = some (cs[i]'(by omega)):=List.getElem?_eq_getElem (by omega)
    exact one_ok (hr i _ _ hc hi') (ones_get h1 hc)
 | _=>exact key _ h
def dropK : List AV → Nat → (List AV → Prop) → Prop
 | l,0,K=>K l
 | [],_ + 1,_=>False
 | _ :: r,n + 1,K=>dropK r n K
def takeK : List AV → Nat → (List AV → Prop) → Prop
 | _,0,K=>K []
 | [],_ + 1,_=>False
 | a :: r,n + 1,K=>takeK r n fun l=>K (a :: l)
theorem dropK_ok {l : List AV} {o : Nat} {K : List AV → Prop} (h : dropK l o K) : o ≤ l.length ∧ K (l.drop o):=by
 induction o generalizing l with
 | zero=>cases l<;>exact ⟨Nat.zero_le _,by simpa [dropK] using h⟩
 | succ o ih =>
  cases l with
  | nil=>exact h.elim
  | cons a r=>obtain ⟨h1,h2⟩:=ih h;exact ⟨by simpa using h1,by simpa using h2⟩
theorem takeK_ok {l : List AV} {n : Nat} {K : List AV → Prop} (h : takeK l n K) : n ≤ l.length ∧ K (l.take n):=by
 induction n generalizing l K with
 | zero=>cases l<;>exact ⟨Nat.zero_le _,by simpa [takeK] using h⟩
 | succ n ih =>
  cases l with
  | nil=>exact h.elim
  | cons a r=>obtain ⟨h1,h2⟩:=ih (l:=r) (K:=fun l=>K (a :: l)) h;exact ⟨by simpa using h1,by simpa using h2⟩
def overK : List AV → Nat → List AV → (List AV → Prop) → Prop
 | l,_,[],K=>K l
 | [],_,_ :: _,_=>False
 | _ :: r,0,v :: vs,K=>overK r 0 vs fun l=>K (v :: l)
 | a :: r,n + 1,v :: vs,K=>overK r n (v :: vs) fun l=>K (a :: l)
theorem overK_ok {l : List AV} {o : Nat} {vs : List AV} {K : List AV → Prop} (h : overK l o vs K) :
  ∃ l',K l' ∧ l'.length = l.length ∧ (vs ≠ [] → o + vs.length ≤ l.length) ∧ ∀ i,l'[i]? = if o ≤ i ∧ i < o + vs.length then vs[i - o]? else l[i]?:=by
 induction l generalizing o vs K with
 | nil =>
  cases vs with
  | nil=>exact ⟨[],by simpa [overK] using h,rfl,by simp,fun i=>by simp⟩
  | cons v vs=>simp [overK] at h
 | cons a r ih =>
  cases vs with
  | nil =>
   refine ⟨a :: r,by simpa [overK] using h,rfl,by simp,fun i=>?_⟩
   rw [if_neg (by simp only [List.length_nil];omega)]
  | cons v vs =>
   cases o with
   | zero =>
    simp only [overK] at h
    obtain ⟨l',h1,h2,h3,h4⟩:=ih h
    refine ⟨v :: l',h1,by simp [h2],fun _=>?_,fun i=>?_⟩
    ·by_cases hv : vs = []
     ·subst hv;simp
     ·have:=h3 hv;simp at this ⊢;omega
    ·cases i with
     | zero=>simp
     | succ i =>
      have:=h4 i
      simp only [List.getElem?_cons_succ,this]
      by_cases hi : i < vs.length
      ·rw [if_pos (by omega),if_pos (by simp;omega)];simp
      ·rw [if_neg (by omega),if_neg (by simp;omega)]
   | succ n =>
    simp only [overK] at h
    obtain ⟨l',h1,h2,h3,h4⟩:=ih h
    refine ⟨a :: l',h1,by simp [h2],fun _=>by have:=h3 (by simp);simp at this ⊢;omega,fun i=>?_⟩
    cases i with
    | zero=>rw [if_neg (by omega)];simp
    | succ i =>
     have:=h4 i
     simp only [List.getElem?_cons_succ,this]
     by_cases hi : n ≤ i ∧ i < n + (v :: vs).length
     ·rw [if_pos hi,if_pos (by omega)]
      rw [show i + 1 - (n + 1) = i - n by omega]
     ·rw [if_neg hi,if_neg (by omega)]
def aggK (P : Program) (t : TypeId) (cs : List AV) (off : Nat) (K : AV → Prop) : Prop:=
 match isAggT P t,szOf P t with
 | some true,some n=>dropK cs off fun l=>takeK l n fun xs=>K (.agg xs)
 | some false,some 1=>dropK cs off fun l=>takeK l 1 fun xs=>match xs with|[x]=>K x|_=>False
 | _,_=>False
theorem aggK_ok {P : Program} {t : TypeId} {cs : List AV} {off : Nat} {K : AV → Prop} (h : aggK P t cs off K) : ∃ v,K v ∧
  ∀ {w : World} {g : G} {lim b o : Nat} (xs : Nat → Value),(∀ (i : Nat) c,cs[i]? = some c → w.cell? ⟨b,o + i,none⟩ = some (xs i)) → (∀ (i : Nat) c,cs[i]? = some c → Rep w g lim c (xs i)) →
   ∃ x,(Instr.loadAt t (.pointer (some ⟨b,o + off,none⟩))).run P w = .ok x w ∧ Rep w g lim v x:=by
 unfold aggK at h
 split at h
 ·rename_i n ha hs
  obtain ⟨h1,h2⟩:=dropK_ok h
  obtain ⟨h3,h4⟩:=takeK_ok h2
  refine ⟨_,h4,fun {w g lim b o} xs hw hr=>?_⟩
  simp only [List.length_drop] at h3
  have hl : ((List.range n).map fun j=>xs (off + j)).length = n:=by simp
  refine ⟨.agg ((List.range n).map fun j=>xs (off + j)).toArray,?_,?_⟩
  ·refine run_loadAgg b (o + off) _ ha (by rw [hl];exact hs) fun j x hj=>?_
   have hjn : j < n:=by have:=(List.getElem?_eq_some_iff.1 hj).1;simpa using this
   simp only [List.getElem?_map,List.getElem?_range hjn,Option.map_some,Option.some.injEq] at hj
   subst hj
   have:=hw (off + j) _ (List.getElem?_eq_getElem (by omega))
   rw [Nat.add_assoc];exact this
  ·refine .agg _ _ (by simp [List.length_take,List.length_drop];omega) fun i c x hc hx=>?_
   have hin : i < n:=by have:=(List.getElem?_eq_some_iff.1 hc).1;simp at this;omega
   rw [List.getElem?_take,if_pos hin,List.getElem?_drop] at hc
   simp [List.getElem?_range hin] at hx
   subst hx
   exact hr _ _ hc
 ·rename_i ha hs
  obtain ⟨h1,h2⟩:=dropK_ok h
  obtain ⟨h3,h4⟩:=takeK_ok h2
  simp only [List.length_drop] at h3
  have hc : cs[off]? = some (cs[off]'(by omega)):=List.getElem?_eq_getElem (by omega)
  have he : (cs.drop off).take 1 = [cs[off]'(by omega)]:=by
   rw [List.drop_eq_getElem_cons (by omega),List.take_succ_cons,List.take_zero]
  rw [he] at h4
  refine ⟨_,h4,fun {w g lim b o} xs hw hr=>⟨xs off,run_loadOne b (o + off) _ ha (hw _ _ hc),hr _ _ hc⟩⟩
 ·exact h.elim
def elt (t : Ty) (l : List (El t)) (i : Nat) : El t:=(l[i]?).getD (dflt t)
theorem elt_get (t : Ty) (l : List (El t)) (i : Nat) (h : i < l.length) : l[i]? = some (elt t l i):=by
 simp [elt,List.getElem?_eq_getElem h]
def memK (m : Mem) (k : Nat) (K : Blk → Prop) : Prop:=match m with
 | []=>False
 | (i,b) :: r=>match Nat.beq i k with|true=>K b|false=>memK r k K
theorem memK_ok {m : Mem} {k : Nat} {K : Blk → Prop} (h : memK m k K) : ∃ b,mget m k = some b ∧ K b:=by
 induction m with
 | nil=>exact h.elim
 | cons p r ih =>
  obtain ⟨i,b⟩:=p
  simp only [memK] at h
  simp only [mget]
  cases hb : Nat.beq i k with
  | true=>rw [hb] at h;exact ⟨b,rfl,h⟩
  | false=>rw [hb] at h;exact ih h
def loadK (P : Program) (m : Mem) (t : TypeId) (a : AV) (K : Act1 → Prop) : Prop:=
 match a with
 | .ptr k off=>memK m k fun b=>match b with
  | .box cs=>aggK P t cs off fun v=>K ⟨v,[(k,.box cs)],[],[]⟩
  | .row t' l=>aggK P t (flat t' l) off fun v=>K ⟨v,[(k,.row t' l)],[],[]⟩
  | _=>False
 | .rptr tt k i off=>memK m k fun b=>match b with
  | .row t' l=>match Nat.beq (csz tt) (csz t') with
   | true=>i < l.length ∧ aggK P t (cells t' (elt t' l i)) off fun v=>K ⟨v,[(k,.row t' l)],[],[]⟩
   | false=>False
  | .box cs=>∃ l,cs.drop (i * csz tt) = l ∧ aggK P t l off fun v=>K ⟨v,[(k,.box cs)],[],[]⟩
  | _=>False
 | .vptr tt l i off=>i < l.length ∧ aggK P t (cells tt (elt tt l i)) off fun v=>K (vA v)
 | _=>False
theorem execOp_load {P : Program} {o : Oper} {t : TypeId} {x : Operand} (ho : o.op = .load t x) (ρ : Operand → Value) (w : World) {y : Value} (h : (Instr.loadAt t (ρ x)).run P w = .ok y w) :
  (execOp ρ o).run P w = .ok (.value y) w:=by
 unfold execOp;rw [ho];simp [h]
theorem flat_elt {t : Ty} {l : List (El t)} {i : Nat} (h : i < l.length) {j : Nat} {c : AV} (hc : (cells t (elt t l i))[j]? = some c) : (flat t l)[i * csz t + j]? = some c:=by
 have hj : j < csz t:=by have:=(List.getElem?_eq_some_iff.1 hc).1;rwa [cells_length] at this
 rw [flat_get t l i _ (elt_get t l i h) j hj];exact hc
theorem loadK_ok {P : Program} {base : Nat} {m : Mem} {f : List AV} {o : Oper} {t : TypeId} {x : Operand} (ho : o.op = .load t x) {K : Act1 → Prop} (h : loadK P m t (aval f x) K) :
  ∃ c,K c ∧ (∀ p ∈ c.rd,mget m p.1 = some p.2) ∧ AOk P base o f c:=by
 have hx : x ∈ o.op.operands.toList:=by rw [ho];simp [Op.operands]
 cases ha : aval f x<;>rw [ha] at h<;>simp only [loadK] at h
 case ptr k off =>
  obtain ⟨b,hb,h⟩:=memK_ok h
  cases b with
  | mp _ _=>exact h.elim
  | pm _ _ _=>exact h.elim
  | row t' l =>
   simp only at h
   obtain ⟨v,hK,hv⟩:=aggK_ok h
   refine ⟨_,hK,by simp [hb],AOk.val fun f' m' w g a hs hop hrd=>?_⟩
   have hm : m' k = some (.row t' l):=hrd (k,.row t' l) (by simp)
   have hal : g.al k:=(hs.me.al k).2 (by simp [hm])
   have hr:=hop x hx
   rw [ha] at hr
   have he : a.eval x = .pointer (some ⟨g.be k,off,none⟩):=rep_ptr hr hal
   rcases hs.me.blk k _ hm with ⟨_,rfl⟩|⟨_,c,ty,b1,b2,b3,b4⟩
   ·obtain ⟨y,e1,e2⟩:=hv (w:=w) (g:=g) (lim:=base + L) (b:=g.be k) (o:=0) (fun i=>undef) (fun i a hi=>by simp [flat] at hi) (fun i a hi=>by simp [flat] at hi)
    exact ⟨y,execOp_load ho _ w (by rw [he];simpa using e1),e2⟩
   ·obtain ⟨y,e1,e2⟩:=hv (w:=w) (g:=g) (lim:=base + L) (b:=g.be k) (o:=0) (fun i=>(c[i]?).getD undef)
     (fun i a hi=>by
      have hlt : i < c.size:=by have:=(List.getElem?_eq_some_iff.1 hi).1;omega
      rw [Nat.zero_add,cell_of_row w _ i c ty _ b1,Array.getElem?_eq_getElem hlt];simp)
     (fun i a hi=>by
      have hlt : i < c.size:=by have:=(List.getElem?_eq_some_iff.1 hi).1;omega
      have:=b4 i a c[i] hi (Array.getElem?_eq_getElem hlt)
      simpa [Array.getElem?_eq_getElem hlt] using this)
    exact ⟨y,execOp_load ho _ w (by rw [he];simpa using e1),e2⟩
  | box cs =>
   simp only at h
   obtain ⟨v,hK,hv⟩:=aggK_ok h
   refine ⟨_,hK,by simp [hb],AOk.val fun f' m' w g a hs hop hrd=>?_⟩
   have hm : m' k = some (.box cs):=hrd (k,.box cs) (by simp)
   have hal : g.al k:=(hs.me.al k).2 (by simp [hm])
   have hr:=hop x hx
   rw [ha] at hr
   have he : a.eval x = .pointer (some ⟨g.be k,off,none⟩):=rep_ptr hr hal
   obtain ⟨_,c,ty,b1,b2,b3,b4⟩:=hs.me.blk k _ hm
   obtain ⟨y,e1,e2⟩:=hv (w:=w) (g:=g) (lim:=base + L) (b:=g.be k) (o:=0) (fun i=>(c[i]?).getD undef)
    (fun i a hi=>by
     have hlt : i < c.size:=by have:=(List.getElem?_eq_some_iff.1 hi).1;omega
     rw [Nat.zero_add,cell_of_row w _ i c ty _ b1,Array.getElem?_eq_getElem hlt];simp)
    (fun i a hi=>by
     have hlt : i < c.size:=by have:=(List.getElem?_eq_some_iff.1 hi).1;omega
     have:=b4 i a c[i] hi (Array.getElem?_eq_getElem hlt)
     simpa [Array.getElem?_eq_getElem hlt] using this)
   exact ⟨y,execOp_load ho _ w (by rw [he];simpa using e1),e2⟩
 case rptr tt k i off =>
  obtain ⟨b,hb,h⟩:=memK_ok h
  cases b with
  | box cs =>
   simp only at h
   obtain ⟨l,hl,h⟩:=h
   obtain ⟨v,hK,hv⟩:=aggK_ok h
   refine ⟨_,hK,by simp [hb],AOk.val fun f' m' w g a hs hop hrd=>?_⟩
   have hm : m' k = some (.box cs):=hrd (k,.box cs) (by simp)
   have hal : g.al k:=(hs.me.al k).2 (by simp [hm])
   have hr:=hop x hx
   rw [ha] at hr
   have he : a.eval x = .pointer (some ⟨g.be k,i * csz tt + off,none⟩):=rep_rptr hr hal
   obtain ⟨_,c,ty,b1,b2,b3,b4⟩:=hs.me.blk k _ hm
   have hget : ∀ (j : Nat) a,l[j]? = some a → cs[i * csz tt + j]? = some a:=fun j a hj=>by rw [← hl,List.getElem?_drop] at hj;exact hj
   obtain ⟨y,e1,e2⟩:=hv (w:=w) (g:=g) (lim:=base + L) (b:=g.be k) (o:=i * csz tt) (fun j=>(c[i * csz tt + j]?).getD undef)
    (fun j a hj=>by
     have hf:=hget j a hj
     have hlt : i * csz tt + j < c.size:=by have:=(List.getElem?_eq_some_iff.1 hf).1;omega
     rw [cell_of_row w _ _ c ty _ b1,Array.getElem?_eq_getElem hlt];simp)
    (fun j a hj=>by
     have hf:=hget j a hj
     have hlt : i * csz tt + j < c.size:=by have:=(List.getElem?_eq_some_iff.1 hf).1;omega
     have:=b4 _ a c[i * csz tt + j] hf (Array.getElem?_eq_getElem hlt)
     simpa [Array.getElem?_eq_getElem hlt] using this)
   exact ⟨y,execOp_load ho _ w (by rw [he];exact e1),e2⟩
  | mp _ _=>exact h.elim
  | pm _ _ _=>exact h.elim
  | row t' l =>
   simp only at h
   cases hcs : Nat.beq (csz tt) (csz t') with
   | false=>rw [hcs] at h;exact h.elim
   | true =>
    rw [hcs] at h
    obtain ⟨hi,h⟩:=h
    obtain ⟨v,hK,hv⟩:=aggK_ok h
    refine ⟨_,hK,by simp [hb],AOk.val fun f' m' w g a hs hop hrd=>?_⟩
    have hm : m' k = some (.row t' l):=hrd (k,.row t' l) (by simp)
    have hal : g.al k:=(hs.me.al k).2 (by simp [hm])
    have hr:=hop x hx
    rw [ha] at hr
    have he : a.eval x = .pointer (some ⟨g.be k,i * csz t' + off,none⟩):=by
     rw [← nbt.1 hcs];exact rep_rptr hr hal
    have hbr:=hs.me.blk k _ hm
    obtain ⟨c,ty,b1,b2,b3,b4⟩:=hbr.getRow (Nat.lt_of_lt_of_le (Nat.mul_pos (Nat.lt_of_le_of_lt (Nat.zero_le _) hi) (csz_pos t')) hbr.le)
    obtain ⟨y,e1,e2⟩:=hv (w:=w) (g:=g) (lim:=base + L) (b:=g.be k) (o:=i * csz t') (fun j=>(c[i * csz t' + j]?).getD undef)
     (fun j a hj=>by
      have hf:=flat_elt hi hj
      have hlt : i * csz t' + j < c.size:=by have:=(List.getElem?_eq_some_iff.1 hf).1;omega
      rw [cell_of_row w _ _ c ty _ b1,Array.getElem?_eq_getElem hlt];simp)
     (fun j a hj=>by
      have hf:=flat_elt hi hj
      have hlt : i * csz t' + j < c.size:=by have:=(List.getElem?_eq_some_iff.1 hf).1;omega
      have:=b4 _ a c[i * csz t' + j] hf (Array.getElem?_eq_getElem hlt)
      simpa [Array.getElem?_eq_getElem hlt] using this)
    exact ⟨y,execOp_load ho _ w (by rw [he];exact e1),e2⟩
 case vptr tt l i off =>
  obtain ⟨hi,h⟩:=h
  obtain ⟨v,hK,hv⟩:=aggK_ok h
  refine ⟨_,hK,by simp [vA],AOk.val fun f' m' w g a hs hop hrd=>?_⟩
  have hr:=hop x hx
  rw [ha] at hr
  generalize hE : a.eval x = E at hr
  cases hr with
  | vptr _ _ _ _ b o' xs hro hw hrr =>
   obtain ⟨y,e1,e2⟩:=hv (w:=w) (g:=g) (lim:=base + L) (b:=b) (o:=o' + i * csz tt) (fun j=>xs (i * csz tt + j))
    (fun j a hj=>by rw [Nat.add_assoc];exact hw _ a (flat_elt hi hj)) (fun j a hj=>hrr _ a (flat_elt hi hj))
   exact ⟨y,execOp_load ho _ w (by rw [hE,← Nat.add_assoc];exact e1),e2⟩
 all_goals exact h.elim
open Go Go.RowKit
inductive LeL : List AV → List AV → Prop where
 | nil : LeL [] []
 | cons {c c' : AV} {r r' : List AV} (h : Le c c') (h' : LeL r r') : LeL (c :: r) (c' :: r')
theorem LeL.refl : ∀ l,LeL l l
 | []=>.nil
 | c :: r=>.cons (.refl c) (LeL.refl r)
theorem LeL.length {l l' : List AV} (h : LeL l l') : l.length = l'.length:=by
 induction h with
 | nil=>rfl
 | cons _ _ ih=>simp [ih]
theorem LeL.get {l l' : List AV} (h : LeL l l') {i : Nat} {c' : AV} (hc : l'[i]? = some c') : ∃ c,l[i]? = some c ∧ Le c c':=by
 induction h generalizing i with
 | nil=>simp at hc
 | cons h _ ih =>
  cases i with
  | zero=>simp at hc;subst hc;exact ⟨_,by simp,h⟩
  | succ i=>simp at hc;simpa using ih hc
theorem toSlots_ok {c : AV} {l : List Slot} (h : toSlots c = some l) : Le c (.vec .slot l):=by
 unfold toSlots at h;split at h<;>simp at h<;>subst h<;>intro w g lim x hr
 ·exact hr
 ·cases hr;exact .vecE _ _ _
 ·cases hr;exact .vecE _ _ _
theorem toU8s_ok {c : AV} {l : List Int} (h : toU8s c = some l) : Le c (.vec .u8 l):=by
 unfold toU8s at h;split at h<;>simp at h<;>subst h<;>intro w g lim x hr
 ·exact hr
 ·cases hr;exact .vecE _ _ _
 ·cases hr;exact .vecE _ _ _
theorem toI64s_ok {c : AV} {l : List Int} (h : toI64s c = some l) : Le c (.vec .i64 l):=by
 unfold toI64s at h;split at h<;>simp at h<;>subst h<;>intro w g lim x hr
 ·exact hr
 ·cases hr;exact .vecE _ _ _
 ·cases hr;exact .vecE _ _ _
theorem toHeaps_ok {c : AV} {l : List Heap} (h : toHeaps c = some l) : Le c (.vec .heap l):=by
 unfold toHeaps at h;split at h<;>simp at h<;>subst h<;>intro w g lim x hr
 ·exact hr
 ·cases hr;exact .vecE _ _ _
 ·cases hr;exact .vecE _ _ _
theorem toBoxes_ok {c : AV} {l : List Box} (h : toBoxes c = some l) : Le c (.vec .box l):=by
 unfold toBoxes at h;split at h<;>simp at h<;>subst h<;>intro w g lim x hr
 ·exact hr
 ·cases hr;exact .vecE _ _ _
 ·cases hr;exact .vecE _ _ _
theorem toOrders_ok {c : AV} {l : List Order} (h : toOrders c = some l) : Le c (.vec .order l):=by
 unfold toOrders at h;split at h<;>simp at h<;>subst h<;>intro w g lim x hr
 ·exact hr
 ·cases hr;exact .vecE _ _ _
 ·cases hr;exact .vecE _ _ _
theorem toSlotsF_ok {c : AV} {l : List Slot} (h : toSlotsF c = some l) : Le c (.fec false .slot l):=by
 unfold toSlotsF at h;split at h<;>simp at h<;>subst h<;>intro w g lim x hr
 ·exact hr
 ·cases hr;exact .fecE _ _ _ _
 ·cases hr;exact .fecE _ _ _ _
theorem toU8sF_ok {c : AV} {l : List Int} (h : toU8sF c = some l) : Le c (.fec false .u8 l):=by
 unfold toU8sF at h;split at h<;>simp at h<;>subst h<;>intro w g lim x hr
 ·exact hr
 ·cases hr;exact .fecE _ _ _ _
 ·cases hr;exact .fecE _ _ _ _
theorem toBoxesF_ok {c : AV} {l : List Box} (h : toBoxesF c = some l) : Le c (.vec .boxF l):=by
 unfold toBoxesF at h;split at h<;>simp at h<;>subst h<;>intro w g lim x hr
 ·exact hr
 ·cases hr;exact .vecE _ _ _
 ·cases hr;exact .vecE _ _ _
theorem ofCells_ok {t : Ty} {cs : List AV} {e : El t} (h : ofCells t cs = some e) : LeL cs (cells t e):=by
 unfold ofCells at h
 split at h
 case h_5=>simp only [Option.map_eq_some_iff] at h;obtain ⟨l,h1,rfl⟩:=h;exact .cons (.refl _) (.cons (toSlots_ok h1) .nil)
 case h_6 =>
  split at h<;>simp at h
  subst h;rename_i h1 h2 h3
  exact .cons (.refl _) (.cons (.refl _) (.cons (toU8s_ok h1) (.cons (toHeaps_ok h2) (.cons (toBoxes_ok h3) .nil))))
 case h_7 =>
  split at h<;>simp at h
  subst h;rename_i h1 h2
  exact .cons (.refl _) (.cons (.refl _) (.cons (.refl _) (.cons (toSlots_ok h1) (.cons (.refl _) (.cons (toSlots_ok h2) (.cons (.refl _) .nil))))))
 case h_13=>simp only [Option.map_eq_some_iff] at h;obtain ⟨l,h1,rfl⟩:=h;exact .cons (toSlots_ok h1) (.cons (.refl _) (.cons (.refl _) .nil))
 case h_14=>exact .cons (toI64s_ok h) .nil
 case h_15=>exact .cons (toOrders_ok h) .nil
 case h_17=>simp only [Option.map_eq_some_iff] at h;obtain ⟨l,h1,rfl⟩:=h;exact .cons (.refl _) (.cons (.refl _) (.cons (.refl _) (.cons (toI64s_ok h1) .nil)))
 case h_20=>simp only [Option.map_eq_some_iff] at h;obtain ⟨l,h1,rfl⟩:=h;exact .cons (.refl _) (.cons (toSlotsF_ok h1) .nil)
 case h_21 =>
  split at h
  ·rename_i h1;simp at h;subst h;exact .cons (.refl _) (.cons (toSlotsF_ok h1) .nil)
  ·simp only [Option.map_eq_some_iff] at h;obtain ⟨l,h1,rfl⟩:=h;exact .cons (.refl _) (.cons (toSlots_ok h1) .nil)
 case h_22 =>
  split at h<;>simp at h
  subst h;rename_i h1 h2 h3
  exact .cons (.refl _) (.cons (.refl _) (.cons (toU8sF_ok h1) (.cons (toHeaps_ok h2) (.cons (toBoxesF_ok h3) .nil))))
 case h_23 =>
  split at h<;>simp at h
  subst h;rename_i h1 h2 h3
  exact .cons (.refl _) (.cons (.refl _) (.cons (toU8sF_ok h1) (.cons (toHeaps_ok h2) (.cons (toBoxes_ok h3) .nil))))
 all_goals first
  | (simp at h;subst h;exact LeL.refl _)
  | (simp at h;done)
def ofK (t : Ty) (cs : List AV) (K : El t → Prop) : Prop:=match ofCells t cs with|some e=>K e|none=>False
theorem ofK_ok {t : Ty} {cs : List AV} {K : El t → Prop} (h : ofK t cs K) : ∃ e,K e ∧ LeL cs (cells t e):=by
 unfold ofK at h
 cases he : ofCells t cs with
 | none=>rw [he] at h;exact h.elim
 | some e=>rw [he] at h;exact ⟨e,h,ofCells_ok he⟩
def storeK (P : Program) (m : Mem) (t : TypeId) (a v : AV) (K : Act1 → Prop) : Prop:=
 cellsK v fun vs=>match szOf P t with
  | some (n + 1)=>match Nat.beq (n + 1) vs.length with
   | true=>match a with
    | .ptr k off=>memK m k fun b=>match b with
     | .box cs=>overK cs off vs fun cs'=>K ⟨und,[(k,.box cs)],[(k,some (.box cs'))],[]⟩
     | .row _ _=>False
     | .mp _ _=>False
     | .pm _ _ _=>False
    | .rptr tt k i off=>memK m k fun b=>match b with
     | .box _=>False
     | .mp _ _=>False
     | .pm _ _ _=>False
     | .row t' l=>match Nat.beq (csz tt) (csz t') with
      | true=>i < l.length ∧ overK (cells t' (elt t' l i)) off vs fun cs'=>ofK t' cs' fun e=>K ⟨und,[(k,.row t' l)],[(k,some (.row t' (l.set i e)))],[]⟩
      | false=>False
    | .fptr tt n2 i off=>match Nat.ble (off + vs.length) (csz tt) with
     | true=>i < n2 ∧ K ⟨und,[],[],[]⟩
     | false=>False
    | _=>False
   | false=>False
  | _=>False
theorem flat_set {t : Ty} {l : List (El t)} {i : Nat} (hi : i < l.length) (e : El t) (j : Nat) :
  (flat t (l.set i e))[j]? = if i * csz t ≤ j ∧ j < i * csz t + csz t then (cells t e)[j - i * csz t]? else (flat t l)[j]?:=by
 have hp:=csz_pos t
 by_cases hj : j < l.length * csz t
 ·have hq : j / csz t < l.length:=Nat.div_lt_of_lt_mul (by rw [Nat.mul_comm];exact hj)
  have hjm : j = j / csz t * csz t + j % csz t:=by rw [Nat.mul_comm];exact (Nat.div_add_mod j (csz t)).symm
  have hm : j % csz t < csz t:=Nat.mod_lt _ hp
  have hl2 : (l.set i e)[j / csz t]? = some (if i = j / csz t then e else elt t l (j / csz t)):=by
   rw [List.getElem?_set]
   by_cases hij : i = j / csz t
   ·subst hij;simp [hi]
   ·simp [hij,elt_get t l _ hq]
  rw [hjm,flat_get t _ _ _ hl2 _ hm,flat_get t l _ _ (elt_get t l _ hq) _ hm]
  by_cases hij : i = j / csz t
  ·rw [← hij,if_pos rfl,if_pos (by omega)]
   congr 1;omega
  ·rw [if_neg hij,if_neg]
   intro hc
   apply hij
   have h1 : i * csz t < (j / csz t + 1) * csz t:=by rw [Nat.succ_mul];omega
   have h2 : j / csz t * csz t < (i + 1) * csz t:=by rw [Nat.succ_mul];omega
   have h3:=Nat.lt_of_mul_lt_mul_right h1
   have h4:=Nat.lt_of_mul_lt_mul_right h2
   omega
 ·have h1 : (flat t (l.set i e))[j]? = none:=List.getElem?_eq_none (by rw [flat_length];simp;omega)
  have h2 : (flat t l)[j]? = none:=List.getElem?_eq_none (by rw [flat_length];omega)
  have h3 : (i + 1) * csz t ≤ l.length * csz t:=Nat.mul_le_mul_right _ hi
  rw [Nat.succ_mul] at h3
  rw [h1,if_neg (by omega),h2]
theorem execOp_store {P : Program} {o : Oper} {t : TypeId} {x y : Operand} (ho : o.op = .store t x y) (ρ : Operand → Value) (w : World) {w' : World} (h : (Instr.storeAt t (ρ x) (ρ y)).run P w = .ok () w') :
  (execOp ρ o).run P w = .ok .skip w':=by
 unfold execOp;rw [ho];simp [h]
theorem store_ok {P : Program} {base : Nat} {o : Oper} {t : TypeId} {x y : Operand} (ho : o.op = .store t x y) {f : List AV} {m : Nat → Option Blk} {w : World} {g : G} {a : Act}
  (hs : Sim w g (base + L) f m a) {k : Nat} (hal : g.al k) (hz0 : 0 < g.sz k) {off : Nat} (he : a.eval x = .pointer (some ⟨g.be k,off,none⟩)) (hsz : szOf P t = some (a.eval y).cells.size)
  (h1 : ∀ v ∈ (a.eval y).cells.toList,v.oneCell' = true) {c : Array Value} {ty : TypeId} (hb : w.heap[g.be k]? = some (.cells c ty (0,0))) (hl : off + (a.eval y).cells.size ≤ c.size) (bl : Blk)
  (hbl : ∀ w' : World,(∀ b,g.ro b ∨ g.fr b → w'.heap[b]? = w.heap[b]?) → w'.heap[g.be k]? = some (.cells (setRange c off (a.eval y).cells.toList) ty (0,0)) → BlkRep w' g (base + L) (g.be k) (g.sz k) bl) :
  ∀ (K : Act → World → Prop) (Q : Exit → Act → World → Prop),
   (∀ w' g' a',Sim w' g' (base + L) (fput f o.dst und) (put m k (some bl)) a' → Tr g w w' → LeG base g g' → K a' w') → o.wp P a w K Q:=by
 intro K Q hK
 obtain ⟨w',e1,e2,e3,e4,e5,e6,e7,e8⟩:=run_storeAt (P:=P) (w:=w) (g.be k) off ty c (a.eval y) hsz h1 hb hl
 have hro : ∀ b,g.ro b ∨ g.fr b → w'.heap[b]? = w.heap[b]?:=fun b hr=>e3 b (fun e=>by
  rcases hr with hr|hr
  ·exact hs.me.nro k hal hz0 (e ▸ hr)
  ·exact hs.me.fj.nal b (.inl hr) k hal hz0 e.symm)
 unfold Oper.wp
 rw [execOp_store ho _ w (by rw [he];exact e1),Oper.upon_skip]
 refine hK w' g _ ⟨?_,(Act.put_df _ _ _).trans hs.df,?_⟩ ⟨e5,e6,e7,⟨by omega,by omega⟩,fun b hb=>hro b (.inl hb),fun b hb=>e3 b (fun e=>(hs.me.nof b hb).2.2 k hal hz0 e.symm)⟩ (LeG.refl base g)
 ·exact (hs.fr.same hro).put (.lit _) o.dst
 ·exact hs.me.write hal hz0 bl (by omega) (fun b hb _=>e3 b hb) (hbl w' hro e2)
theorem storeK_ok {P : Program} {base : Nat} {m : Mem} {f : List AV} {o : Oper} {t : TypeId} {x y : Operand} (ho : o.op = .store t x y) {K : Act1 → Prop}
  (h : storeK P m t (aval f x) (aval f y) K) : ∃ c,K c ∧ (∀ p ∈ c.rd,mget m p.1 = some p.2) ∧ AOk P base o f c:=by
 have hx : x ∈ o.op.operands.toList:=by rw [ho];simp [Op.operands]
 have hy : y ∈ o.op.operands.toList:=by rw [ho];simp [Op.operands]
 obtain ⟨vs,h,hvs⟩:=cellsK_ok h
 split at h
 case h_2=>exact h.elim
 rename_i n hsz
 replace hsz : szOf P t = some (n + 1):=hsz
 cases hn : Nat.beq (n + 1) vs.length with
 | false=>rw [hn] at h;exact h.elim
 | true =>
 rw [hn] at h
 have hnl : n + 1 = vs.length:=nbt.1 hn
 have hne : vs ≠ []:=by intro e;rw [e] at hnl;cases hnl
 cases ha : aval f x<;>rw [ha] at h<;>simp only at h
 case ptr k off =>
  obtain ⟨b,hb,h⟩:=memK_ok h
  cases b with
  | row t' l=>exact h.elim
  | mp _ _=>exact h.elim
  | pm _ _ _=>exact h.elim
  | box cs =>
   simp only at h
   obtain ⟨cs',hK,q1,q2,q3⟩:=overK_ok h
   refine ⟨_,hK,by simp [hb],fun f' m' hop hrd w g a hs=>?_⟩
   have hm : m' k = some (.box cs):=hrd (k,.box cs) (by simp)
   have hal : g.al k:=(hs.me.al k).2 (by simp [hm])
   have hr:=hop x hx _ _ _ _ (rep_aval hs x)
   rw [ha] at hr
   have he : a.eval x = .pointer (some ⟨g.be k,off,none⟩):=rep_ptr hr hal
   have hry:=hop y hy _ _ _ _ (rep_aval hs y)
   obtain ⟨v1,v2,v3⟩:=hvs hry
   obtain ⟨hz0,c,ty,b1,b2,b3,b4⟩:=hs.me.blk k _ hm
   have hlen:=q2 hne
   refine store_ok ho hs hal hz0 he (by rw [hsz,hnl,v1]) v3 b1 (by omega) (.box cs') fun w' hro hw'=>?_
   refine ⟨hz0,_,ty,hw',by rw [setRange_size];exact b2,by omega,fun i a' x' hi hx'=>?_⟩
   rw [setRange_get _ _ _ _ (by simp;omega)] at hx'
   rw [q3 i] at hi
   have hsame : ∀ {v x},Rep w g (base + L) v x → Rep w' g (base + L) v x:=fun h=>h.mono (Keeps.ofS hro) (Nat.le_refl _) fun _ _ ha=>⟨ha,rfl,rfl⟩
   by_cases hin : off ≤ i ∧ i < off + vs.length
   ·rw [if_pos hin] at hi
    rw [if_pos (by simp;omega)] at hx'
    exact hsame (v2 _ _ _ hi (by simpa using hx'))
   ·rw [if_neg hin] at hi
    rw [if_neg (by simp;omega)] at hx'
    exact hsame (b4 i a' x' hi hx')
 case rptr tt k i off =>
  obtain ⟨b,hb,h⟩:=memK_ok h
  cases b with
  | box cs=>exact h.elim
  | mp _ _=>exact h.elim
  | pm _ _ _=>exact h.elim
  | row t' l =>
   simp only at h
   cases hcs : Nat.beq (csz tt) (csz t') with
   | false=>rw [hcs] at h;exact h.elim
   | true =>
    rw [hcs] at h
    obtain ⟨hi,h⟩:=h
    obtain ⟨cs',h,q1,q2,q3⟩:=overK_ok h
    obtain ⟨e,hK,hle⟩:=ofK_ok h
    refine ⟨_,hK,by simp [hb],fun f' m' hop hrd w g a hs=>?_⟩
    have hm : m' k = some (.row t' l):=hrd (k,.row t' l) (by simp)
    have hal : g.al k:=(hs.me.al k).2 (by simp [hm])
    have hr:=hop x hx _ _ _ _ (rep_aval hs x)
    rw [ha] at hr
    have he : a.eval x = .pointer (some ⟨g.be k,i * csz t' + off,none⟩):=by rw [← nbt.1 hcs];exact rep_rptr hr hal
    have hry:=hop y hy _ _ _ _ (rep_aval hs y)
    obtain ⟨v1,v2,v3⟩:=hvs hry
    have hbr:=hs.me.blk k _ hm
    have hz0 : 0 < g.sz k:=Nat.lt_of_lt_of_le (Nat.mul_pos (Nat.lt_of_le_of_lt (Nat.zero_le _) hi) (csz_pos t')) hbr.le
    obtain ⟨c,ty,b1,b2,b3,b4⟩:=hbr.getRow hz0
    have hlen:=q2 hne
    rw [cells_length] at hlen
    rw [flat_length] at b3
    have hmul : (i + 1) * csz t' ≤ l.length * csz t':=Nat.mul_le_mul_right _ hi
    rw [Nat.succ_mul] at hmul
    refine store_ok ho hs hal hz0 he (by rw [hsz,hnl,v1]) v3 b1 (by omega) (.row t' (l.set i e)) fun w' hro hw'=>?_
    refine BlkRep.mkRow ⟨_,ty,hw',by rw [setRange_size];exact b2,by rw [flat_length];simp;exact b3,fun j a' x' hj hx'=>?_⟩
    rw [setRange_get _ _ _ _ (by simp;omega)] at hx'
    rw [flat_set hi] at hj
    have hsame : ∀ {v x},Rep w g (base + L) v x → Rep w' g (base + L) v x:=fun h=>h.mono (Keeps.ofS hro) (Nat.le_refl _) fun _ _ ha=>⟨ha,rfl,rfl⟩
    by_cases hin : i * csz t' ≤ j ∧ j < i * csz t' + csz t'
    ·rw [if_pos hin] at hj
     obtain ⟨c0,hc0,hcle⟩:=hle.get hj
     rw [q3] at hc0
     apply hcle
     by_cases hin2 : off ≤ j - i * csz t' ∧ j - i * csz t' < off + vs.length
     ·rw [if_pos hin2] at hc0
      rw [if_pos (by simp;omega)] at hx'
      refine hsame (v2 _ _ _ hc0 ?_)
      rw [show j - (i * csz t' + off) = j - i * csz t' - off by omega] at hx'
      simpa using hx'
     ·rw [if_neg hin2] at hc0
      rw [if_neg (by simp;omega)] at hx'
      refine hsame (b4 j c0 x' ?_ hx')
      have:=flat_elt hi hc0
      rwa [show i * csz t' + (j - i * csz t') = j by omega] at this
    ·rw [if_neg hin] at hj
     rw [if_neg (by simp;omega)] at hx'
     exact hsame (b4 j a' x' hj hx')
 case fptr tt n2 i off =>
  cases hble : Nat.ble (off + vs.length) (csz tt) with
  | false=>rw [hble] at h;exact h.elim
  | true =>
  rw [hble] at h
  have hoff : off + vs.length ≤ csz tt:=Nat.le_of_ble_eq_true hble
  obtain ⟨hi,hK⟩:=h
  refine ⟨_,hK,by simp,fun f' m' hop hrd w g a hs Kc Q hN=>?_⟩
  have hr:=hop x hx _ _ _ _ (rep_aval hs x)
  rw [ha] at hr
  have hry:=hop y hy _ _ _ _ (rep_aval hs y)
  obtain ⟨v1,v2,v3⟩:=hvs hry
  generalize hE : a.eval x = E at hr
  cases hr with
  | fptr _ _ _ _ b o' n3 hj hn3 =>
   obtain ⟨c,ty,b1,b2⟩:=hs.me.fj.jz b n3 hj
   have hmul : (i + 1) * csz tt ≤ n2 * csz tt:=Nat.mul_le_mul_right _ hi
   rw [Nat.succ_mul] at hmul
   obtain ⟨w',e1,e2,e3,e4,e5,e6,e7,e8⟩:=run_storeAt (P:=P) (w:=w) (t:=t) b (o' + (i * csz tt + off)) ty c (a.eval y) (by rw [hsz,hnl,v1]) v3 b1 (by omega)
   have hro:=hs.me.fj.sameJ hj e3
   unfold Oper.wp
   rw [execOp_store ho _ w (by rw [hE];exact e1),Oper.upon_skip]
   refine hN w' g _ ⟨(hs.fr.same hro).put (.lit _) o.dst,(Act.put_df _ _ _).trans hs.df,?_⟩ ⟨e5,e6,e7,⟨by omega,by omega⟩,fun b hb=>hro b (.inl hb),fun k hk=>e3 k fun e=>(hs.me.fj.nro b (.inr ⟨n3,hj⟩)).2 (e ▸ hk)⟩ (LeG.refl base g)
   exact hs.me.jwrite hj (by omega) e3 e2 (by rw [setRange_size];exact b2)
 all_goals exact h.elim
open Go Go.RowKit
theorem Tr.alloc (g : G) (w : World) (o : Obj) (h : ∀ b,g.ro b → b < w.heap.size) (h' : ∀ b,g.no b → b < w.heap.size) : Tr g w (w.alloc o):=
 ⟨rfl,rfl,rfl,⟨by simp,Nat.le_refl _⟩,fun b hb=>Below.heap_alloc w o b (h b hb),fun b hb=>Below.heap_alloc w o b (h' b hb)⟩
theorem MSim.oldA {w : World} {g : G} {lim : Nat} {m : Nat → Option Blk} (h : MSim w g lim m) (o : Obj) : ∀ b,g.ro b ∨ g.fr b → (w.alloc o).heap[b]? = w.heap[b]?:=fun b hb =>
 Below.heap_alloc w o b (by
  rcases hb with hb|hb
  ·exact h.rolt b hb
  ·exact h.fj.lt (.inl hb))
theorem Rep.bind {w w' : World} {g : G} {lim k b n : Nat} {v : AV} {x : Value} (h : Rep w g lim v x) (hm : men k v = false) (hs : ∀ b,g.ro b ∨ g.fr b → w'.heap[b]? = w.heap[b]?) :
  Rep w' (g.bind k b n) lim v x:=
 Rep.mono' (g:=g) (g':=g.bind k b n) (Keeps.ofS hs) (Nat.le_refl _) h fun j hj _ haj=>by
  have hjk : j ≠ k:=fun e=>by rw [e,hm] at hj;cases hj
  rcases haj with e|haj
  ·exact absurd e hjk
  ·exact ⟨haj,by simp [G.bind,hjk],by simp [G.bind,hjk]⟩
theorem Sim.pushO {w : World} {g : G} {lim : Nat} {f : List AV} {m : Nat → Option Blk} {a : Act} (hs : Sim w g lim f m a) {k : Nat} (hk : k < lim ∨ k % 2 = 1)
  (o : Obj) (n : Nat) (bl : Blk) (hbl : BlkRep (w.alloc o) (g.bind k w.heap.size n) lim w.heap.size n bl)
  {v : AV} {x : Value} (hv : Rep (w.alloc o) (g.bind k w.heap.size n) lim v x) (d : Option Nat) :
  Sim (w.alloc o) (g.bind k w.heap.size n) lim (fput (fgtL k f) d v) (Eng.put (fgtM k m) k (some bl)) (a.put d x):=by
 have hf:=hs.fgt k
 have hro:=hs.me.oldA o
 refine ⟨(hf.fr.bind (menL_fgtL k f) hro).put hv d,(Act.put_df _ _ _).trans hs.df,?_⟩
 refine hf.me.pushO hk (fun j b hb=>?_) o n bl hbl
 simp only [fgtM,Option.map_eq_some_iff] at hb
 obtain ⟨b',_,rfl⟩:=hb
 exact menB_fgtB k b'
theorem Sim.push {w : World} {g : G} {lim : Nat} {f : List AV} {m : Nat → Option Blk} {a : Act} (hs : Sim w g lim f m a) {k : Nat} (hk : k < lim ∨ k % 2 = 1)
 (c : Array Value) (ty : TypeId) (bl : Blk) (hbl : BlkRep (w.alloc (.cells c ty)) (g.bind k w.heap.size c.size) lim w.heap.size c.size bl)
 {v : AV} {x : Value} (hv : Rep (w.alloc (.cells c ty)) (g.bind k w.heap.size c.size) lim v x) (d : Option Nat) :
 Sim (w.alloc (.cells c ty)) (g.bind k w.heap.size c.size) lim (fput (fgtL k f) d v) (Eng.put (fgtM k m) k (some bl)) (a.put d x):=hs.pushO hk _ _ bl hbl hv d
theorem LeG.bind (base : Nat) (g : G) {k : Nat} (hk : base ≤ k) (b n : Nat) : LeG base g (g.bind k b n):=
 ⟨fun _ h=>h,fun _ h=>h,fun j hj ha=>by
  have hjk : j ≠ k:=by omega
  rcases ha with e|ha
  ·exact absurd e hjk
  ·exact ⟨ha,by simp [G.bind,hjk],by simp [G.bind,hjk]⟩⟩
theorem idlt (base d : Nat) (h : Nat.blt (2 * d + 2) 200000 = true) : base + 2 * d < base + L ∧ base + (2 * d + 1) < base + L:=by
 have h1 : 2 * d + 2 + 1 ≤ 200000:=Nat.le_of_ble_eq_true h
 unfold L;omega
def boxK (base : Nat) (dst : Option Nat) (cs : List AV) (K : Act1 → Prop) : Prop:=
 match dst with
 | some d=>match Nat.blt (2 * d + 2) 200000 with
  | true=>match cs with
   | []=>False
   | c :: r=>idK base d fun e=>match menL e (c :: r) with
    | false=>K ⟨.ptr e 0,[],[(e,some (.box (c :: r)))],[e]⟩
    | true=>False
  | false=>False
 | none=>False
theorem boxK_ok {P : Program} {base : Nat} {m : Mem} {f : List AV} {o : Oper} {cs : List AV} {K : Act1 → Prop} (h : boxK base o.dst cs K)
  (hrun : ∀ (f' : List AV) (m' : Nat → Option Blk) (w : World) (g : G) (a : Act),Sim w g (base + L) f' m' a → (∀ x ∈ o.op.operands.toList,Le (aval f' x) (aval f x)) →
   ∃ (xs : Array Value) (ty : TypeId),(execOp a.eval o).run P w = .ok (.value (.pointer (some ⟨w.heap.size,0,none⟩))) (w.alloc (.cells xs ty)) ∧ RepL w g (base + L) cs xs) :
  ∃ c,K c ∧ (∀ p ∈ c.rd,mget m p.1 = some p.2) ∧ AOk P base o f c:=by
 unfold boxK at h
 cases hd : o.dst with
 | none=>rw [hd] at h;exact h.elim
 | some d =>
  rw [hd] at h
  simp only at h
  cases hb : Nat.blt (2 * d + 2) 200000 with
  | false=>rw [hb] at h;exact h.elim
  | true =>
   rw [hb] at h
   cases cs with
   | nil=>exact h.elim
   | cons c0 cr =>
   simp only at h
   rw [idK_eq] at h
   cases hm : menL (base + 2 * d) (c0 :: cr) with
   | true=>rw [hm] at h;exact h.elim
   | false =>
    rw [hm] at h
    refine ⟨_,h,by simp,fun f' m' hop _ w g a hs K Q hK=>?_⟩
    obtain ⟨xs,ty,e1,e2⟩:=hrun f' m' w g a hs hop
    have hkl : base + 2 * d < base + L ∨ (base + 2 * d) % 2 = 1:=.inl (idlt base d hb).1
    unfold Oper.wp
    rw [e1,Oper.upon_value]
    have htr:=Tr.alloc g w (.cells xs ty) hs.me.rolt (fun b hb=>(hs.me.nof b hb).1)
    refine hK _ (g.bind (base + 2 * d) w.heap.size xs.size) _ ?_ htr (LeG.bind base g (Nat.le_add_right _ _) _ _)
    refine hs.push hkl xs ty (.box (c0 :: cr)) ⟨by have:=e2.1;simp at this;omega,xs,ty,heap_alloc_new w _,rfl,Nat.le_of_eq e2.1,fun i c x hc hx=>?_⟩ ?_ o.dst
    ·refine (e2.2 i c x hc hx).bind ?_ (hs.me.oldA _)
     cases hmc : men (base + 2 * d) c with
     | false=>rfl
     | true=>rw [menL_get hc hmc] at hm;cases hm
    ·exact .ptr _ _ _ hkl fun _=>by simp [G.bind]
def litsK : List Value → (List AV → Prop) → Prop
 | [],K=>K []
 | v :: r,K=>match v with
  | .bool b=>match b with
   | true=>litsK r fun l=>K (.tt :: l)
   | false=>litsK r fun l=>K (.ff :: l)
  | v=>litsK r fun l=>K (.lit v :: l)
theorem litsK_ok {vs : List Value} {K : List AV → Prop} (h : litsK vs K) : ∃ cs,K cs ∧ ∀ (w : World) (g : G) (lim : Nat),RepL w g lim cs vs.toArray:=by
 induction vs generalizing K with
 | nil=>exact ⟨[],h,fun w g lim=>⟨rfl,fun i c x hc=>by simp at hc⟩⟩
 | cons v r ih =>
  have key : ∀ c0 : AV,(∀ (w : World) (g : G) (lim : Nat),Rep w g lim c0 v) → litsK r (fun l=>K (c0 :: l)) → ∃ cs,K cs ∧ ∀ (w : World) (g : G) (lim : Nat),RepL w g lim cs (v :: r).toArray:=by
   intro c0 h0 hr
   obtain ⟨cs,h1,h2⟩:=ih hr
   refine ⟨c0 :: cs,h1,fun w g lim=>⟨by have:=(h2 w g lim).1;simp at this ⊢;exact this,fun i c x hc hx=>?_⟩⟩
   cases i with
   | zero=>simp at hc hx;subst hc;subst hx;exact h0 w g lim
   | succ i=>exact (h2 w g lim).2 i c x (by simpa using hc) (by simpa using hx)
  cases v with
  | bool b =>
   cases b with
   | true=>exact key .tt (fun _ _ _=>.tt) h
   | false=>exact key .ff (fun _ _ _=>.ff) h
  | _=>exact key _ (fun _ _ _=>.lit _) h
def allocK (P : Program) (base : Nat) (dst : Option Nat) (t : TypeId) (K : Act1 → Prop) : Prop:=
 match P.info? t with
 | some i=>match i.zero with
  | some z=>litsK z.cells.toList fun cs=>boxK base dst cs K
  | none=>False
 | none=>False
theorem allocK_ok {P : Program} {base : Nat} {m : Mem} {f : List AV} {o : Oper} {t : TypeId} (ho : o.op = .alloc t) {K : Act1 → Prop} (h : allocK P base o.dst t K) :
  ∃ c,K c ∧ (∀ p ∈ c.rd,mget m p.1 = some p.2) ∧ AOk P base o f c:=by
 unfold allocK at h
 cases hi : P.info? t with
 | none=>rw [hi] at h;exact h.elim
 | some i =>
  rw [hi] at h
  simp only at h
  cases hz : i.zero with
  | none=>rw [hz] at h;exact h.elim
  | some z =>
   rw [hz] at h
   obtain ⟨cs,h,hcs⟩:=litsK_ok h
   refine boxK_ok h fun f' m' w g a hs hop=>⟨z.cells,t,?_,by simpa using hcs w g (base + L)⟩
   unfold execOp;rw [ho]
   simp [Instr.alloc,zeroValue,run_typeInfo hi,hz,run_newVar]
theorem boxOp_ok {P : Program} {base : Nat} {m : Mem} {f : List AV} {o : Oper} {t : TypeId} {x : Operand} (ho : o.op = .box t x) {K : Act1 → Prop} (h : cellsK (aval f x) fun cs=>boxK base o.dst cs K) :
  ∃ c,K c ∧ (∀ p ∈ c.rd,mget m p.1 = some p.2) ∧ AOk P base o f c:=by
 obtain ⟨cs,h,hcs⟩:=cellsK_ok h
 refine boxK_ok h fun f' m' w g a hs hop=>?_
 have hr:=hop x (by rw [ho];simp [Op.operands]) _ _ _ _ (rep_aval hs x)
 obtain ⟨h1,h2,h3⟩:=hcs hr
 refine ⟨(a.eval x).cells,t,?_,h1,h2⟩
 unfold execOp;rw [ho]
 simp [Instr.box,run_newVar]
open Go Go.RowKit
structure Cfg where
 ty : Nat → Option Ty
 eq : Nat → Bool
 pk : Nat → Option IntKind:=fun _=>none
structure PairMap (P : Program) (t : TypeId) (ik : IntKind) : Prop where
 ex : ∃ kt et,P.underlying t = some (.map kt et) ∧ (∀ w : World,(zeroValue et).run P w = .ok (.int ik 0) w) ∧
  (∀ (em : Bool) (w : World) (x y : Int),(Instr.checkKey em 10000 kt (prV x y)).run P w = .ok () w) ∧
  (∀ (w : World) (x y : Int) (es : List MapEntry),(Instr.findKey kt (prV x y) es).run P w = (Instr.findAsking kt (prV x y) es).run P w) ∧
  (∀ (w : World) (x y a b : Int),(Op.equal kt (prV x y) (prV a b)).run P w = .ok (decide (x = a ∧ y = b)) w)
def kk : IntKind → IntKind → Bool
 | .i8,.i8=>true
 | .i16,.i16=>true
 | .i32,.i32=>true
 | .i64,.i64=>true
 | .u8,.u8=>true
 | .u16,.u16=>true
 | .u32,.u32=>true
 | .u64,.u64=>true
 | _,_=>false
theorem kk_ok {k k' : IntKind} (h : kk k k' = true) : k = k':=by cases k<;>cases k'<;>first|rfl|(simp [kk] at h)
def eqV : Value → Value → Option Bool
 | .int k a,.int k' b=>match kk k k' with|true=>some (a == b)|false=>none
 | _,_=>none
def eqVs : List Value → List Value → Option Bool
 | [],[]=>some true
 | x :: xs,y :: ys=>match eqV x y,eqVs xs ys with|some a,some b=>some (a && b)|_,_=>none
 | _,_=>none
def zc : Ty → List Value
 | .u8=>[.int .u8 0]
 | .i64=>[.int .i64 0]
 | .slot=>[.int .u8 0,.int .i64 0]
 | .heap=>[.int .i64 0,.int .u8 0,.int .i64 0]
 | .box=>[.int .i64 0,.slice none 0 0]
 | .chunk=>[.int .i64 0,.int .i64 0,.slice none 0 0,.slice none 0 0,.slice none 0 0]
 | .player=>[.int .i64 0,.int .i64 0,.int .i64 0,.slice none 0 0,.int .i64 0,.slice none 0 0,.bool false]
 | .seen=>[.int .i64 0,.int .i64 0,.int .i64 0]
 | .cmd=>[.int .u8 0,.int .i64 0,.int .i64 0,.int .i64 0,.int .i64 0]
 | .order=>[.int .i64 0,.int .i64 0,.int .u8 0,.int .i64 0,.int .i64 0,.int .i64 0,.int .i64 0]
 | .reply=>[.int .i64 0,.int .i64 0,.int .i64 0]
 | .step=>[.int .i64 0,.bool false,.int .i64 0,.int .i64 0]
 | .recipe=>[.slice none 0 0,.int .u8 0,.int .i64 0]
 | .ints=>[.slice none 0 0]
 | .orders=>[.slice none 0 0]
 | .doo=>[.int .i64 0,.int .u8 0,.int .i64 0,.int .i64 0,.int .i64 0,.int .i64 0]
 | .deed=>[.int .i64 0,.int .i64 0,.int .i64 0,.slice none 0 0]
 | .pos=>[.int .i64 0,.int .i64 0]
 | .flag=>[.bool false]
 | .view=>[.int .i64 0,.int .i64 0,.int .i64 0,.int .i64 0,.slice none 0 0,.int .i64 0,.slice none 0 0,.bool false,.slice none 0 0,.slice none 0 0]
 | .boxF=>[.int .i64 0,.slice none 0 0]
 | .boxJ=>[.int .i64 0,.slice none 0 0]
 | .boxM=>[.int .i64 0,.slice none 0 0]
 | .chunkF=>[.int .i64 0,.int .i64 0,.slice none 0 0,.slice none 0 0,.slice none 0 0]
 | .chunkJ=>[.int .i64 0,.int .i64 0,.slice none 0 0,.slice none 0 0,.slice none 0 0]
 | .chunkC=>[.int .i64 0,.int .i64 0,.slice none 0 0,.slice none 0 0,.slice none 0 0]
 | .chunkK=>[.int .i64 0,.int .i64 0,.slice none 0 0,.slice none 0 0,.slice none 0 0]
def zeroOf (P : Program) (e : TypeId) : Option (List Value):=match P.info? e with
 | some i=>match i.zero with
  | some z=>some z.cells.toList
  | none=>none
 | none=>none
structure CfgOk (P : Program) (c : Cfg) : Prop where
 pk : ∀ t ik,c.pk t = some ik → PairMap P t ik
 zr : ∀ e t,c.ty e = some t → zeroOf P e = some (zc t)
 mixed : P.follows .mixedOrders = true
 sz : ∀ e t,c.ty e = some t → szOf P e = some (csz t) ∧ byOf P e = some (bsz t)
 eq : ∀ t,c.eq t = true → P.eqGuardType P.depth t = false ∧ ∀ (w : World) (xs ys : List Value) (b : Bool),eqVs xs ys = some b → szOf P t = some xs.length →
  (Op.equal t (.agg xs.toArray) (.agg ys.toArray)).run P w = .ok b w
def scal : AV → Option Value
 | .tt=>some (.bool true)
 | .ff=>some (.bool false)
 | .lit v=>some v
 | _=>none
theorem scal_ok {w : World} {g : G} {lim : Nat} {v : AV} {x y : Value} (h : Rep w g lim v x) (hs : scal v = some y) : x = y:=by
 cases h<;>simp [scal] at hs<;>exact hs
def eqAK : List AV → List AV → (Bool → Prop) → Prop
 | [],[],K=>K true
 | x :: xs,y :: ys,K=>match scal x with
  | some a=>match scal y with
   | some b=>match eqV a b with
    | some p=>match xs with
     | []=>match ys with|[]=>K p|_=>False
     | _=>eqAK xs ys fun q=>K (p && q)
    | none=>False
   | none=>False
  | none=>False
 | _,_,_=>False
theorem eqAK_ok {xs ys : List AV} {K : Bool → Prop} (h : eqAK xs ys K) : ∃ p,K p ∧ xs.length = ys.length ∧ ∀ (w : World) (g : G) (lim : Nat) (a b : List Value),
  RepL w g lim xs a.toArray → RepL w g lim ys b.toArray → eqVs a b = some p:=by
 induction xs generalizing ys K with
 | nil =>
  cases ys with
  | nil =>
   refine ⟨true,h,rfl,fun w g lim a b ha hb=>?_⟩
   have h1 : a.length = 0:=by have:=ha.1;simpa using this.symm
   have h2 : b.length = 0:=by have:=hb.1;simpa using this.symm
   rw [List.length_eq_zero_iff.1 h1,List.length_eq_zero_iff.1 h2];rfl
  | cons y ys=>exact h.elim
 | cons x xs ih =>
  cases ys with
  | nil=>exact h.elim
  | cons y ys =>
   simp only [eqAK] at h
   cases hx : scal x with
   | none=>rw [hx] at h;exact h.elim
   | some a0 =>
   rw [hx] at h;simp only at h
   cases hy : scal y with
   | none=>rw [hy] at h;exact h.elim
   | some b0 =>
   rw [hy] at h;simp only at h
   cases hp : eqV a0 b0 with
   | none=>rw [hp] at h;exact h.elim
   | some p =>
   rw [hp] at h;simp only at h
   have step : ∀ (q : Bool) (xs' ys' : List AV),(∀ (w : World) (g : G) (lim : Nat) (a b : List Value),RepL w g lim xs' a.toArray → RepL w g lim ys' b.toArray → eqVs a b = some q) →
     ∀ (w : World) (g : G) (lim : Nat) (a b : List Value),RepL w g lim (x :: xs') a.toArray → RepL w g lim (y :: ys') b.toArray → eqVs a b = some (p && q):=by
    intro q xs' ys' hq w g lim a b ha hb
    cases a with
    | nil=>have:=ha.1;simp at this
    | cons a1 a =>
     cases b with
     | nil=>have:=hb.1;simp at this
     | cons b1 b =>
      have e1:=scal_ok (ha.2 0 x a1 (by simp) (by simp)) hx
      have e2:=scal_ok (hb.2 0 y b1 (by simp) (by simp)) hy
      subst e1;subst e2
      simp only [eqVs,hp]
      rw [hq w g lim a b ⟨by have:=ha.1;simpa using this,fun i c z hc hz=>ha.2 (i + 1) c z (by simpa using hc) (by simpa using hz)⟩
       ⟨by have:=hb.1;simpa using this,fun i c z hc hz=>hb.2 (i + 1) c z (by simpa using hc) (by simpa using hz)⟩]
   cases xs with
   | nil =>
    cases ys with
    | nil =>
     refine ⟨p,h,rfl,fun w g lim a b ha hb=>?_⟩
     have:=step true [] [] (fun w g lim a b ha hb=>by
      have h1 : a.length = 0:=by have:=ha.1;simpa using this.symm
      have h2 : b.length = 0:=by have:=hb.1;simpa using this.symm
      rw [List.length_eq_zero_iff.1 h1,List.length_eq_zero_iff.1 h2];rfl) w g lim a b ha hb
     simpa using this
    | cons y2 ys=>exact h.elim
   | cons x2 xs =>
    simp only at h
    obtain ⟨q,hK,hl,hq⟩:=ih h
    exact ⟨p && q,hK,by simpa using hl,step q _ _ hq⟩
def pickK (c a b : AV) (K : AV → Prop) : Prop:=
 match c with
 | .tt=>K a
 | .ff=>K b
 | .lit (.bool p)=>match a,b with
  | .tt,.lit (.bool y)=>K (.lit (.bool (p || y)))
  | .lit (.bool x),.ff=>K (.lit (.bool (p && x)))
  | .tt,.ff=>K (.lit (.bool p))
  | .ff,.ff=>K .ff
  | .tt,.tt=>K .tt
  | .lit (.bool x),.lit (.bool y)=>K (.lit (.bool (cond p x y)))
  | a,b=>(p = true → K a) ∧ (p = false → K b)
 | _=>False
theorem pickK_ok {c a b : AV} {K : AV → Prop} (h : pickK c a b K) : ∃ v,K v ∧ ∀ (w : World) (g : G) (lim : Nat) (xc xa xb : Value),
  Rep w g lim c xc → Rep w g lim a xa → Rep w g lim b xb → ∃ p,xc = .bool p ∧ Rep w g lim v (if p then xa else xb):=by
 have lb : ∀ {w : World} {g : G} {lim : Nat} {v x : Value},Rep w g lim (.lit v) x → x = v:=fun h=>by cases h;rfl
 have lt : ∀ {w : World} {g : G} {lim : Nat} {x : Value},Rep w g lim .tt x → x = .bool true:=fun h=>by cases h;rfl
 have lf : ∀ {w : World} {g : G} {lim : Nat} {x : Value},Rep w g lim .ff x → x = .bool false:=fun h=>by cases h;rfl
 unfold pickK at h
 split at h
 ·exact ⟨a,h,fun w g lim xc xa xb hc ha hb=>⟨true,lt hc,by simpa using ha⟩⟩
 ·exact ⟨b,h,fun w g lim xc xa xb hc ha hb=>⟨false,lf hc,by simpa using hb⟩⟩
 ·rename_i p
  split at h
  ·refine ⟨_,h,fun w g lim xc xa xb hc ha hb=>⟨p,lb hc,?_⟩⟩
   rw [lt ha,lb hb];cases p<;>simp<;>exact .lit _
  ·refine ⟨_,h,fun w g lim xc xa xb hc ha hb=>⟨p,lb hc,?_⟩⟩
   rw [lb ha,lf hb];cases p<;>simp<;>exact .lit _
  ·refine ⟨_,h,fun w g lim xc xa xb hc ha hb=>⟨p,lb hc,?_⟩⟩
   rw [lt ha,lf hb];cases p<;>simp<;>exact .lit _
  ·refine ⟨_,h,fun w g lim xc xa xb hc ha hb=>⟨p,lb hc,?_⟩⟩
   rw [lf ha,lf hb];cases p<;>simp<;>exact .ff
  ·refine ⟨_,h,fun w g lim xc xa xb hc ha hb=>⟨p,lb hc,?_⟩⟩
   rw [lt ha,lt hb];cases p<;>simp<;>exact .tt
  ·refine ⟨_,h,fun w g lim xc xa xb hc ha hb=>⟨p,lb hc,?_⟩⟩
   rw [lb ha,lb hb];cases p<;>simp<;>exact .lit _
  ·cases p with
   | true=>exact ⟨_,h.1 rfl,fun w g lim xc xa xb hc ha hb=>⟨true,lb hc,by simpa using ha⟩⟩
   | false=>exact ⟨_,h.2 rfl,fun w g lim xc xa xb hc ha hb=>⟨false,lb hc,by simpa using hb⟩⟩
 ·exact h.elim
def PureV (P : Program) (base : Nat) (o : Oper) (f : List AV) (v : AV) : Prop:=
 ∀ (w : World) (g : G) (a : Act),(∀ k,g.al k → True) → (∀ x ∈ o.op.operands.toList,Rep w g (base + L) (aval f x) (a.eval x)) →
  ∃ x,(execOp a.eval o).run P w = .ok (.value x) w ∧ Rep w g (base + L) v x
theorem pure_ok {P : Program} {base : Nat} {m : Mem} {f : List AV} {o : Oper} {v : AV} {K : Act1 → Prop} (hK : K (vA v)) (h : PureV P base o f v) :
  ∃ c,K c ∧ (∀ p ∈ c.rd,mget m p.1 = some p.2) ∧ AOk P base o f c:=
 ⟨_,hK,by simp [vA],AOk.val fun f' m' w g a hs hop _=>h w g a (fun _ _=>trivial) hop⟩
def notK (v : AV) (K : AV → Prop) : Prop:=
 match v with
 | .tt=>K .ff
 | .ff=>K .tt
 | .lit (.bool b)=>K (.lit (.bool (!b)))
 | .bl p q=>K (.bl q p)
 | _=>False
def unK (op : UnOp) (v : AV) (K : AV → Prop) : Prop:=
 match op with
 | .not=>notK v K
 | .neg=>match v with|.lit (.int k n)=>arK k (0 - n) K|_=>False
 | .xor=>match v with|.lit (.int k n)=>K (.lit (.int k (bitR .xor k (if k.signed then -1 else k.max) n)))|_=>False
 | _=>False
def intOpK (op : BinOp) (a b : AV) (K : AV → Prop) : Prop:=
 match a with
 | .lit (.int k x)=>match b with
  | .lit (.int k' y)=>match kk k k' with
   | true=>intK op k x y K
   | false=>match op with
    | .shl=>intK .shl k x y K
    | .shr=>intK .shr k x y K
    | _=>False
  | _=>False
 | _=>False
def eqSelK (op : BinOp) (p : Bool) (K : AV → Prop) : Prop:=
 match op with
 | .eql=>K (.lit (.bool p))
 | .neq=>K (.lit (.bool (!p)))
 | _=>False
def boolOpK (op : BinOp) (a b : AV) (K : AV → Prop) : Prop:=
 match scal a with
 | some (.bool x)=>match scal b with
  | some (.bool y)=>eqSelK op (x == y) K
  | _=>False
 | _=>False
def strOpK (op : BinOp) (a b : AV) (K : AV → Prop) : Prop:=
 match a with
 | .lit (.string s)=>match b with
  | .lit (.string s')=>eqSelK op (s.toList == s'.toList) K
  | _=>False
 | _=>False
def aggOpK (P : Program) (C : Cfg) (op : BinOp) (t : TypeId) (a b : AV) (K : AV → Prop) : Prop:=
 match a with
 | .agg xs=>match b with
  | .agg ys=>match C.eq t with
   | true=>match szOf P t with
    | some n=>match Nat.beq n xs.length with
     | true=>eqAK xs ys fun p=>eqSelK op p K
     | false=>False
    | none=>False
   | false=>False
  | _=>False
 | _=>False
def nilOpK (op : BinOp) (a b : AV) (K : AV → Prop) : Prop:=
 match b with
 | .lit (.slice none _ _)=>match a with
  | .vec _ l=>match op with
   | .eql=>K (.bl (l = []) True)
   | .neq=>K (.bl True (l = []))
   | _=>False
  | .emp _=>match op with
   | .eql=>K (.bl True True)
   | .neq=>K (.bl True True)
   | _=>False
  | .own _ _ _ n _=>match op with
   | .eql=>K (.bl (n = 0) True)
   | .neq=>K (.bl True (n = 0))
   | _=>False
  | .lit (.slice none _ _)=>match op with
   | .eql=>K .tt
   | .neq=>K .ff
   | _=>False
  | _=>False
 | _=>False
def ptrOpK (op : BinOp) (a b : AV) (K : AV → Prop) : Prop:=
 match b with
 | .lit (.pointer none)=>match a with
  | .ptr _ _=>eqSelK op false K
  | .lit (.pointer none)=>eqSelK op true K
  | _=>False
 | _=>False
def binK (P : Program) (C : Cfg) (op : BinOp) (t : TypeId) (a b : AV) (K : AV → Prop) : Prop:=
 match P.underlying t with
 | some (.int _)=>intOpK op a b K
 | some .bool=>boolOpK op a b K
 | some .string=>strOpK op a b K
 | some (.struct _)=>aggOpK P C op t a b K
 | some (.slice _)=>nilOpK op a b K
 | some (.pointer _)=>ptrOpK op a b K
 | _=>False
theorem run_eqGuard_int {P : Program} (op : BinOp) (t : TypeId) (x y : Operand) (a b : Value) (h : ∀ u v,¬ (a = .agg u ∧ b = .agg v)) (h2 : a ≠ .nilIface) (w : World) :
  (eqGuard op t x y a b).run P w = .ok () w:=by
 unfold eqGuard
 split
 case h_3=>rfl
 all_goals
  simp only [Bool.not_true,Bool.false_eq_true,if_false]
  cases a<;>cases b<;>first|rfl|(exact absurd rfl h2)|(exact absurd ⟨rfl,rfl⟩ (h _ _))
theorem run_eqGuard_agg {P : Program} (op : BinOp) (t : TypeId) (x y : Operand) (a b : Array Value) (h : P.eqGuardType P.depth t = false) (w : World) :
  (eqGuard op t x y (.agg a) (.agg b)).run P w = .ok () w:=by
 unfold eqGuard
 split
 case h_3=>rfl
 all_goals simp [h]
open Go Go.RowKit
theorem rep_lit {w : World} {g : G} {lim : Nat} {v x : Value} (h : Rep w g lim (.lit v) x) : x = v:=by cases h;rfl
theorem rep_agg {w : World} {g : G} {lim : Nat} {cs : List AV} {x : Value} (h : Rep w g lim (.agg cs) x) : ∃ xs : Array Value,x = .agg xs ∧ RepL w g lim cs xs:=by
 cases h with|agg _ xs hl h=>exact ⟨xs,rfl,hl,h⟩
def BinRun (P : Program) (op : BinOp) (t : TypeId) (a b v : AV) : Prop:=
 ∀ (w : World) (g : G) (lim : Nat) (xa xb : Value) (x y : Operand),Rep w g lim a xa → Rep w g lim b xb →
  ∃ r,(eqGuard op t x y xa xb).run P w = .ok () w ∧ (binOp op t xa xb).run P w = .ok r w ∧ Rep w g lim v r
theorem intOpK_ok {P : Program} {op : BinOp} {t : TypeId} {a b : AV} {K : AV → Prop} (h : intOpK op a b K) : ∃ v,K v ∧ BinRun P op t a b v:=by
 unfold intOpK at h
 cases a with
 | lit va =>
  cases va with
  | int k x =>
   simp only at h
   cases b with
   | lit vb =>
    cases vb with
    | int k' y =>
     simp only at h
     have hi : ∀ (hk : k = k' ∨ op = .shl ∨ op = .shr),intK op k x y K → ∃ v,K v ∧ BinRun P op t (.lit (.int k x)) (.lit (.int k' y)) v:=by
      intro hk h
      obtain ⟨v,h1,h2⟩:=intK_ok (P:=P) (t:=t) h hk
      refine ⟨_,h1,fun w g lim xa xb o1 o2 ha hb=>?_⟩
      rw [rep_lit ha,rep_lit hb]
      exact ⟨v,run_eqGuard_int _ _ _ _ _ _ (by simp) (by simp) w,h2 w,.lit _⟩
     cases hkk : kk k k' with
     | true=>rw [hkk] at h;exact hi (.inl (kk_ok hkk)) h
     | false =>
      rw [hkk] at h
      simp only at h
      cases op<;>simp only at h
      case shl=>exact hi (.inr (.inl rfl)) h
      case shr=>exact hi (.inr (.inr rfl)) h
    | _=>exact h.elim
   | _=>exact h.elim
  | _=>exact h.elim
 | _=>exact h.elim
theorem eqSelK_ok {P : Program} {op : BinOp} {t : TypeId} {a b : AV} {p : Bool} {K : AV → Prop} (h : eqSelK op p K)
  (hr : ∀ (w : World) (g : G) (lim : Nat) (xa xb : Value) (x y : Operand),Rep w g lim a xa → Rep w g lim b xb →
   (eqGuard op t x y xa xb).run P w = .ok () w ∧ (op = .eql → (binOp .eql t xa xb).run P w = .ok (.bool p) w) ∧ (op = .neq → (binOp .neq t xa xb).run P w = .ok (.bool (!p)) w)) :
  ∃ v,K v ∧ BinRun P op t a b v:=by
 unfold eqSelK at h
 cases op<;>simp only at h
 case eql=>exact ⟨_,h,fun w g lim xa xb x y ha hb=>⟨_,(hr w g lim xa xb x y ha hb).1,(hr w g lim xa xb x y ha hb).2.1 rfl,.lit _⟩⟩
 case neq=>exact ⟨_,h,fun w g lim xa xb x y ha hb=>⟨_,(hr w g lim xa xb x y ha hb).1,(hr w g lim xa xb x y ha hb).2.2 rfl,.lit _⟩⟩
theorem boolOpK_ok {P : Program} {op : BinOp} {t : TypeId} (hu : P.underlying t = some .bool) {a b : AV} {K : AV → Prop} (h : boolOpK op a b K) : ∃ v,K v ∧ BinRun P op t a b v:=by
 unfold boolOpK at h
 cases ha : scal a with
 | none=>rw [ha] at h;exact h.elim
 | some va =>
 rw [ha] at h
 cases va with
 | bool x =>
  simp only at h
  cases hb : scal b with
  | none=>rw [hb] at h;exact h.elim
  | some vb =>
  rw [hb] at h
  cases vb with
  | bool y =>
   refine eqSelK_ok h fun w g lim xa xb o1 o2 h1 h2=>?_
   rw [scal_ok h1 ha,scal_ok h2 hb]
   exact ⟨run_eqGuard_int _ _ _ _ _ _ (by simp) (by simp) w,fun _=>by simp [binOp,Op.equal,Op.maxDepth,run_equalIn_bool' w _ t x y hu],
    fun _=>by simp [binOp,Op.equal,Op.maxDepth,run_equalIn_bool' w _ t x y hu]⟩
  | _=>exact h.elim
 | _=>exact h.elim
theorem strOpK_ok {P : Program} {op : BinOp} {t : TypeId} {a b : AV} {K : AV → Prop} (h : strOpK op a b K) : ∃ v,K v ∧ BinRun P op t a b v:=by
 unfold strOpK at h
 cases a with
 | lit va =>
  cases va with
  | string s =>
   cases b with
   | lit vb =>
    cases vb with
    | string s' =>
     refine eqSelK_ok h fun w g lim xa xb o1 o2 h1 h2=>?_
     rw [rep_lit h1,rep_lit h2]
     exact ⟨run_eqGuard_int _ _ _ _ _ _ (by simp) (by simp) w,fun _=>by simp [binOp,Op.stringOp],fun _=>by simp [binOp,Op.stringOp]⟩
    | _=>exact h.elim
   | _=>exact h.elim
  | _=>exact h.elim
 | _=>exact h.elim
theorem aggOpK_ok {P : Program} {C : Cfg} (hC : CfgOk P C) {op : BinOp} {t : TypeId} {a b : AV} {K : AV → Prop} (h : aggOpK P C op t a b K) : ∃ v,K v ∧ BinRun P op t a b v:=by
 unfold aggOpK at h
 cases a with
 | agg xs =>
  cases b with
  | agg ys =>
   simp only at h
   cases he : C.eq t with
   | false=>rw [he] at h;exact h.elim
   | true =>
   rw [he] at h
   simp only at h
   cases hz : szOf P t with
   | none=>rw [hz] at h;exact h.elim
   | some n =>
   rw [hz] at h
   simp only at h
   cases hn : Nat.beq n xs.length with
   | false=>rw [hn] at h;exact h.elim
   | true =>
   rw [hn] at h
   have hnl:=nbt.1 hn
   obtain ⟨hg,hq⟩:=hC.eq t he
   obtain ⟨p,hK,_,hp⟩:=eqAK_ok h
   refine eqSelK_ok hK fun w g lim xa xb o1 o2 h1 h2=>?_
   obtain ⟨u,rfl,hu⟩:=rep_agg h1
   obtain ⟨v,rfl,hv⟩:=rep_agg h2
   have hrun : (Op.equal t (.agg u) (.agg v)).run P w = .ok p w:=by
    have:=hq w u.toList v.toList p (hp w g lim u.toList v.toList (by simpa using hu) (by simpa using hv)) (by rw [hz,hnl];simpa using hu.1)
    simpa using this
   exact ⟨run_eqGuard_agg _ _ _ _ _ _ hg w,fun _=>by simp [binOp,hrun],fun _=>by simp [binOp,hrun]⟩
  | _=>exact h.elim
 | _=>exact h.elim
theorem run_equalIn_nil {P : Program} {w : World} {t e : TypeId} (d : Nat) (hu : P.underlying t = some (.slice e)) (a : Option Addr) (n c n' c' : Nat) : (Op.equalIn (d + 1) t (.slice a n c) (.slice none n' c')).run P w = .ok a.isNone w:=by
 cases a<;>simp [Op.equalIn,run_underlying hu]
theorem run_equal_nil {P : Program} {w : World} {t e : TypeId} (hu : P.underlying t = some (.slice e)) (a : Option Addr) (n c n' c' : Nat) : (Op.equal t (.slice a n c) (.slice none n' c')).run P w = .ok a.isNone w:=
 run_equalIn_nil 9999 hu a n c n' c'
theorem nilOpK_ok {P : Program} {op : BinOp} {t e : TypeId} (hu : P.underlying t = some (.slice e)) {a b : AV} {K : AV → Prop} (h : nilOpK op a b K) : ∃ v,K v ∧ BinRun P op t a b v:=by
 have key : ∀ (v v' : AV),(op = .eql → K v) → (op = .neq → K v') → (op = .eql ∨ op = .neq) → (∀ n c,b = .lit (.slice none n c) →
   (∀ (w : World) (g : G) (lim : Nat) (xa : Value),Rep w g lim a xa → ∃ ad n c,xa = .slice ad n c ∧ Rep w g lim v (.bool ad.isNone) ∧ Rep w g lim v' (.bool (!ad.isNone)))) → (∃ n c,b = .lit (.slice none n c)) → ∃ v,K v ∧ BinRun P op t a b v:=by
  intro v v' h1 h2 ho hr ⟨n,c,hb⟩
  have hr':=hr n c hb
  clear hr
  subst hb
  rcases ho with rfl|rfl
  ·refine ⟨v,h1 rfl,fun w g lim xa xb x y ha hbb=>?_⟩
   obtain ⟨ad,n1,c1,rfl,r1,_⟩:=hr' w g lim xa ha
   rw [rep_lit hbb]
   exact ⟨_,run_eqGuard_int _ _ _ _ _ _ (by simp) (by simp) w,by simp [binOp,run_equal_nil hu],r1⟩
  ·refine ⟨v',h2 rfl,fun w g lim xa xb x y ha hbb=>?_⟩
   obtain ⟨ad,n1,c1,rfl,_,r1⟩:=hr' w g lim xa ha
   rw [rep_lit hbb]
   exact ⟨_,run_eqGuard_int _ _ _ _ _ _ (by simp) (by simp) w,by simp [binOp,run_equal_nil hu],r1⟩
 unfold nilOpK at h
 split at h
 case h_2=>exact h.elim
 split at h
 ·rename_i l
  have hr : ∀ (w : World) (g : G) (lim : Nat) (xa : Value),Rep w g lim (.vec _ l) xa → ∃ ad n c,xa = .slice ad n c ∧ Rep w g lim (.bl (l = []) True) (.bool ad.isNone) ∧ Rep w g lim (.bl True (l = [])) (.bool (!ad.isNone)):=by
   intro w g lim xa ha
   cases ha with
   | vecE _ ad cap=>exact ⟨ad,0,cap,rfl,.bl _ _ _ (fun _=>rfl) (fun _=>trivial),.bl _ _ _ (fun _=>trivial) (fun _=>rfl)⟩
   | vec _ _ b o cap xs hc hr hw hh=>exact ⟨_,_,_,rfl,.bl _ _ _ (fun h=>by cases h) (fun _=>trivial),.bl _ _ _ (fun _=>trivial) (fun h=>by cases h)⟩
  split at h
  ·exact key _ _ (fun _=>h) (fun h=>by cases h) (.inl rfl) (fun _ _ _=>hr) ⟨_,_,rfl⟩
  ·exact key _ _ (fun h=>by cases h) (fun _=>h) (.inr rfl) (fun _ _ _=>hr) ⟨_,_,rfl⟩
  ·exact h.elim
 ·have hr : ∀ (t : Ty) (w : World) (g : G) (lim : Nat) (xa : Value),Rep w g lim (.emp t) xa → ∃ ad n c,xa = .slice ad n c ∧ Rep w g lim (.bl True True) (.bool ad.isNone) ∧ Rep w g lim (.bl True True) (.bool (!ad.isNone)):=by
   intro t w g lim xa ha
   cases ha with
   | emp _ ad=>exact ⟨_,_,_,rfl,.bl _ _ _ (fun _=>trivial) (fun _=>trivial),.bl _ _ _ (fun _=>trivial) (fun _=>trivial)⟩
  split at h
  ·exact key _ _ (fun _=>h) (fun h=>by cases h) (.inl rfl) (fun _ _ _=>hr _) ⟨_,_,rfl⟩
  ·exact key _ _ (fun h=>by cases h) (fun _=>h) (.inr rfl) (fun _ _ _=>hr _) ⟨_,_,rfl⟩
  ·exact h.elim
 ·have hr : ∀ (t : Ty) (k off len : Nat) (c : Option Nat) (w : World) (g : G) (lim : Nat) (xa : Value),Rep w g lim (.own t k off len c) xa → ∃ ad n c,xa = .slice ad n c ∧ Rep w g lim (.bl (len = 0) True) (.bool ad.isNone) ∧ Rep w g lim (.bl True (len = 0)) (.bool (!ad.isNone)):=by
   intro t k off len c w g lim xa ha
   cases ha with
   | own _ _ _ _ b cap _ hk hc _ hh=>exact ⟨_,_,_,rfl,.bl _ _ _ (fun h=>by cases h) (fun _=>trivial),.bl _ _ _ (fun _=>trivial) (fun h=>by cases h)⟩
   | ownE _ _ _ _ ad _ _=>exact ⟨_,_,_,rfl,.bl _ _ _ (fun _=>rfl) (fun _=>trivial),.bl _ _ _ (fun _=>trivial) (fun _=>rfl)⟩
  split at h
  ·exact key _ _ (fun _=>h) (fun h=>by cases h) (.inl rfl) (fun _ _ _=>hr _ _ _ _ _) ⟨_,_,rfl⟩
  ·exact key _ _ (fun h=>by cases h) (fun _=>h) (.inr rfl) (fun _ _ _=>hr _ _ _ _ _) ⟨_,_,rfl⟩
  ·exact h.elim
 ·have hr : ∀ (n c : Nat) (w : World) (g : G) (lim : Nat) (xa : Value),Rep w g lim (.lit (.slice none n c)) xa → ∃ ad n c,xa = .slice ad n c ∧ Rep w g lim .tt (.bool ad.isNone) ∧ Rep w g lim .ff (.bool (!ad.isNone)):=by
   intro n c w g lim xa ha
   rw [rep_lit ha]
   exact ⟨_,_,_,rfl,.tt,.ff⟩
  split at h
  ·exact key _ _ (fun _=>h) (fun h=>by cases h) (.inl rfl) (fun _ _ _=>hr _ _) ⟨_,_,rfl⟩
  ·exact key _ _ (fun h=>by cases h) (fun _=>h) (.inr rfl) (fun _ _ _=>hr _ _) ⟨_,_,rfl⟩
  ·exact h.elim
 ·exact h.elim
theorem run_equalIn_ptr {P : Program} {w : World} {t e : TypeId} (d : Nat) (hu : P.underlying t = some (.pointer e)) (a : Option Addr) : (Op.equalIn (d + 1) t (.pointer a) (.pointer none)).run P w = .ok a.isNone w:=by
 cases a<;>simp [Op.equalIn,run_underlying hu]
theorem run_equal_ptr {P : Program} {w : World} {t e : TypeId} (hu : P.underlying t = some (.pointer e)) (a : Option Addr) : (Op.equal t (.pointer a) (.pointer none)).run P w = .ok a.isNone w:=
 run_equalIn_ptr 9999 hu a
theorem ptrOpK_ok {P : Program} {op : BinOp} {t e : TypeId} (hu : P.underlying t = some (.pointer e)) {a b : AV} {K : AV → Prop} (h : ptrOpK op a b K) : ∃ v,K v ∧ BinRun P op t a b v:=by
 unfold ptrOpK at h
 split at h
 case h_2=>exact h.elim
 split at h
 ·refine eqSelK_ok h fun w g lim xa xb x y ha hb=>?_
  rw [rep_lit hb]
  cases ha with
  | ptr _ _ b _ _=>exact ⟨run_eqGuard_int _ _ _ _ _ _ (by simp) (by simp) w,fun _=>by simp [binOp,run_equal_ptr hu],fun _=>by simp [binOp,run_equal_ptr hu]⟩
 ·refine eqSelK_ok h fun w g lim xa xb x y ha hb=>?_
  rw [rep_lit hb,rep_lit ha]
  exact ⟨run_eqGuard_int _ _ _ _ _ _ (by simp) (by simp) w,fun _=>by simp [binOp,run_equal_ptr hu],fun _=>by simp [binOp,run_equal_ptr hu]⟩
 ·exact h.elim
theorem binK_ok {P : Program} {C : Cfg} (hC : CfgOk P C) {op : BinOp} {t : TypeId} {a b : AV} {K : AV → Prop} (h : binK P C op t a b K) : ∃ v,K v ∧ BinRun P op t a b v:=by
 unfold binK at h
 cases hu : P.underlying t with
 | none=>rw [hu] at h;exact h.elim
 | some d =>
  rw [hu] at h
  cases d<;>simp only at h
  case int k=>exact intOpK_ok h
  case bool=>exact boolOpK_ok hu h
  case string=>exact strOpK_ok h
  case struct fs=>exact aggOpK_ok hC h
  case slice e=>exact nilOpK_ok hu h
  case pointer e=>exact ptrOpK_ok hu h
theorem unK_ok {P : Program} {op : UnOp} {a : AV} {K : AV → Prop} (h : unK op a K) :
  ∃ v,K v ∧ ∀ (w : World) (g : G) (lim : Nat) (xa : Value),Rep w g lim a xa → ∃ r,(Op.unary op xa).run P w = .ok r w ∧ Rep w g lim v r:=by
 unfold unK at h
 split at h
 ·unfold notK at h
  split at h
  ·exact ⟨_,h,fun w g lim xa ha=>by cases ha;exact ⟨.bool false,by simp [Op.unary],.ff⟩⟩
  ·exact ⟨_,h,fun w g lim xa ha=>by cases ha;exact ⟨.bool true,by simp [Op.unary],.tt⟩⟩
  ·exact ⟨_,h,fun w g lim xa ha=>by rw [rep_lit ha];exact ⟨_,by simp [Op.unary],.lit _⟩⟩
  ·refine ⟨_,h,fun w g lim xa ha=>?_⟩
   cases ha with
   | bl p q b h1 h2=>exact ⟨.bool (!b),by simp [Op.unary],.bl _ _ _ (fun h=>h2 (by simpa using h)) (fun h=>h1 (by simpa using h))⟩
  ·exact h.elim
 ·split at h
  ·exact ⟨_,arK_ok h,fun w g lim xa ha=>by rw [rep_lit ha];exact ⟨_,by simp [Op.unary,Op.intArith],.lit _⟩⟩
  ·exact h.elim
 ·split at h
  ·exact ⟨_,h,fun w g lim xa ha=>by rw [rep_lit ha];exact ⟨_,by simp only [Op.unary,Op.intBits,Sem.run_pure,bitR],.lit _⟩⟩
  ·exact h.elim
 ·exact h.elim
def convK (P : Program) (src dst : TypeId) (v : AV) (K : AV → Prop) : Prop:=
 match v with
 | .lit (.int _ n)=>match P.underlying src with
  | some (.int _)=>match P.underlying dst with
   | some (.int k)=>arK k n K
   | _=>False
  | _=>False
 | _=>False
theorem convK_ok {P : Program} {src dst : TypeId} {a : AV} {K : AV → Prop} (h : convK P src dst a K) :
  ∃ v,K v ∧ ∀ (w : World) (g : G) (lim : Nat) (xa : Value),Rep w g lim a xa → ∃ r,(convert src dst xa).run P w = .ok r w ∧ Rep w g lim v r:=by
 unfold convK at h
 cases a with
 | lit va =>
  cases va with
  | int k' n =>
   simp only at h
   cases hs : P.underlying src with
   | none=>rw [hs] at h;exact h.elim
   | some ds =>
   rw [hs] at h
   cases ds<;>simp only at h
   case int ks =>
    cases hd : P.underlying dst with
    | none=>rw [hd] at h;exact h.elim
    | some dd =>
    rw [hd] at h
    cases dd<;>simp only at h
    case int k =>
     exact ⟨_,arK_ok h,fun w g lim xa ha=>by rw [rep_lit ha];exact ⟨_,by simp [convert,run_underlying hs,run_underlying hd,Conv.intToInt],.lit _⟩⟩
  | _=>exact h.elim
 | _=>exact h.elim
def faK (P : Program) (t : TypeId) (v : AV) (i : Nat) (K : AV → Prop) : Prop:=
 match fieldO P t i with
 | some d=>match v with
  | .ptr k off=>frcK d fun d=>K (.ptr k (off + d))
  | .rptr tt k j off=>frcK (off + d) fun d=>K (.rptr tt k j d)
  | .vptr tt l j off=>frcK (off + d) fun d=>K (.vptr tt l j d)
  | _=>False
 | none=>False
theorem faK_ok {P : Program} {t : TypeId} {a : AV} {i : Nat} {K : AV → Prop} (h : faK P t a i K) :
  ∃ v,K v ∧ ∀ (w : World) (g : G) (lim : Nat) (xa : Value),Rep w g lim a xa → ∃ r,(Instr.fieldAt t xa i).run P w = .ok r w ∧ Rep w g lim v r:=by
 unfold faK at h
 cases hf : fieldO P t i with
 | none=>rw [hf] at h;exact h.elim
 | some d =>
  rw [hf] at h
  cases a<;>simp only [frcK_eq] at h
  case ptr k off =>
   refine ⟨_,h,fun w g lim xa ha=>?_⟩
   cases ha with
   | ptr _ _ b hk hh=>exact ⟨_,run_fieldAt hf b off,.ptr _ _ b hk hh⟩
  case rptr tt k j off =>
   refine ⟨_,h,fun w g lim xa ha=>?_⟩
   cases ha with
   | rptr _ _ _ _ b hk hh=>exact ⟨_,run_fieldAt hf b _,by rw [Nat.add_assoc];exact .rptr _ _ _ _ b hk hh⟩
  case vptr tt l j off =>
   refine ⟨_,h,fun w g lim xa ha=>?_⟩
   cases ha with
   | vptr _ _ _ _ b o xs hr hw hh=>exact ⟨_,run_fieldAt hf b _,by rw [Nat.add_assoc,Nat.add_assoc];exact .vptr _ _ _ _ b o xs hr hw hh⟩
  all_goals exact h.elim
def ixK (P : Program) (t : TypeId) (v i : AV) (K : AV → Prop) : Prop:=
 match i with
 | .lit (.int _ n)=>match P.underlying t with
  | some (.slice e)=>match v with
   | .vec tt l=>match szOf P e with
    | some z=>match Nat.beq z (csz tt) with
     | true=>(0 ≤ n ∧ n < l.length) ∧ K (.vptr tt l n.toNat 0)
     | false=>False
    | none=>False
   | .own tt k off len _=>match szOf P e with
    | some z=>match Nat.beq z (csz tt) with
     | true=>(0 ≤ n ∧ n < len) ∧ K (.rptr tt k (n.toNat + off) 0)
     | false=>False
    | none=>False
   | .fec j tt l=>match j with
    | false=>match szOf P e with
     | some z=>match Nat.beq z (csz tt) with
      | true=>(0 ≤ n ∧ n < l.length) ∧ K (.vptr tt l n.toNat 0)
      | false=>False
     | none=>False
    | true=>match szOf P e with
     | some z=>match Nat.beq z (csz tt) with
      | true=>(0 ≤ n ∧ n < l.length) ∧ K (.fptr tt l.length n.toNat 0)
      | false=>False
     | none=>False
   | _=>False
  | some (.array len e)=>match v with
   | .ptr k off=>match szOf P e with
    | some z=>(0 ≤ n ∧ n < len) ∧ K (.ptr k (n.toNat * z + off))
    | none=>False
   | _=>False
  | _=>False
 | _=>False
theorem ixK_ok {P : Program} {t : TypeId} {a i : AV} {K : AV → Prop} (h : ixK P t a i K) :
  ∃ v,K v ∧ ∀ (w : World) (g : G) (lim : Nat) (xa xi : Value),Rep w g lim a xa → Rep w g lim i xi → ∃ r,(Instr.indexAt t xa xi).run P w = .ok r w ∧ Rep w g lim v r:=by
 unfold ixK at h
 split at h
 case h_2=>exact h.elim
 rename_i k n
 split at h
 ·rename_i e hu
  cases a<;>simp only at h
  case vec tt l =>
   cases hz : szOf P e with
   | none=>rw [hz] at h;exact h.elim
   | some z =>
   rw [hz] at h;simp only at h
   cases hb : Nat.beq z (csz tt) with
   | false=>rw [hb] at h;exact h.elim
   | true =>
   rw [hb] at h
   have hzz:=nbt.1 hb
   subst hzz
   obtain ⟨⟨h0,h1⟩,h⟩:=h
   refine ⟨_,h,fun w g lim xa xi ha hi=>?_⟩
   rw [rep_lit hi]
   cases ha with
   | vecE _ _ _=>simp at h1;omega
   | vec _ _ b o cap xs hc hr hw hh =>
    refine ⟨.pointer (some ⟨b,o + (n.toNat * csz tt + 0),none⟩),?_,.vptr _ _ _ _ b o xs (.inl hr) hw hh⟩
    simp [Instr.indexAt,asIntOf,run_underlying hu,h0,h1,run_sizeOf hz,add_none]
  case own tt kk off len cc =>
   cases hz : szOf P e with
   | none=>rw [hz] at h;exact h.elim
   | some z =>
   rw [hz] at h;simp only at h
   cases hb : Nat.beq z (csz tt) with
   | false=>rw [hb] at h;exact h.elim
   | true =>
   rw [hb] at h
   have hzz:=nbt.1 hb
   subst hzz
   obtain ⟨⟨h0,h1⟩,h⟩:=h
   refine ⟨_,h,fun w g lim xa xi ha hi=>?_⟩
   rw [rep_lit hi]
   cases ha with
   | own _ _ _ _ b cap _ hk hc _ hh =>
    refine ⟨.pointer (some ⟨b,(n.toNat + off) * csz tt + 0,none⟩),?_,.rptr _ _ _ _ b hk fun ha=>(hh ha).1⟩
    simp [Instr.indexAt,asIntOf,run_underlying hu,h0,h1,run_sizeOf hz,add_none,Nat.add_mul,Nat.add_comm]
   | ownE _ _ _ _ _ _ _=>simp at h1;omega
  case fec j tt l =>
   cases j with
   | false =>
    simp only at h
    cases hz : szOf P e with
    | none=>rw [hz] at h;exact h.elim
    | some z =>
    rw [hz] at h;simp only at h
    cases hb : Nat.beq z (csz tt) with
    | false=>rw [hb] at h;exact h.elim
    | true =>
    rw [hb] at h
    have hzz:=nbt.1 hb
    subst hzz
    obtain ⟨⟨h0,h1⟩,h⟩:=h
    refine ⟨_,h,fun w g lim xa xi ha hi=>?_⟩
    rw [rep_lit hi]
    cases ha with
    | fecE _ _ _ _=>simp at h1;omega
    | fec _ _ b o cap xs hc hr hg hw hh =>
     refine ⟨.pointer (some ⟨b,o + (n.toNat * csz tt + 0),none⟩),?_,.vptr _ _ _ _ b o xs (.inr hr) hw hh⟩
     simp [Instr.indexAt,asIntOf,run_underlying hu,h0,h1,run_sizeOf hz,add_none]
   | true =>
   simp only at h
   cases hz : szOf P e with
   | none=>rw [hz] at h;exact h.elim
   | some z =>
   rw [hz] at h;simp only at h
   cases hb : Nat.beq z (csz tt) with
   | false=>rw [hb] at h;exact h.elim
   | true =>
   rw [hb] at h
   have hzz:=nbt.1 hb
   subst hzz
   obtain ⟨⟨h0,h1⟩,h⟩:=h
   refine ⟨_,h,fun w g lim xa xi ha hi=>?_⟩
   rw [rep_lit hi]
   cases ha with
   | fecE _ _ _ _=>simp at h1;omega
   | jec _ _ b o cap n2 hc hr hn2 =>
    refine ⟨.pointer (some ⟨b,o + (n.toNat * csz tt + 0),none⟩),?_,.fptr _ _ _ _ b o n2 hr hn2⟩
    simp [Instr.indexAt,asIntOf,run_underlying hu,h0,h1,run_sizeOf hz,add_none]
  all_goals exact h.elim
 ·rename_i len e hu
  cases a<;>simp only at h
  case ptr kk off =>
   cases hz : szOf P e with
   | none=>rw [hz] at h;exact h.elim
   | some z =>
   rw [hz] at h;simp only at h
   obtain ⟨⟨h0,h1⟩,h⟩:=h
   refine ⟨_,h,fun w g lim xa xi ha hi=>?_⟩
   rw [rep_lit hi]
   cases ha with
   | ptr _ _ b hk hh =>
    exact ⟨_,by simp [Instr.indexAt,asIntOf,run_underlying hu,h0,h1,run_sizeOf hz,add_none,Instr.sureAddr,Nat.add_comm],.ptr _ _ b hk hh⟩
  all_goals exact h.elim
 ·exact h.elim
def lenK (P : Program) (t : TypeId) (v : AV) (K : AV → Prop) : Prop:=
 match P.underlying t with
 | some (.slice _)=>match v with
  | .vec _ l=>K (.lit (.int .i64 l.length))
  | .fec _ _ l=>K (.lit (.int .i64 l.length))
  | .emp _=>K (.lit (.int .i64 0))
  | .own _ _ _ n _=>K (.lit (.int .i64 n))
  | .lit (.slice none n _)=>K (.lit (.int .i64 n))
  | _=>False
 | some (.array n _)=>K (.lit (.int .i64 n))
 | some .string=>match v with
  | .lit (.string s)=>K (.lit (.int .i64 s.size))
  | _=>False
 | _=>False
theorem lenK_ok {P : Program} {t ty : TypeId} {ats : Array TypeId} (hat : ats[0]? = some t) {a : AV} {K : AV → Prop} (h : lenK P t a K) :
  ∃ v,K v ∧ ∀ (w : World) (g : G) (lim : Nat) (xa : Value) (rest : Array Value),rest[0]? = some xa → Rep w g lim a xa → ∃ r,(Builtin.len_ ats ty rest).run P w = .ok r w ∧ Rep w g lim v r:=by
 unfold lenK at h
 split at h
 ·rename_i e hu
  split at h
  ·refine ⟨_,h,fun w g lim xa rest hx ha=>?_⟩
   cases ha with
   | vecE _ a cap=>exact ⟨_,by simp [Builtin.len_,hat,hx,run_underlying hu,goInt],.lit _⟩
   | vec _ _ b o cap xs hc hr hw hh=>exact ⟨_,by simp [Builtin.len_,hat,hx,run_underlying hu,goInt],.lit _⟩
  ·refine ⟨_,h,fun w g lim xa rest hx ha=>?_⟩
   cases ha with
   | fecE _ _ a cap=>exact ⟨_,by simp [Builtin.len_,hat,hx,run_underlying hu,goInt],.lit _⟩
   | fec _ _ b o cap xs hc hr hg hw hh=>exact ⟨_,by simp [Builtin.len_,hat,hx,run_underlying hu,goInt],.lit _⟩
   | jec _ _ b o cap n hc hr hn=>exact ⟨_,by simp [Builtin.len_,hat,hx,run_underlying hu,goInt],.lit _⟩
  ·refine ⟨_,h,fun w g lim xa rest hx ha=>?_⟩
   cases ha with
   | emp _ ad=>exact ⟨_,by simp [Builtin.len_,hat,hx,run_underlying hu,goInt],.lit _⟩
  ·refine ⟨_,h,fun w g lim xa rest hx ha=>?_⟩
   cases ha with
   | own _ _ _ _ b cap _ hk hc _ hh=>exact ⟨_,by simp [Builtin.len_,hat,hx,run_underlying hu,goInt],.lit _⟩
   | ownE _ _ _ _ _ _ _=>exact ⟨_,by simp [Builtin.len_,hat,hx,run_underlying hu,goInt],.lit _⟩
  ·refine ⟨_,h,fun w g lim xa rest hx ha=>?_⟩
   rw [rep_lit ha] at hx
   exact ⟨_,by simp [Builtin.len_,hat,hx,run_underlying hu,goInt],.lit _⟩
  ·exact h.elim
 ·rename_i n e hu
  refine ⟨_,h,fun w g lim xa rest hx ha=>⟨_,by simp [Builtin.len_,hat,hx,run_underlying hu,goInt],.lit _⟩⟩
 ·rename_i hu
  split at h
  ·refine ⟨_,h,fun w g lim xa rest hx ha=>?_⟩
   rw [rep_lit ha] at hx
   exact ⟨_,by simp [Builtin.len_,hat,hx,run_underlying hu,goInt],.lit _⟩
  ·exact h.elim
 ·exact h.elim
open Go Go.RowKit
theorem run_part {P : Program} {w : World} {g : G} {lim : Nat} {t : TypeId} {cs : List AV} {off : Nat} {K : AV → Prop} (h : aggK P t cs off K) :
  ∃ v,K v ∧ ∀ (w : World) (g : G) (lim : Nat) (xs : Array Value),RepL w g lim cs xs → ∃ x,(part t xs off).run P w = .ok x w ∧ Rep w g lim v x:=by
 unfold aggK at h
 split at h
 ·rename_i n ha hs
  obtain ⟨h1,h2⟩:=dropK_ok h
  obtain ⟨h3,h4⟩:=takeK_ok h2
  simp only [List.length_drop] at h3
  refine ⟨_,h4,fun w g lim xs hr=>⟨.agg (xs.extract off (off + n)),by simp [part,run_isAgg ha,run_sizeOf hs],?_⟩⟩
  have hl : cs.length = xs.size:=hr.1
  refine .agg _ _ (by simp [List.length_take,List.length_drop];omega) fun i c x hc hx=>?_
  have hin : i < n:=by have:=(List.getElem?_eq_some_iff.1 hc).1;simp at this;omega
  rw [List.getElem?_take,if_pos hin,List.getElem?_drop] at hc
  rw [Array.getElem?_extract,if_pos (by omega)] at hx
  exact hr.2 _ _ _ hc hx
 ·rename_i ha hs
  obtain ⟨h1,h2⟩:=dropK_ok h
  obtain ⟨h3,h4⟩:=takeK_ok h2
  simp only [List.length_drop] at h3
  have hc : cs[off]? = some (cs[off]'(by omega)):=List.getElem?_eq_getElem (by omega)
  have he : (cs.drop off).take 1 = [cs[off]'(by omega)]:=by
   rw [List.drop_eq_getElem_cons (by omega),List.take_succ_cons,List.take_zero]
  rw [he] at h4
  refine ⟨_,h4,fun w g lim xs hr=>?_⟩
  have hl : cs.length = xs.size:=hr.1
  have hx : xs[off]? = some (xs[off]'(by omega)):=Array.getElem?_eq_getElem (by omega)
  exact ⟨xs[off]'(by omega),by simp [part,run_isAgg ha,hx],hr.2 _ _ _ hc hx⟩
 ·exact h.elim
def fieldK (P : Program) (t : TypeId) (v : AV) (i : Nat) (K : AV → Prop) : Prop:=
 match P.underlying t with
 | some (.struct fs)=>match fs[i]? with
  | some f=>match v with
   | .agg cs=>aggK P f.type cs f.offset K
   | _=>False
  | none=>False
 | _=>False
theorem fieldK_ok {P : Program} {t : TypeId} {a : AV} {i : Nat} {K : AV → Prop} (h : fieldK P t a i K) :
  ∃ v,K v ∧ ∀ (w : World) (g : G) (lim : Nat) (xa : Value),Rep w g lim a xa → ∃ r,(Instr.field t xa i).run P w = .ok r w ∧ Rep w g lim v r:=by
 unfold fieldK at h
 cases hu : P.underlying t with
 | none=>rw [hu] at h;exact h.elim
 | some d =>
 rw [hu] at h
 cases d<;>simp only at h
 case struct fs =>
  cases hf : fs[i]? with
  | none=>rw [hf] at h;exact h.elim
  | some f =>
  rw [hf] at h
  cases a with
  | agg cs =>
   obtain ⟨v,hK,hv⟩:=run_part (w:=default) (g:=⟨fun _=>False,fun _=>False,fun _=>False,id,id,fun _=>False,fun _ _=>False,fun _=>False⟩) (lim:=0) h
   refine ⟨v,hK,fun w g lim xa ha=>?_⟩
   obtain ⟨xs,rfl,hr⟩:=rep_agg ha
   obtain ⟨x,e1,e2⟩:=hv w g lim xs hr
   exact ⟨x,by simp [Instr.field,run_underlying hu,hf,asAgg,e1],e2⟩
  | _=>exact h.elim
def byteK (s : ByteArray) (n : Int) (K : AV → Prop) : Prop:=
 0 ≤ n ∧ match s.data.toList[n.toNat]? with
  | some b=>K (.lit (.int .u8 b.toNat))
  | none=>False
theorem byte_get {s : ByteArray} {i : Nat} {b : UInt8} (h : s.data.toList[i]? = some b) : s[i]? = some b:=by
 rw [Array.getElem?_toList] at h
 obtain ⟨hlt,he⟩:=Array.getElem?_eq_some_iff.1 h
 have hlt2 : i < s.size:=hlt
 rw [getElem?_pos s i hlt2]
 exact congrArg some he
def idxAK (P : Program) (t : TypeId) (v i : AV) (K : AV → Prop) : Prop:=
 match i with
 | .lit (.int _ n)=>match P.underlying t with
  | some (.array len e)=>match v with
   | .agg cs=>match szOf P e with
    | some z=>(0 ≤ n ∧ n < len) ∧ aggK P e cs (n.toNat * z) K
    | none=>False
   | _=>False
  | some .string=>match v with
   | .lit (.string s)=>byteK s n K
   | _=>False
  | _=>False
 | _=>False
theorem idxAK_ok {P : Program} {t : TypeId} {a i : AV} {K : AV → Prop} (h : idxAK P t a i K) :
  ∃ v,K v ∧ ∀ (w : World) (g : G) (lim : Nat) (xa xi : Value),Rep w g lim a xa → Rep w g lim i xi → ∃ r,(Instr.index t xa xi).run P w = .ok r w ∧ Rep w g lim v r:=by
 unfold idxAK at h
 split at h
 case h_2=>exact h.elim
 rename_i k n
 split at h
 case h_3=>exact h.elim
 case h_2 =>
  rename_i hu
  split at h
  case h_2=>exact h.elim
  rename_i s
  obtain ⟨h0,h⟩:=h
  split at h
  case h_2=>exact h.elim
  rename_i b hb
  refine ⟨_,h,fun w g lim xa xi ha hi=>?_⟩
  rw [rep_lit hi,rep_lit ha]
  exact ⟨_,by simp [Instr.index,asIntOf,run_underlying hu,h0,byte_get hb],.lit _⟩
 rename_i len e hu
 split at h
 case h_2=>exact h.elim
 rename_i cs
 split at h
 case h_2=>exact h.elim
 rename_i z hz
 obtain ⟨⟨h0,h1⟩,h⟩:=h
 obtain ⟨v,hK,hv⟩:=run_part (w:=default) (g:=⟨fun _=>False,fun _=>False,fun _=>False,id,id,fun _=>False,fun _ _=>False,fun _=>False⟩) (lim:=0) h
 refine ⟨v,hK,fun w g lim xa xi ha hi=>?_⟩
 rw [rep_lit hi]
 obtain ⟨xs,rfl,hr⟩:=rep_agg ha
 obtain ⟨x,e1,e2⟩:=hv w g lim xs hr
 exact ⟨x,by simp [Instr.index,asIntOf,run_underlying hu,h0,h1,run_sizeOf hz,e1],e2⟩
def extrK (v : AV) (i : Nat) (K : AV → Prop) : Prop:=
 match v with
 | .tup cs=>dropK cs i fun l=>match l with|x :: _=>K x|[]=>False
 | _=>False
theorem extrK_ok {P : Program} {a : AV} {i : Nat} {K : AV → Prop} (h : extrK a i K) :
  ∃ v,K v ∧ ∀ (w : World) (g : G) (lim : Nat) (xa : Value),Rep w g lim a xa → ∃ r,(Instr.extract xa i).run P w = .ok r w ∧ Rep w g lim v r:=by
 unfold extrK at h
 cases a with
 | tup cs =>
  obtain ⟨h1,h2⟩:=dropK_ok h
  cases hd : cs.drop i with
  | nil=>rw [hd] at h2;exact h2.elim
  | cons x r =>
   rw [hd] at h2
   refine ⟨x,h2,fun w g lim xa ha=>?_⟩
   have hc : cs[i]? = some x:=by
    have : (cs.drop i)[0]? = some x:=by rw [hd];rfl
    simpa using this
   cases ha with
   | tup _ xs hl hr =>
    have hlt : i < xs.size:=by have:=(List.getElem?_eq_some_iff.1 hc).1;omega
    have hx : xs[i]? = some xs[i]:=Array.getElem?_eq_getElem hlt
    exact ⟨xs[i],by simp [Instr.extract,hx],hr i x _ hc hx⟩
 | _=>exact h.elim
def mmK (mx : Bool) (a b : AV) (K : AV → Prop) : Prop:=
 match a with
 | .lit (.int k x)=>match b with
  | .lit (.int _ y)=>match mx with
   | true=>K (.lit (.int k (max x y)))
   | false=>K (.lit (.int k (min x y)))
  | _=>False
 | _=>False
theorem mmK_ok {P : Program} {mx : Bool} {a b : AV} {K : AV → Prop} (h : mmK mx a b K) :
  ∃ v,K v ∧ ∀ (w : World) (g : G) (lim : Nat) (xa xb : Value),Rep w g lim a xa → Rep w g lim b xb →
   ∃ r,(match mx with|true=>Builtin.max2 xa xb|false=>Builtin.min2 xa xb).run P w = .ok r w ∧ Rep w g lim v r:=by
 unfold mmK at h
 cases a with
 | lit va =>
  cases va with
  | int k x =>
   cases b with
   | lit vb =>
    cases vb with
    | int k' y =>
     cases mx with
     | true =>
      refine ⟨_,h,fun w g lim xa xb ha hb=>?_⟩
      rw [rep_lit ha,rep_lit hb]
      refine ⟨_,rfl,?_⟩
      have : (if y > x then y else x) = max x y:=by rw [Int.max_def];split<;>split<;>omega
      rw [this];exact .lit _
     | false =>
      refine ⟨_,h,fun w g lim xa xb ha hb=>?_⟩
      rw [rep_lit ha,rep_lit hb]
      refine ⟨_,rfl,?_⟩
      have : (if y < x then y else x) = min x y:=by rw [Int.min_def];split<;>split<;>omega
      rw [this];exact .lit _
    | _=>exact h.elim
   | _=>exact h.elim
  | _=>exact h.elim
 | _=>exact h.elim
def ncK (v : AV) (K : AV → Prop) : Prop:=
 match v with
 | .ptr k off=>K (.ptr k off)
 | .rptr t k i off=>K (.rptr t k i off)
 | .vptr t l i off=>K (.vptr t l i off)
 | _=>False
theorem ncK_ok {P : Program} {o : Oper} {x : Operand} (ho : o.op = .nilCheck x) {a : AV} {K : AV → Prop} (h : ncK a K) :
  K a ∧ ∀ (w : World) (g : G) (lim : Nat) (ρ : Operand → Value),Rep w g lim a (ρ x) → (execOp ρ o).run P w = .ok (.value (ρ x)) w:=by
 unfold ncK at h
 cases a<;>simp only at h
 all_goals first
  | exact h.elim
  | (refine ⟨h,fun w g lim ρ ha=>?_⟩
     generalize hE : ρ x = E at ha
     cases ha<;>(unfold execOp;rw [ho];simp [hE]))
def avalsK (f : List AV) : List Operand → (List AV → Prop) → Prop
 | [],K=>K []
 | x :: r,K=>avalK f x fun v=>avalsK f r fun vs=>K (v :: vs)
theorem avalsK_eq (f : List AV) (xs : List Operand) (K : List AV → Prop) : avalsK f xs K = K (xs.map (aval f)):=by
 induction xs generalizing K with
 | nil=>rfl
 | cons x r ih=>simp only [avalsK,avalK_eq,ih,List.map_cons]
def builtinK (P : Program) (b : Builtin) (ats : Array TypeId) (args : List Operand) (f : List AV) (K : Act1 → Prop) : Prop:=
 match b with
 | .len=>match args with
  | [x]=>match ats[0]? with
   | some t=>avalK f x fun v=>lenK P t v fun r=>K (vA r)
   | none=>False
  | _=>False
 | .min=>match args with
  | [x,y]=>avalK f x fun a=>avalK f y fun b=>mmK false a b fun r=>K (vA r)
  | _=>False
 | .max=>match args with
  | [x,y]=>avalK f x fun a=>avalK f y fun b=>mmK true a b fun r=>K (vA r)
  | [x,y,z]=>avalK f x fun a=>avalK f y fun b=>avalK f z fun c=>mmK true a b fun r=>mmK true r c fun r=>K (vA r)
  | [x,y,z,u]=>avalK f x fun a=>avalK f y fun b=>avalK f z fun c=>avalK f u fun d=>mmK true a b fun r=>mmK true r c fun r=>mmK true r d fun r=>K (vA r)
  | _=>False
 | _=>False
open Go Go.RowKit
theorem foldl_setRange (off : Nat) (l : List Value) : ∀ (k : Nat) (c : Array Value),(l.zipIdx k).foldl (fun cs (p : Value × Nat)=>cs.setIfInBounds (off + p.2) p.1) c = setRange c (off + k) l:=by
 induction l with
 | nil=>intro k c;rfl
 | cons v r ih=>intro k c;simp only [List.zipIdx_cons,List.foldl_cons,setRange];rw [ih];rfl
theorem fill_cons (place : Nat → Option (Nat × Nat)) (c : Array Value) (i : Nat) (v : Value) (r : List (Nat × Value)) {off n : Nat} (hp : place i = some (off,n)) (hn : v.cells.size = n) (hl : off + v.cells.size ≤ c.size) :
  Instr.fill place c ((i,v) :: r) = Instr.fill place (setRange c off v.cells.toList) r:=by
 simp only [Instr.fill,hp]
 rw [if_neg (by simp [hn];omega)]
 congr 1
 have:=foldl_setRange off v.cells.toList 0 c
 rw [← Array.foldl_toList]
 simpa using this
theorem RepL.over {w : World} {g : G} {lim : Nat} {cs cs' vs : List AV} {c x : Array Value} {o : Nat} (h : RepL w g lim cs c) (hv : RepL w g lim vs x) (hl : o + vs.length ≤ cs.length) (h1 : cs'.length = cs.length)
  (h2 : ∀ i,cs'[i]? = if o ≤ i ∧ i < o + vs.length then vs[i - o]? else cs[i]?) : RepL w g lim cs' (setRange c o x.toList):=by
 have e1 : cs.length = c.size:=h.1
 have e2 : vs.length = x.size:=hv.1
 refine ⟨by rw [setRange_size,h1];exact h.1,fun i a y ha hy=>?_⟩
 rw [h2] at ha
 rw [setRange_get _ _ _ _ (by simp;omega)] at hy
 by_cases hin : o ≤ i ∧ i < o + vs.length
 ·rw [if_pos hin] at ha
  rw [if_pos (by simp;omega)] at hy
  exact hv.2 _ _ _ ha (by simpa using hy)
 ·rw [if_neg hin] at ha
  rw [if_neg (by simp;omega)] at hy
  exact h.2 _ _ _ ha hy
def fillK (place : Nat → Option (Nat × Nat)) (f : List AV) : List (Nat × Operand) → List AV → (List AV → Prop) → Prop
 | [],cs,K=>K cs
 | (i,x) :: r,cs,K=>match place i with
  | some (off,n + 1)=>avalK f x fun v=>cellsK v fun vs=>match Nat.beq vs.length (n + 1) with
   | true=>overK cs off vs fun cs=>fillK place f r cs K
   | false=>False
  | _=>False
theorem fillK_ok {place : Nat → Option (Nat × Nat)} {f : List AV} {ps : List (Nat × Operand)} : ∀ {cs : List AV} {K : List AV → Prop},fillK place f ps cs K →
  ∃ cs',K cs' ∧ ∀ (w : World) (g : G) (lim : Nat) (ρ : Operand → Value) (c : Array Value),RepL w g lim cs c → (∀ p ∈ ps,Rep w g lim (aval f p.2) (ρ p.2)) →
   ∃ c',Instr.fill place c (ps.map fun p=>(p.1,ρ p.2)) = some c' ∧ RepL w g lim cs' c':=by
 induction ps with
 | nil=>intro cs K h;exact ⟨cs,h,fun w g lim ρ c hc _=>⟨c,rfl,hc⟩⟩
 | cons p r ih =>
  intro cs K h
  obtain ⟨i,x⟩:=p
  simp only [fillK] at h
  cases hp : place i with
  | none=>rw [hp] at h;exact h.elim
  | some q =>
  obtain ⟨off,n⟩:=q
  rw [hp] at h
  cases n with
  | zero=>exact h.elim
  | succ n =>
  simp only at h
  rw [avalK_eq] at h
  obtain ⟨vs,h,hvs⟩:=cellsK_ok h
  cases hb : Nat.beq vs.length (n + 1) with
  | false=>rw [hb] at h;exact h.elim
  | true =>
  rw [hb] at h
  have hlen:=nbt.1 hb
  obtain ⟨cs1,h,q1,q2,q3⟩:=overK_ok h
  have hne : vs ≠ []:=by intro e;rw [e] at hlen;cases hlen
  obtain ⟨cs',hK,hr⟩:=ih h
  refine ⟨cs',hK,fun w g lim ρ c hc hps=>?_⟩
  obtain ⟨v1,v2,v3⟩:=hvs (x:=ρ x) (hps (i,x) (by simp))
  replace v1 : vs.length = (ρ x).cells.size:=v1
  have hcl : cs.length = c.size:=hc.1
  have hq:=q2 hne
  simp only [List.map_cons]
  rw [fill_cons place c i (ρ x) _ hp (by rw [← v1];exact hlen) (by omega)]
  exact hr w g lim ρ _ (hc.over ⟨v1,v2⟩ hq q1 q3) fun p hp=>hps p (by simp [hp])
def placeS (P : Program) (fs : Array Field) (i : Nat) : Option (Nat × Nat):=match fs[i]? with
 | some f=>match szOf P f.type with
  | some n=>some (f.offset,n)
  | none=>none
 | none=>none
def allSz (P : Program) : List Field → Bool
 | []=>true
 | f :: r=>match szOf P f.type with|some _=>allSz P r|none=>false
theorem run_places {P : Program} {w : World} (fs : Array Field) (h : allSz P fs.toList = true) :
  ∃ ps : Array (Nat × Nat),(fs.mapM fun (f : Field)=>(do pure (f.offset,← Go.sizeOf f.type) : Sem (Nat × Nat))).run P w = .ok ps w ∧ ∀ (i : Nat),ps[i]? = placeS P fs i:=by
 have key : ∀ l : List Field,allSz P l = true → ∃ ps : List (Nat × Nat),(l.mapM fun (f : Field)=>(do pure (f.offset,← Go.sizeOf f.type) : Sem (Nat × Nat))).run P w = .ok ps w ∧
   ∀ (i : Nat),ps[i]? = match (l[i]? : Option Field) with|some f=>(match szOf P f.type with|some n=>some (f.offset,n)|none=>none)|none=>none:=by
  intro l
  induction l with
  | nil=>intro _;exact ⟨[],by simp,fun i=>by simp⟩
  | cons f r ih =>
   intro hl
   simp only [allSz] at hl
   cases hs : szOf P f.type with
   | none=>rw [hs] at hl;cases hl
   | some n =>
    rw [hs] at hl
    obtain ⟨ps,h1,h2⟩:=ih hl
    refine ⟨(f.offset,n) :: ps,by simp only [List.mapM_cons,Sem.run_bind,Eng.run_sizeOf hs,Result.andThen_ok,Sem.run_pure,h1],fun i=>?_⟩
    cases i with
    | zero=>simp [hs]
    | succ i=>simpa using h2 i
 obtain ⟨ps,h1,h2⟩:=key fs.toList h
 refine ⟨ps.toArray,?_,fun i=>?_⟩
 ·rw [← Array.toArray_toList (xs:=fs),List.mapM_toArray]
  simp only [Sem.run_map,h1,Result.andThen_ok]
 ·simp only [List.getElem?_toArray,h2 i,placeS,Array.getElem?_toList]
def buildK (P : Program) (f : List AV) (t : TypeId) (ps : List (Nat × Operand)) (K : AV → Prop) : Prop:=
 match P.info? t with
 | some i=>match i.zero with
  | some z=>match P.underlying t with
   | some (.struct fs)=>match allSz P fs.toList with
    | true=>litsK z.cells.toList fun cs=>fillK (placeS P fs) f ps cs fun cs=>K (.agg cs)
    | false=>False
   | some (.array _ e)=>match szOf P e with
    | some n=>litsK z.cells.toList fun cs=>fillK (fun i=>some (i * n,n)) f ps cs fun cs=>K (.agg cs)
    | none=>False
   | _=>False
  | none=>False
 | none=>False
theorem buildK_ok {P : Program} {f : List AV} {t : TypeId} {ps : Array (Nat × Operand)} {K : AV → Prop} (h : buildK P f t ps.toList K) :
  ∃ v,K v ∧ ∀ (w : World) (g : G) (lim : Nat) (ρ : Operand → Value),(∀ p ∈ ps.toList,Rep w g lim (aval f p.2) (ρ p.2)) →
   ∃ x,(Instr.build t (ps.map fun (i,x)=>(i,ρ x))).run P w = .ok x w ∧ Rep w g lim v x:=by
 unfold buildK at h
 cases hi : P.info? t with
 | none=>rw [hi] at h;exact h.elim
 | some i =>
 rw [hi] at h;simp only at h
 cases hz : i.zero with
 | none=>rw [hz] at h;exact h.elim
 | some z =>
 rw [hz] at h;simp only at h
 have hmap : ∀ ρ : Operand → Value,(ps.map fun (i,x)=>(i,ρ x)).toList = ps.toList.map fun p=>(p.1,ρ p.2):=fun ρ=>by simp
 cases hu : P.underlying t with
 | none=>rw [hu] at h;exact h.elim
 | some d =>
 rw [hu] at h
 cases d<;>simp only at h
 case struct fs =>
  cases ha : allSz P fs.toList with
  | false=>rw [ha] at h;exact h.elim
  | true =>
  rw [ha] at h
  obtain ⟨cs,h,hcs⟩:=litsK_ok h
  obtain ⟨cs',hK,hr⟩:=fillK_ok h
  refine ⟨_,hK,fun w g lim ρ hps=>?_⟩
  obtain ⟨c',e1,e2⟩:=hr w g lim ρ z.cells (by simpa using hcs w g lim) hps
  obtain ⟨pl,p1,p2⟩:=run_places (P:=P) (w:=w) fs ha
  have hpl : (fun i=>pl[i]?) = placeS P fs:=funext p2
  refine ⟨.agg c',?_,.agg _ _ e2.1 e2.2⟩
  simp only [Instr.build,zeroValue,Sem.run_bind,Eng.run_typeInfo hi,hz,Sem.run_pure,Result.andThen_ok,Eng.run_underlying hu,p1,hpl,hmap,e1]
 case array n e =>
  cases hs : szOf P e with
  | none=>rw [hs] at h;exact h.elim
  | some n =>
  rw [hs] at h
  obtain ⟨cs,h,hcs⟩:=litsK_ok h
  obtain ⟨cs',hK,hr⟩:=fillK_ok h
  refine ⟨_,hK,fun w g lim ρ hps=>?_⟩
  obtain ⟨c',e1,e2⟩:=hr w g lim ρ z.cells (by simpa using hcs w g lim) hps
  refine ⟨.agg c',?_,.agg _ _ e2.1 e2.2⟩
  simp only [Instr.build,zeroValue,Sem.run_bind,Eng.run_typeInfo hi,hz,Sem.run_pure,Result.andThen_ok,Eng.run_underlying hu,Eng.run_sizeOf hs,hmap,e1]
 all_goals exact h.elim
open Go Go.RowKit
theorem flat_append (t : Ty) (a b : List (El t)) : flat t (a ++ b) = flat t a ++ flat t b:=by simp [flat]
theorem flat_take (t : Ty) (l : List (El t)) (n : Nat) : flat t (l.take n) = (flat t l).take (n * csz t):=by
 induction l generalizing n with
 | nil=>simp [flat]
 | cons a r ih =>
  cases n with
  | zero=>simp [flat]
  | succ n =>
   have h1 : flat t (a :: r) = cells t a ++ flat t r:=by simp [flat]
   have h2 : flat t ((a :: r).take (n + 1)) = cells t a ++ flat t (r.take n):=by simp [flat]
   have hl : (cells t a).length = csz t:=cells_length t a
   have e1 : (cells t a).take ((n + 1) * csz t) = cells t a:=List.take_of_length_le (by rw [hl,Nat.succ_mul];omega)
   have e2 : (n + 1) * csz t - (cells t a).length = n * csz t:=by rw [hl,Nat.succ_mul];omega
   rw [h1,h2,ih,List.take_append,e1,e2]
theorem flat_drop (t : Ty) (l : List (El t)) (n : Nat) : flat t (l.drop n) = (flat t l).drop (n * csz t):=by
 induction l generalizing n with
 | nil=>simp [flat]
 | cons a r ih =>
  cases n with
  | zero=>simp [flat]
  | succ n =>
   have h1 : flat t (a :: r) = cells t a ++ flat t r:=by simp [flat]
   have h2 : flat t ((a :: r).drop (n + 1)) = flat t (r.drop n):=by simp [flat]
   have hl : (cells t a).length = csz t:=cells_length t a
   have e1 : (cells t a).drop ((n + 1) * csz t) = []:=List.drop_eq_nil_of_le (by rw [hl,Nat.succ_mul];omega)
   have e2 : (n + 1) * csz t - (cells t a).length = n * csz t:=by rw [hl,Nat.succ_mul];omega
   rw [h1,h2,ih,List.drop_append,e1,e2,List.nil_append]
theorem one_cells {t : Ty} {e : El t} {c : AV} (h : c ∈ cells t e) : one c = true:=by
 cases t
 case boxM=>obtain ⟨f,e⟩:=e;cases f<;>simp [cells,bagM] at h<;>(repeat' (first|(subst h;rfl)|(rcases h with h|h)))
 all_goals simp [cells] at h<;>(repeat' (first|(subst h;rfl)|(rcases h with h|h)))
theorem one_flat {t : Ty} {l : List (El t)} {i : Nat} {c : AV} (h : (flat t l)[i]? = some c) : one c = true:=by
 have hm:=List.mem_of_getElem? h
 simp only [flat,List.mem_flatMap] at hm
 obtain ⟨e,_,hc⟩:=hm
 exact one_cells hc
def tyN : Ty → Nat
 | .u8=>0|.i64=>1|.slot=>2|.heap=>3|.box=>4|.chunk=>5|.player=>6|.seen=>7|.cmd=>8|.order=>9|.reply=>10|.step=>11|.recipe=>12|.ints=>13|.orders=>14|.doo=>15|.deed=>16|.pos=>17|.flag=>18|.view=>19|.boxF=>20|.boxJ=>21|.boxM=>22|.chunkF=>23|.chunkJ=>24|.chunkC=>25|.chunkK=>26
def tyB (a b : Ty) : Bool:=Nat.beq (tyN a) (tyN b)
theorem tyB_ok {a b : Ty} (h : tyB a b = true) : a = b:=by cases a<;>cases b<;>first|rfl|(cases h;done)
def castL : (a b : Ty) → List (El a) → Option (List (El b))
 | .u8,.u8,l=>some l
 | .i64,.i64,l=>some l
 | .slot,.slot,l=>some l
 | .heap,.heap,l=>some l
 | .box,.box,l=>some l
 | .chunk,.chunk,l=>some l
 | .player,.player,l=>some l
 | .seen,.seen,l=>some l
 | .cmd,.cmd,l=>some l
 | .order,.order,l=>some l
 | .reply,.reply,l=>some l
 | .step,.step,l=>some l
 | .recipe,.recipe,l=>some l
 | .ints,.ints,l=>some l
 | .orders,.orders,l=>some l
 | .doo,.doo,l=>some l
 | .deed,.deed,l=>some l
 | .pos,.pos,l=>some l
 | .flag,.flag,l=>some l
 | .view,.view,l=>some l
 | .boxF,.boxF,l=>some l
 | .boxJ,.boxJ,l=>some l
 | .boxM,.boxM,l=>some l
 | .chunkF,.chunkF,l=>some l
 | .chunkJ,.chunkJ,l=>some l
 | .chunkC,.chunkC,l=>some l
 | .chunkK,.chunkK,l=>some l
 | _,_,_=>none
theorem castL_ok {a b : Ty} {l : List (El a)} {l' : List (El b)} (h : castL a b l = some l') : ∃ e : a = b,l' = e ▸ l:=by
 cases a<;>cases b<;>simp [castL] at h<;>exact ⟨rfl,h.symm⟩
def asK (a b : Ty) (l : List (El a)) (K : List (El b) → Prop) : Prop:=match castL a b l with|some l=>K l|none=>False
theorem asK_ok {a b : Ty} {l : List (El a)} {K : List (El b) → Prop} (h : asK a b l K) : ∃ e : a = b,K (e ▸ l):=by
 unfold asK at h
 cases hc : castL a b l with
 | none=>rw [hc] at h;exact h.elim
 | some l'=>rw [hc] at h;obtain ⟨e,rfl⟩:=castL_ok hc;exact ⟨e,h⟩
def srcK (m : Mem) (tt : Ty) (v : AV) (K : List (El tt) → List (Nat × Blk) → Prop) : Prop:=
 match v with
 | .vec t l=>asK t tt l fun l=>K l []
 | .own t k off n _=>memK m k fun b=>match b with
  | .row t' l=>match tyB t t' with
   | true=>asK t' tt l fun l'=>off + n ≤ l'.length ∧ K ((l'.drop off).take n) [(k,.row t' l)]
   | false=>False
  | .box _=>False
  | .mp _ _=>False
  | .pm _ _ _=>False
 | .lit (.slice none 0 _)=>K [] []
 | .emp _=>K [] []
 | _=>False
structure Yields2 (w : World) (g : G) (lim : Nat) (tt : Ty) (x : Value) (l : List (El tt)) (news : List Value) : Prop where
 rep : RepL w g lim (flat tt l) news.toArray
 one : ∀ u ∈ news,u.oneCell' = true
 at_ : (∃ ad cap,x = .slice (some ad) l.length cap ∧ ∀ (j : Nat) u,news[j]? = some u → w.cell? (ad.add j) = some u) ∨ (∃ cap,x = .slice none 0 cap ∧ l = [] ∧ news = [])
theorem Yields2.len {w : World} {g : G} {lim : Nat} {tt : Ty} {x : Value} {l : List (El tt)} {news : List Value} (h : Yields2 w g lim tt x l news) : news.length = l.length * csz tt:=by
 have:=h.rep.1;rw [flat_length] at this;simpa using this.symm
theorem Yields2.src {P : Program} {w : World} {g : G} {lim : Nat} {tt : Ty} {x : Value} {l : List (El tt)} {news : List Value} (h : Yields2 w g lim tt x l news) {tx e : TypeId} (hk : P.underlying tx = some (.slice e)) :
  Src P (csz tt) tx x l.length news w:=by
 rcases h.at_ with ⟨ad,cap,rfl,h1⟩|⟨cap,rfl,rfl,rfl⟩
 ·exact Src.ofSlice w hk ad _ _ _ h.len h1 h.one
 ·exact Src.ofNil w hk cap
theorem news_of {w : World} {g : G} {lim : Nat} {tt : Ty} (l : List (El tt)) (xs : Nat → Value) (hr : ∀ (i : Nat) c,(flat tt l)[i]? = some c → Rep w g lim c (xs i)) :
  ∃ news : List Value,RepL w g lim (flat tt l) news.toArray ∧ (∀ u ∈ news,u.oneCell' = true) ∧ (∀ (j : Nat) u,news[j]? = some u → u = xs j ∧ j < (flat tt l).length):=by
 refine ⟨(List.range (flat tt l).length).map xs,⟨by simp,fun i c x hc hx=>?_⟩,fun u hu=>?_,fun j u hu=>?_⟩
 ·have hlt:=(List.getElem?_eq_some_iff.1 hc).1
  simp [List.getElem?_range hlt] at hx
  subst hx;exact hr i c hc
 ·obtain ⟨i,hi,rfl⟩:=List.mem_map.1 hu
  have hlt:=List.mem_range.1 hi
  exact one_ok (hr i _ (List.getElem?_eq_getElem hlt)) (one_flat (List.getElem?_eq_getElem hlt))
 ·have hlt : j < (flat tt l).length:=by have:=(List.getElem?_eq_some_iff.1 hu).1;simpa using this
  simp [List.getElem?_range hlt] at hu
  exact ⟨hu.symm,hlt⟩
theorem srcK_ok {m : Mem} {tt : Ty} {v : AV} {K : List (El tt) → List (Nat × Blk) → Prop} (h : srcK m tt v K) : ∃ l rd,K l rd ∧ (∀ p ∈ rd,mget m p.1 = some p.2) ∧
  ∀ (m' : Nat → Option Blk) (w : World) (g : G) (lim : Nat) (x : Value),MSim w g lim m' → (∀ p ∈ rd,m' p.1 = some p.2) → Rep w g lim v x → ∃ news,Yields2 w g lim tt x l news:=by
 unfold srcK at h
 split at h
 ·rename_i t l
  obtain ⟨e,h⟩:=asK_ok h
  subst e
  refine ⟨_,_,h,by simp,fun m' w g lim x hm hrd hr=>?_⟩
  cases hr with
  | vecE _ ad cap =>
   refine ⟨[],⟨rfl,fun i c x hc=>by simp [flat] at hc⟩,by simp,?_⟩
   cases ad with
   | none=>exact .inr ⟨cap,rfl,rfl,rfl⟩
   | some ad=>exact .inl ⟨ad,cap,rfl,by simp⟩
  | vec _ _ b o cap xs hc hro hw hh =>
   obtain ⟨news,n1,n2,n3⟩:=news_of l xs hh
   refine ⟨news,n1,n2,.inl ⟨_,cap,rfl,fun j u hu=>?_⟩⟩
   obtain ⟨rfl,hlt⟩:=n3 j u hu
   rw [add_none]
   exact hw j _ (List.getElem?_eq_getElem hlt)
 ·rename_i t k off n cc
  obtain ⟨b,hb,h⟩:=memK_ok h
  cases b with
  | box cs=>exact h.elim
  | mp _ _=>exact h.elim
  | pm _ _ _=>exact h.elim
  | row t' l =>
   simp only at h
   cases ht : tyB t t' with
   | false=>rw [ht] at h;exact h.elim
   | true =>
   rw [ht] at h
   have e1:=tyB_ok ht
   subst e1
   obtain ⟨e,h⟩:=asK_ok h
   subst e
   obtain ⟨hlen,h⟩:=h
   refine ⟨_,_,h,by simp [hb],fun m' w g lim x hm hrd hr=>?_⟩
   have hmk : m' k = some (.row t l):=hrd (k,.row t l) (by simp)
   have hal : g.al k:=(hm.al k).2 (by simp [hmk])
   have hlen' : off + n ≤ l.length:=hlen
   by_cases hn0 : n = 0
   ·subst hn0
    refine ⟨[],⟨by simp [flat],fun i c x hc=>by simp [flat] at hc⟩,by simp,?_⟩
    cases hr with
    | own _ _ _ _ b cap _ hk hc hcc hh=>exact .inl ⟨⟨b,off * csz t,none⟩,cap,by simp,by simp⟩
    | ownE _ _ _ _ ad _ _ =>
     cases ad with
     | none=>exact .inr ⟨0,rfl,by simp,rfl⟩
     | some ad=>exact .inl ⟨ad,0,by simp,by simp⟩
   have hbr:=hm.blk k _ hmk
   obtain ⟨c,ty,b1,b2,b3,b4⟩:=hbr.getRow (Nat.lt_of_lt_of_le (Nat.mul_pos (by omega) (csz_pos t)) hbr.le)
   rw [flat_length] at b3
   have hmul : (off + n) * csz t ≤ l.length * csz t:=Nat.mul_le_mul_right _ hlen'
   rw [Nat.add_mul] at hmul
   have hflat : flat t ((l.drop off).take n) = ((flat t l).drop (off * csz t)).take (n * csz t):=by rw [flat_take,flat_drop]
   have hget : ∀ (i : Nat) a,(flat t ((l.drop off).take n))[i]? = some a → (flat t l)[off * csz t + i]? = some a ∧ i < n * csz t:=by
    intro i a hi
    rw [hflat] at hi
    rw [List.getElem?_take] at hi
    split at hi
    ·rename_i hlt;rw [List.getElem?_drop] at hi;exact ⟨hi,hlt⟩
    ·cases hi
   obtain ⟨news,n1,n2,n3⟩:=news_of (w:=w) (g:=g) (lim:=lim) ((l.drop off).take n) (fun i=>(c[off * csz t + i]?).getD undef) (fun i a hi=>by
    obtain ⟨h1,h2⟩:=hget i a hi
    have hlt : off * csz t + i < c.size:=by omega
    rw [Array.getElem?_eq_getElem hlt]
    exact b4 _ a _ h1 (Array.getElem?_eq_getElem hlt))
   cases hr with
   | own _ _ _ _ b cap _ hk hc hcc hh =>
    obtain ⟨rfl,_⟩:=hh hal
    refine ⟨news,n1,n2,.inl ⟨⟨g.be k,off * csz t,none⟩,cap,by simp;omega,fun j u hu=>?_⟩⟩
    obtain ⟨rfl,hlt⟩:=n3 j u hu
    have hj : j < n * csz t:=by have:=hflat ▸ hlt;simp at this;omega
    have hlt2 : off * csz t + j < c.size:=by omega
    rw [add_none,cell_of_row w _ _ c ty _ b1,Array.getElem?_eq_getElem hlt2]
    simp
   | ownE _ _ _ _ _ _ _=>exact absurd rfl hn0
 ·exact ⟨_,_,h,by simp,fun m' w g lim x hm hrd hr=>by rw [rep_lit hr];exact ⟨[],⟨rfl,fun i c x hc=>by simp [flat] at hc⟩,by simp,.inr ⟨_,rfl,rfl,rfl⟩⟩⟩
 ·refine ⟨_,_,h,by simp,fun m' w g lim x hm hrd hr=>?_⟩
  cases hr with
  | emp _ ad =>
   refine ⟨[],⟨rfl,fun i c x hc=>by simp [flat] at hc⟩,by simp,?_⟩
   cases ad with
   | none=>exact .inr ⟨0,rfl,rfl,rfl⟩
   | some ad=>exact .inl ⟨ad,0,rfl,by simp⟩
 ·exact h.elim
def G.ren (g : G) (k j : Nat) : G:=(g.kill k).bind j (g.be k) (g.sz k)
theorem RepL.ren {w : World} {g : G} {lim k j : Nat} {f : List AV} {xs : Array Value} (h : RepL w g lim f xs) (hm : menL j f = false) : RepL w (g.ren k j) lim f xs:=
 ⟨h.1,fun i c x hc hx=>Rep.mono' (g:=g) (g':=g.ren k j) ⟨fun b hr=>hr,fun _ _=>rfl,.id⟩ (Nat.le_refl _) (h.2 i c x hc hx) fun i2 hi2 _ ha=>by
  have hij : i2 ≠ j:=fun e=>by
   subst e
   rw [menL_get hc hi2] at hm;cases hm
  rcases ha with e|ha
  ·exact absurd e hij
  ·exact ⟨ha.2,by simp [G.ren,G.bind,G.kill,hij],by simp [G.ren,G.bind,G.kill,hij]⟩⟩
theorem MSim.ren {w : World} {g : G} {lim : Nat} {m : Nat → Option Blk} (h : MSim w g lim m) {k j : Nat} (hj : j < lim ∨ j % 2 = 1) {bl : Blk} (hk : m k = some bl) (hm : ∀ i b,m i = some b → menB j b = false) :
  MSim w (g.ren k j) lim (put (put m k none) j (some bl)):=by
 have hal : g.al k:=(h.al k).2 (by simp [hk])
 have hbe : ∀ i,i ≠ j → (g.ren k j).be i = g.be i ∧ (g.ren k j).sz i = g.sz i:=fun i hi=>⟨by simp [G.ren,G.bind,G.kill,hi],by simp [G.ren,G.bind,G.kill,hi]⟩
 have hbj : (g.ren k j).be j = g.be k ∧ (g.ren k j).sz j = g.sz k:=⟨by simp [G.ren,G.bind],by simp [G.ren,G.bind]⟩
 have halr : ∀ i,(g.ren k j).al i ↔ (i = j ∨ (i ≠ k ∧ g.al i)):=fun i=>Iff.rfl
 have hrep : ∀ (b : Blk) (n s : Nat),menB j b = false → BlkRep w g lim n s b → BlkRep w (g.ren k j) lim n s b:=fun b n s hb hr =>
  hr.mono' ⟨fun _ h=>h,fun _ _=>rfl,.id⟩ (Nat.le_refl _) (fun _=>rfl) fun i hi _ ha=>by
   have hij : i ≠ j:=fun e=>by subst e;rw [hb] at hi;cases hi
   rcases (halr i).1 ha with e|ha
   ·exact absurd e hij
   ·exact ⟨ha.2,hbe i hij⟩
 refine ⟨fun i=>?_,fun i hi=>?_,fun i hi hz hr=>?_,fun i i2 hi hi2 hz hz2 he=>?_,fun i b hb=>?_,h.rolt,fun b hb=>⟨(h.nof b hb).1,(h.nof b hb).2.1,fun i hi hz=>?_⟩,h.fj.step (fun _ _=>rfl) h.fj.nro fun b hb i hi hz=>?_⟩
 ·rw [halr]
  by_cases hij : j = i
  ·subst hij;simp [put]
  ·by_cases hik : k = i
   ·subst hik
    refine ⟨fun ha=>?_,fun ha=>?_⟩
    ·rcases ha with e|ha
     ·exact absurd e.symm hij
     ·exact absurd rfl ha.1
    ·simp [put,hij] at ha
   ·have h1 : put (put m k none) j (some bl) i = m i:=by simp [put,hij,hik]
    rw [h1,← h.al i]
    refine ⟨fun ha=>?_,fun ha=>.inr ⟨fun e=>hik e.symm,ha⟩⟩
    rcases ha with e|ha
    ·exact absurd e.symm hij
    ·exact ha.2
 ·rcases (halr i).1 hi with rfl|hi
  ·exact hj
  ·exact h.lt i hi.2
 ·by_cases hij : i = j
  ·subst hij;rw [hbj.1] at hr;rw [hbj.2] at hz;exact h.nro k hal hz hr
  ·rcases (halr i).1 hi with e|hi
   ·exact absurd e hij
   ·rw [(hbe i hij).1] at hr;rw [(hbe i hij).2] at hz;exact h.nro i hi.2 hz hr
 ·by_cases hij : i = j<;>by_cases hij2 : i2 = j
  ·exact hij.trans hij2.symm
  ·subst hij
   rcases (halr i2).1 hi2 with e|hi2
   ·exact absurd e hij2
   ·rw [hbj.1,(hbe i2 hij2).1] at he
    rw [hbj.2] at hz
    rw [(hbe i2 hij2).2] at hz2
    exact absurd (h.inj k i2 hal hi2.2 hz hz2 he).symm hi2.1
  ·subst hij2
   rcases (halr i).1 hi with e|hi
   ·exact absurd e hij
   ·rw [hbj.1,(hbe i hij).1] at he
    rw [hbj.2] at hz2
    rw [(hbe i hij).2] at hz
    exact absurd (h.inj i k hi.2 hal hz hz2 he) hi.1
  ·rcases (halr i).1 hi with e|hi
   ·exact absurd e hij
   rcases (halr i2).1 hi2 with e|hi2
   ·exact absurd e hij2
   rw [(hbe i hij).1,(hbe i2 hij2).1] at he
   rw [(hbe i hij).2] at hz
   rw [(hbe i2 hij2).2] at hz2
   exact h.inj i i2 hi.2 hi2.2 hz hz2 he
 ·unfold put at hb
  split at hb
  ·rename_i e;subst e;cases hb
   rw [hbj.1,hbj.2]
   exact hrep bl _ _ (hm k bl hk) (h.blk k bl hk)
  ·rename_i hij
   split at hb
   ·cases hb
   ·rw [(hbe i (fun e=>hij e.symm)).1,(hbe i (fun e=>hij e.symm)).2]
    exact hrep b _ _ (hm i b hb) (h.blk i b hb)
 ·by_cases hij : i = j
  ·subst hij;rw [hbj.1];rw [hbj.2] at hz;exact (h.nof b hb).2.2 k hal hz
  ·rcases (halr i).1 hi with e|hi
   ·exact absurd e hij
   ·rw [(hbe i hij).1];rw [(hbe i hij).2] at hz;exact (h.nof b hb).2.2 i hi.2 hz
 ·by_cases hij : i = j
  ·subst hij;rw [hbj.1];rw [hbj.2] at hz;exact h.fj.nal b hb k hal hz
  ·rcases (halr i).1 hi with e|hi
   ·exact absurd e hij
   ·rw [(hbe i hij).1];rw [(hbe i hij).2] at hz;exact h.fj.nal b hb i hi.2 hz
theorem LeG.kill (base : Nat) (g : G) (k : Nat) : LeG base g (g.kill k):=⟨fun _ h=>h,fun _ h=>h,fun _ _ ha=>⟨ha.2,rfl,rfl⟩⟩
theorem LeG.ren {base : Nat} {g : G} {k j : Nat} (hj : base ≤ j) : LeG base g (g.ren k j):=
 ⟨fun _ h=>h,fun _ h=>h,fun i hi ha=>by
  have hij : i ≠ j:=by omega
  rcases ha with e|ha
  ·exact absurd e hij
  ·exact ⟨ha.2,by simp [G.ren,G.bind,G.kill,hij],by simp [G.ren,G.bind,G.kill,hij]⟩⟩
end Eng
