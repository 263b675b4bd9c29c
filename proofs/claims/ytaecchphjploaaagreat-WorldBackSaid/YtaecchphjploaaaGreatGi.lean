/- Closures as results; contracts of view. -/
import Derived.Test.YtaecchphjploaaaGreatGg
import Derived.Test.YtaecchphjploaaaGreatGc
import Derived.Test.YtaecchphjploaaaGreatGe
set_option linter.unusedSimpArgs false
set_option linter.unusedVariables false
set_option maxRecDepth 100000
set_option maxHeartbeats 16000000
namespace Go.Proofs.YtaecchphjploaaaGreat
open Go Go.RowKit Eng
def nearB (a b r : Int) : Bool:=decide (max (a - b) (b - a) ≤ r)
def seesB (p : Player) (r x y : Int) : Bool:=nearB (p.x / 8) x r && nearB (p.y / 8) y r
def zeroP : Player:=⟨0,0,0,[],0,[],false⟩
def playerW (w : Wld) (id : Int) : Player × Bool:=
 if rightW w = false then (zeroP,false) else match getK pid w.players id with
   | some p=>(p,true)
   | none=>(zeroP,false)
open Go Go.RowKit Eng
structure Viw where
 tick : Int
 me : Player
 chunks : List Chunk
 others : List Seen
def zeroV : Viw:=⟨0,zeroP,[],[]⟩
def rowV (w : Wld) (p : Player) (r : Int) (y : Nat) (k : Nat) : List Chunk:=((List.range k).filter fun x=>seesB p r (x : Nat) (y : Nat)).map fun x=>(chunkW w (x : Nat) (y : Nat)).1
theorem rowV_succ (w : Wld) (p : Player) (r : Int) (y k : Nat) : rowV w p r y (k + 1) = rowV w p r y k ++ (if seesB p r (k : Nat) (y : Nat) = true then [(chunkW w (k : Nat) (y : Nat)).1] else []):=by
 unfold rowV
 rw [List.range_succ,List.filter_append,List.map_append]
 congr 1
 by_cases h : seesB p r (k : Nat) (y : Nat) = true<;>simp [List.filter,h]
def rowsV (w : Wld) (p : Player) (r : Int) (s : Nat) : Nat → List Chunk
 | 0=>[]
 | y + 1=>rowsV w p r s y ++ rowV w p r y s
def othB (p : Player) (r id : Int) (q : Player) : Bool:=!(decide (q.id = id)) && seesB p r (q.x / 8) (q.y / 8)
def seenP (q : Player) : Seen:=⟨q.id,q.x,q.y⟩
def othV (l : List Player) (p : Player) (r id : Int) (k : Nat) : List Seen:=((l.take k).filter (othB p r id)).map seenP
theorem othV_len (l : List Player) (p : Player) (r id : Int) (k : Nat) : (othV l p r id k).length ≤ l.length:=by
 unfold othV
 rw [List.length_map]
 exact Nat.le_trans (List.length_filter_le _ _) (List.length_take_le' _ _)
def ofW (w : Wld) (id r : Int) : Viw × Int:=
 if r < 0 ∨ 3 < r then (zeroV,2)
 else if rightW w = false then (zeroV,113)
 else if (playerW w id).2 = false then (zeroV,110)
 else (⟨w.tick,(playerW w id).1,rowsV w (playerW w id).1 r w.size.toNat w.size.toNat,othV w.players (playerW w id).1 r id w.players.length⟩,0)
theorem within_bd {w : Wld} (hR : RW w) {p : Player} (hp : p ∈ w.players) : 0 ≤ p.x ∧ p.x < 128 ∧ 0 ≤ p.y ∧ p.y < 128:=by
 have h1:=(within_iff hR).1 (hR.players p hp).2
 have h2:=hR.size
 omega
open Go Go.RowKit Eng
theorem nearB_iff {a b r : Int} : nearB a b r = true ↔ a - b ≤ r ∧ b - a ≤ r:=by
 unfold nearB;rw [decide_eq_true_eq];omega
def cntI (a r : Int) (k : Nat) : Nat:=((List.range k).filter fun x=>nearB a (x : Nat) r).length
theorem cnt_eq (a r : Int) (k : Nat) (h0 : 0 ≤ a) (hr : 0 ≤ r) : (cntI a r k : Int) = max 0 (min (a + r) (k - 1) - max (a - r) 0 + 1):=by
 induction k with
 | zero=>simp [cntI];omega
 | succ k ih =>
   have hc : cntI a r (k + 1) = cntI a r k + (if nearB a (k : Nat) r = true then 1 else 0):=by
     unfold cntI
     rw [List.range_succ,List.filter_append,List.length_append]
     congr 1
     by_cases h : nearB a (k : Nat) r = true<;>simp [List.filter,h]
   rw [hc]
   by_cases h : nearB a (k : Nat) r = true
   · rw [if_pos h];rw [nearB_iff] at h;omega
   · rw [if_neg h];rw [nearB_iff] at h;omega
theorem cnt_side {a r : Int} {S : Nat} (h0 : 0 ≤ a) (hr : 0 ≤ r) (hS : a < S) : (cntI a r S : Int) = min (a + r) (S - 1) - max (a - r) 0 + 1:=by
 rw [cnt_eq a r S h0 hr];omega
theorem rowV_cnt (w : Wld) (p : Player) (r : Int) (y k : Nat) : (rowV w p r y k).length = if nearB (p.y / 8) (y : Nat) r = true then cntI (p.x / 8) r k else 0:=by
 unfold rowV cntI
 rw [List.length_map]
 cases h : nearB (p.y / 8) (y : Nat) r with
 | true=>rw [if_pos rfl];congr 1;apply List.filter_congr;intro x _;unfold seesB;rw [h,Bool.and_true]
 | false =>
   rw [if_neg (by simp),List.length_eq_zero_iff,List.filter_eq_nil_iff]
   intro x _;unfold seesB;rw [h,Bool.and_false];simp
theorem rowsV_cnt (w : Wld) (p : Player) (r : Int) (s y : Nat) : (rowsV w p r s y).length = cntI (p.x / 8) r s * cntI (p.y / 8) r y:=by
 induction y with
 | zero=>simp [rowsV,cntI]
 | succ y ih =>
   have hc : cntI (p.y / 8) r (y + 1) = cntI (p.y / 8) r y + (if nearB (p.y / 8) (y : Nat) r = true then 1 else 0):=by
     unfold cntI
     rw [List.range_succ,List.filter_append,List.length_append]
     congr 1
     by_cases h : nearB (p.y / 8) (y : Nat) r = true<;>simp [List.filter,h]
   rw [rowsV,List.length_append,ih,rowV_cnt,hc,Nat.mul_add]
   split<;>simp
open Go Go.RowKit Eng
def seesW (w : Wld) (id r x y : Int) : Bool:=(playerW w id).2 && decide (0 ≤ r ∧ r ≤ 3 ∧ 0 ≤ x ∧ 0 ≤ y ∧ x < w.size ∧ y < w.size) && seesB (playerW w id).1 r x y
theorem player_right {w : Wld} {id : Int} (h : (playerW w id).2 = true) : RW w:=by
 cases hR : rightW w with
 | true=>exact rightW_iff.1 hR
 | false=>unfold playerW at h;rw [if_pos hR] at h;simp at h
theorem player_mem {w : Wld} {id : Int} (h : (playerW w id).2 = true) : (playerW w id).1 ∈ w.players ∧ (playerW w id).1.id = id:=by
 have hR:=rightW_iff.2 (player_right h)
 unfold playerW at h ⊢
 rw [if_neg (by rw [hR];simp)] at h ⊢
 split
 · rename_i p hg;exact getK_mem hg
 · rename_i hg;rw [hg] at h;simp at h
open Go Go.RowKit Eng
theorem ofW_ok {w : Wld} {id r : Int} (h : (ofW w id r).2 = 0) : 0 ≤ r ∧ r ≤ 3 ∧ RW w ∧ (playerW w id).2 = true ∧ ofW w id r = (⟨w.tick,(playerW w id).1,rowsV w (playerW w id).1 r w.size.toNat w.size.toNat,othV w.players (playerW w id).1 r id w.players.length⟩,0):=by
 unfold ofW at h ⊢
 by_cases h1 : r < 0 ∨ 3 < r
 · rw [if_pos h1] at h;simp at h
 · rw [if_neg h1] at h ⊢
   by_cases h2 : rightW w = false
   · rw [if_pos h2] at h;simp at h
   · rw [if_neg h2] at h ⊢
     rw [Bool.not_eq_false] at h2
     by_cases h3 : (playerW w id).2 = false
     · rw [if_pos h3] at h;simp at h
     · rw [if_neg h3];rw [Bool.not_eq_false] at h3;exact ⟨by omega,by omega,rightW_iff.1 h2,h3,rfl⟩
end Go.Proofs.YtaecchphjploaaaGreat
