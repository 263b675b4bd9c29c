/- ROWS, fifth part: append(s, make([]T, n)...) where there is no room. -/
import Derived.Test.YtdbnihckckekcaaRowD
set_option linter.unusedSimpArgs false
set_option linter.unusedVariables false
namespace Eng
open Go Go.RowKit

theorem run_append_grow_zeros {P : Program} (w : World) (t tx ty e : TypeId) (i : TypeInfo) (z : Value) (k' k : IntKind) (ht : P.underlying t = some (.slice e)) (htx : P.underlying tx = some (.int k')) (hi : P.info? e = some i) (hz : i.zero = some z) (hpos : 0 < i.size) (base : Option Addr) (sLen sCap : Nat) (olds : List Value)
    (hold : (Builtin.firstCells i.size sLen (.slice base sLen sCap)).run P w.drew = .ok olds.toArray w.drew) (n : Nat) (hn0 : 0 < n)
    (hg : sCap < sLen + n) (h63 : ((sLen + n : Nat) : Int) ≤ 9223372036854775807) (hby : n * i.bytes ≤ 281474976710656) (hfit : Builtin.nextslicecap (sLen + n) sCap * i.bytes ≤ 281474976710656) :
    (Builtin.append_ #[t, tx] ty #[.slice base sLen sCap, .int k n]).run P w =
      .ok (.slice (some ⟨w.heap.size, 0, none⟩) (sLen + n) (grownCap w (sLen + n) sCap e))
        (w.drew.alloc (.cells ((olds ++ (Builtin.zeroCells z.cells n).toList).toArray ++ Builtin.zeroCells z.cells (grownCap w (sLen + n) sCap e - (sLen + n))) e)) := by
  have hn : ¬ (sLen + n ≤ sCap) := by omega
  have h63' : ¬ (9223372036854775807 < ((sLen : Int) + (n : Int))) := by omega
  have h48' : ¬ (281474976710656 < Builtin.nextslicecap (sLen + n) sCap * i.bytes) := by omega
  have hw : IntKind.i64.wrap (n : Int) = n := IntWalk.i64_in _ (by omega)
  have hneg : ¬ ((n : Int) < 0) := by omega
  have hby' : ¬ ((281474976710656 : Int) < (n : Int) * (i.bytes : Int)) := by
    have : ((n * i.bytes : Nat) : Int) ≤ 281474976710656 := by omega
    rw [Int.natCast_mul] at this; omega
  have hns : ¬ (n * i.size = 0) := by
    intro h
    rcases Nat.mul_eq_zero.1 h with h | h <;> omega
  simp [Builtin.append_, run_underlying ht, run_underlying htx, Go.sizeOf, typeInfo, zeroValue, hi, hz, hn, h63', h48', Question.forced, hold, newRow, grownCap, hw, hneg, hby', hns, asInt, asIntOf, Nat.ne_of_gt hn0, Nat.ne_of_gt hpos]
  congr 2
  apply Array.ext'
  simp

/-- A new row, grown, whatever it is grown by. -/
theorem grow_ok2 {P : Program} {C : Cfg} (hC : CfgOk P C) {e : TypeId} {tt : Ty} (he : C.ty e = some tt) {t tx ty : TypeId} {w : World} {g : G} {lim : Nat} {f : List AV} {m : Nat → Option Blk} {a : Act}
    (hs : Sim w g lim f m a) {k : Nat} (hk : k < lim ∨ k % 2 = 1) {l1 l2 : List (El tt)} {news olds : List Value} {x y z : Value} (hz : z.cells.size = csz tt) (hnews : RepL w g lim (flat tt l2) news.toArray) (holds : RepL w g lim (flat tt l1) olds.toArray)
    {cap' : Nat} (hcap : l1.length + l2.length ≤ cap')
    (hrun : (Builtin.append_ #[t, tx] ty #[y, x]).run P w = .ok (.slice (some ⟨w.heap.size, 0, none⟩) (l1.length + l2.length) cap') (w.drew.alloc (.cells ((olds ++ news).toArray ++ Builtin.zeroCells z.cells (cap' - (l1.length + l2.length))) e))) (d : Option Nat) :
    ∃ w' r g', (Builtin.append_ #[t, tx] ty #[y, x]).run P w = .ok r w' ∧
      Sim w' g' lim (fput (fgtL k f) d (.own tt k 0 (l1.length + l2.length) none)) (put (fgtM k m) k (some (.row tt (l1 ++ l2)))) (a.put d r) ∧ Tr g w w' ∧ (∀ base, base ≤ k → LeG base g g') := by
  generalize hcells : (olds ++ news).toArray ++ Builtin.zeroCells z.cells (cap' - (l1.length + l2.length)) = cs at hrun
  have hl1 : olds.length = l1.length * csz tt := by have := holds.1; rw [flat_length] at this; simpa using this.symm
  have hl2 : news.length = l2.length * csz tt := by have := hnews.1; rw [flat_length] at this; simpa using this.symm
  have hcs : cs.size = cap' * csz tt := by
    rw [← hcells]
    simp only [Array.size_append, List.size_toArray, List.length_append, size_zeroCells, hz, hl1, hl2]
    rw [← Nat.add_mul, ← Nat.add_mul]; congr 1; omega
  have hs2 := hs.drew
  have htr := Tr.alloc g w.drew (.cells cs e) hs2.me.rolt (fun b hb => (hs2.me.nof b hb).1)
  have hrep2 := holds.append hnews
  rw [← flat_append] at hrep2
  have hbl : BlkRep (w.drew.alloc (.cells cs e)) (g.bind k w.drew.heap.size cs.size) lim w.drew.heap.size cs.size (.row tt (l1 ++ l2)) := by
    refine BlkRep.mkRow ⟨cs, e, heap_alloc_new w.drew _, rfl, ?_, fun j c x hc hx => ?_⟩
    · rw [flat_length, hcs, List.length_append]; exact Nat.mul_le_mul_right _ hcap
    · have hlt := (List.getElem?_eq_some_iff.1 hc).1
      have hlen : (flat tt (l1 ++ l2)).length = (olds ++ news).length := by simpa using hrep2.1
      rw [← hcells, Array.getElem?_append_left (by simp only [List.size_toArray]; omega)] at hx
      exact (hrep2.2 j c x hc hx).bind (men_flat hc k) htr.same
  refine ⟨_, _, g.bind k w.drew.heap.size cs.size, hrun, hs2.push hk cs e (.row tt (l1 ++ l2)) hbl ?_ d, ⟨htr.os, htr.tape, htr.output, htr.size, htr.same, htr.others⟩, fun base hb => LeG.bind base g hb _ _⟩
  have : (⟨w.heap.size, 0, none⟩ : Addr) = ⟨w.drew.heap.size, 0 * csz tt, none⟩ := by simp
  rw [this]
  exact .own tt k 0 _ _ _ none hk hcap (fun n h => by cases h) fun _ => ⟨by simp [G.bind], by simp [G.bind, hcs]⟩

/-- append(s, make([]T, n)...) where there is no room: the elder row stays. -/
def zerosK (P : Program) (C : Cfg) (base : Nat) (m : Mem) (dst : Option Nat) (ats : List TypeId) (a b : AV) (K : Act1 → Prop) : Prop :=
  match dst with
  | some d => match Nat.blt (2 * d + 2) 200000 with
    | true => match ats with
      | [t, _] => match P.underlying t with
        | some (.slice e) => match C.ty e with
          | some tt => match b with
            | .lit (.int _ n) => match a with
              | .own t1 k off len c => match c with
                | some c => match tyB t1 tt with
                  | true => memK m k fun bl => match bl with
                    | .row t' l => asK t' tt l fun l =>
                      (0 < n ∧ (c : Int) < len + n ∧ (len + n.toNat) * bsz tt ≤ 140737488355328 ∧ off + len ≤ l.length) ∧
                      odK base d fun e => K ⟨.own tt e 0 (len + n.toNat) none, [(k, .row tt l)], [(e, some (.row tt ((l.drop off).take len ++ List.replicate n.toNat (dflt tt))))], [e]⟩
                    | .box _ => False
                  | false => False
                | none => False
              | _ => False
            | _ => False
          | none => False
        | _ => False
      | _ => False
    | false => False
  | none => False

theorem zerosK_ok {P : Program} {C : Cfg} (hC : CfgOk P C) {base : Nat} {m : Mem} {f : List AV} {o : Oper} {x y : Operand} {ats : Array TypeId}
    (ho : o.op = .call { callee := .builtin .append, args := #[x, y], argTypes := ats }) (hint : ∃ tx k, ats[1]? = some tx ∧ P.underlying tx = some (.int k)) {K : Act1 → Prop} (h : zerosK P C base m o.dst ats.toList (aval f x) (aval f y) K) :
    ∃ c, K c ∧ (∀ p ∈ c.rd, mget m p.1 = some p.2) ∧ AOk P base o f c := by
  obtain ⟨tx, kx, hats1, htx⟩ := hint
  unfold zerosK at h
  split at h
  case h_2 => exact h.elim
  rename_i d hd
  cases hbl : Nat.blt (2 * d + 2) 200000 with
  | false => rw [hbl] at h; exact h.elim
  | true =>
  rw [hbl] at h
  simp only at h
  split at h
  case h_2 => exact h.elim
  rename_i t tx' hats
  have hats' : ats = #[t, tx'] := by rw [← Array.toArray_toList (xs := ats), hats]
  subst hats'
  simp at hats1
  subst hats1
  split at h
  case h_2 => exact h.elim
  rename_i e ht
  cases hce : C.ty e with
  | none => rw [hce] at h; exact h.elim
  | some tt =>
  rw [hce] at h
  simp only at h
  split at h
  case h_2 => exact h.elim
  rename_i kn n hy
  split at h
  case h_2 => exact h.elim
  rename_i t1 k off len c hax
  cases c with
  | none => exact h.elim
  | some c =>
  simp only at h
  cases htb : tyB t1 tt with
  | false => rw [htb] at h; exact h.elim
  | true =>
  rw [htb] at h
  have e1 := tyB_ok htb
  subst e1
  simp only at h
  obtain ⟨b, hb, h1⟩ := memK_ok h
  clear h
  cases b with
  | box cs => exact h1.elim
  | row t' l =>
  obtain ⟨e2, h2⟩ := asK_ok h1
  clear h1
  subst e2
  obtain ⟨⟨hn0, hnr, hfit, hlen⟩, hK⟩ := h2
  rw [odK_eq] at hK
  obtain ⟨i, z, hi, hsz, hby, hz, hzc⟩ := info_of hC hce
  have hzs : z.cells.size = csz t' := by have := congrArg List.length hzc; rw [zc_length] at this; simpa using this
  have hxm : x ∈ o.op.operands.toList := by rw [ho]; simp [Op.operands, Call.operands]
  have hym : y ∈ o.op.operands.toList := by rw [ho]; simp [Op.operands, Call.operands]
  have hkl : base + (2 * d + 1) < base + L ∨ (base + (2 * d + 1)) % 2 = 1 := .inl (idlt base d hbl).2
  have hcz := csz_pos t'
  have hb1 : 1 ≤ bsz t' := by cases t' <;> decide
  obtain ⟨N', rfl⟩ : ∃ N' : Nat, n = (N' : Int) := ⟨n.toNat, by omega⟩
  simp only [Int.toNat_natCast] at hfit hK
  refine ⟨_, hK, by simp [hb], fun f' m' hop hrd w g a hs N Q hN => ?_⟩
  have hmk : m' k = some (.row t' l) := hrd (k, .row t' l) (by simp)
  have hal : g.al k := (hs.me.al k).2 (by simp [hmk])
  have hry := hop y hym _ _ _ _ (rep_aval hs y)
  rw [hy] at hry
  have hyv := rep_lit hry
  have hrx := hop x hxm _ _ _ _ (rep_aval hs x)
  rw [hax] at hrx
  have hself : srcK [(k, .row t' l)] t' (.own t' k off len (some c)) (fun l' rd => l' = (l.drop off).take len ∧ rd = [(k, .row t' l)]) := by
    simp only [srcK, memK, Nat.beq_refl]
    have h1 : tyB t' t' = true := by simp [tyB, Nat.beq_refl]
    rw [h1]
    have h2 : castL t' t' l = some l := by cases t' <;> rfl
    simp only [asK, h2]
    refine ⟨hlen, ?_⟩
    simp
  obtain ⟨l', rd', ⟨rfl, rfl⟩, _, hself⟩ := srcK_ok hself
  obtain ⟨olds, ho2⟩ := hself m' w g (base + L) (a.eval x) hs.me (by simpa using hmk) hrx
  have hl1 : ((l.drop off).take len).length = len := by rw [List.length_take, List.length_drop]; have hlen' : off + len ≤ l.length := hlen; omega
  have hxv : ∃ bs, a.eval x = .slice bs len c := by
    generalize hE : a.eval x = E at hrx
    cases hrx with
    | own _ _ _ _ b cap _ hk hc hcc hh => obtain rfl := hcc c rfl; exact ⟨_, rfl⟩
    | ownE _ _ _ _ ad hk hcc => obtain rfl := hcc c rfl; exact ⟨ad, rfl⟩
  obtain ⟨bs, hE⟩ := hxv
  have hon := ho2.len
  rw [hl1] at hon
  have hold : (Builtin.firstCells (csz t') len (.slice bs len c)).run P w.drew = .ok olds.toArray w.drew := by
    rcases ho2.at_ with ⟨ad, cp, e1, h1⟩ | ⟨cp, e1, e2, e3⟩
    · rw [hE, hl1] at e1
      cases e1
      exact run_firstCells_some w.drew _ _ ad _ c _ hon fun j v hj => h1 j v hj
    · rw [hE] at e1
      cases e1
      rw [e3]; simp [Builtin.firstCells]
  have hmul : (len + N') * 1 ≤ (len + N') * bsz t' := Nat.mul_le_mul_left _ hb1
  have hmul2 : N' * bsz t' ≤ (len + N') * bsz t' := Nat.mul_le_mul_right _ (Nat.le_add_left _ _)
  have hg : c < len + N' := by omega
  have hrun := run_append_grow_zeros (P := P) w t tx' o.type e i z kx kn ht htx hi hz (by omega) bs len c olds (by rw [hsz]; exact hold) N' (by omega) hg (by omega) (by rw [hby]; omega) (by rw [hby]; exact growslice_fits hg hfit)
  have hcap := grownCap_ge w (len + N') c e
  have hzm : (Builtin.zeroCells z.cells N').toList = (madeCells z.cells (N' * csz t')).toList := by unfold Builtin.zeroCells madeCells; rw [hzs]
  have hrepz : RepL w g (base + L) (flat t' (List.replicate N' (dflt t'))) (Builtin.zeroCells z.cells N').toList.toArray := by rw [hzm]; simpa using madeCells_ok hzc N' w g (base + L)
  obtain ⟨w', r, g', r1, r2, r3, r4⟩ := grow_ok2 (P := P) hC hce (t := t) (tx := tx') (ty := o.type) hs hkl (l1 := (l.drop off).take len) (l2 := List.replicate N' (dflt t')) hzs hrepz ho2.rep
    (by rw [hl1, List.length_replicate]; exact hcap) (by rw [hl1, List.length_replicate]; exact hrun) o.dst
  rw [hl1, List.length_replicate] at r2
  unfold Oper.wp
  rw [exec_append ho (by rw [hE, hyv]; exact r1), Oper.upon_value]
  exact hN w' g' _ r2 r3 (r4 base (Nat.le_add_right _ _))

end Eng
