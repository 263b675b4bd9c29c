/- ROWS, sixth part: the head of an array variable as a slice that nobody writes any more. -/
import Derived.Test.YtdbnihckckekcaaRowE
import Derived.Laws.BytesArg
set_option linter.unusedSimpArgs false
set_option linter.unusedVariables false
namespace Eng
open Go Go.RowKit

/-- Bytes among cells. -/
def u8sK : List AV → (List Int → Prop) → Prop
  | [], K => K []
  | c :: r, K => match c with
    | .lit (.int .u8 n) => u8sK r fun l => K (n :: l)
    | _ => False
theorem u8sK_ok : ∀ {cs : List AV} {K : List Int → Prop}, u8sK cs K → ∃ l, K l ∧ cs = flat .u8 l
  | [], K, h => ⟨[], h, rfl⟩
  | c :: r, K, h => by
    unfold u8sK at h
    split at h
    · rename_i n
      obtain ⟨l, hK, e⟩ := u8sK_ok h
      exact ⟨n :: l, hK, by rw [e]; rfl⟩
    · exact h.elim

/-- arr[:b]. -/
def arrK (P : Program) (m : Mem) (t : TypeId) (v : AV) (f : List AV) (lo hi mx : Option Operand) (K : Act1 → Prop) : Prop :=
  match P.underlying t with
  | some (.array n e) => match szOf P e with
    | some 1 => match lo with
      | none => match mx with
        | none => match hi with
          | some hx => avalK f hx fun b => match b with
            | .lit (.int _ b) => match v with
              | .ptr k 0 => memK m k fun bl => match bl with
                | .box cs => u8sK cs fun l => (0 ≤ b ∧ b ≤ n ∧ n = l.length) ∧ K ⟨.vec .u8 (l.take b.toNat), [(k, .box cs)], [(k, none)], []⟩
                | .row _ _ => False
              | _ => False
            | _ => False
          | none => False
        | some _ => False
      | some _ => False
    | _ => False
  | _ => False

theorem arrK_ok {P : Program} {base : Nat} {m : Mem} {f : List AV} {o : Oper} {t : TypeId} {x : Operand} {lo hi mx : Option Operand} (ho : o.op = .slice t x lo hi mx) {K : Act1 → Prop} (h : arrK P m t (aval f x) f lo hi mx K) :
    ∃ c, K c ∧ (∀ p ∈ c.rd, mget m p.1 = some p.2) ∧ AOk P base o f c := by
  unfold arrK at h
  split at h
  case h_2 => exact h.elim
  rename_i n e hu
  split at h
  case h_2 => exact h.elim
  rename_i hz
  cases lo with
  | some _ => exact h.elim
  | none =>
  cases mx with
  | some _ => exact h.elim
  | none =>
  cases hi with
  | none => exact h.elim
  | some hx =>
  simp only [avalK_eq] at h
  split at h
  case h_2 => exact h.elim
  rename_i kb b hb
  split at h
  case h_2 => exact h.elim
  rename_i k hv
  obtain ⟨bl, hbl, h1⟩ := memK_ok h
  clear h
  cases bl with
  | row _ _ => exact h1.elim
  | box cs =>
  simp only at h1
  obtain ⟨l, ⟨⟨h0, hbn, hnl⟩, hK⟩, hcs⟩ := u8sK_ok h1
  clear h1
  refine ⟨_, hK, by simp [hbl], fun f' m' hop hrd w g a hs N Q hN => ?_⟩
  have hmk : m' k = some (.box cs) := hrd (k, .box cs) (by simp)
  have hal : g.al k := (hs.me.al k).2 (by simp [hmk])
  have hrx := hop x (by rw [ho]; simp [Op.operands]) _ _ _ _ (rep_aval hs x)
  have hrb := hop hx (by rw [ho]; simp [Op.operands]) _ _ _ _ (rep_aval hs hx)
  rw [hv] at hrx
  rw [hb] at hrb
  have ex := rep_ptr hrx hal
  have eb := rep_lit hrb
  obtain ⟨z0, c, ty, b1, b2, b3, b4⟩ := hs.me.blk k _ hmk
  have hlen : cs.length = l.length := by rw [hcs, flat_length]; simp [csz]
  have hrun : (Instr.sliceAt t (a.eval x) none (some (a.eval hx)) none).run P w = .ok (.slice (some ⟨g.be k, 0, none⟩) b.toNat n) w := by
    rw [ex, eb]
    simp [Instr.sliceAt, run_underlying hu, Instr.sliceBounds, Instr.sureAddr, Eng.run_sizeOf hz, run_sliceBound w kb b n .sliceAlen h0 hbn, add_none]
  have hs1 : Sim w (g.freeze k) (base + L) f' (put m' k none) a := ⟨hs.fr.freeze k, hs.df, hs.me.freeze hal⟩
  have hvec : Rep w (g.freeze k) (base + L) (.vec .u8 (l.take b.toNat)) (.slice (some ⟨g.be k, 0, none⟩) b.toNat n) := by
    have hl : (l.take b.toNat).length = b.toNat := by rw [List.length_take]; omega
    have hget : ∀ (i : Nat) q, (flat .u8 (l.take b.toNat))[i]? = some q → cs[i]? = some q ∧ i < c.size := by
      intro i q hi
      rw [flat_take, List.getElem?_take] at hi
      split at hi
      · rw [hcs]; exact ⟨hi, by have := (List.getElem?_eq_some_iff.1 hi).1; rw [← hcs] at this; omega⟩
      · cases hi
    have := Rep.vec (w := w) (g := g.freeze k) (lim := base + L) .u8 (l.take b.toNat) (g.be k) 0 n (fun i => (c[i]?).getD undef) (by rw [hl]; omega) (.inr ⟨z0, rfl⟩)
      (fun i q hi => by
        have hlt := (hget i q hi).2
        rw [Nat.zero_add, cell_of_row w _ i c ty _ b1, Array.getElem?_eq_getElem hlt]; simp)
      (fun i q hi => by
        obtain ⟨h1, hlt⟩ := hget i q hi
        simp only [Array.getElem?_eq_getElem hlt, Option.getD_some]
        exact (b4 i q _ h1 (Array.getElem?_eq_getElem hlt)).freeze k)
    rwa [hl] at this
  unfold Oper.wp
  have hex : (execOp a.eval o).run P w = .ok (.value (.slice (some ⟨g.be k, 0, none⟩) b.toNat n)) w := by
    unfold execOp; rw [ho]; simp [hrun]
  rw [hex, Oper.upon_value]
  exact hN w (g.freeze k) _ (hs1.put hvec o.dst) ⟨rfl, rfl, rfl, Nat.le_refl _, fun _ _ => rfl, fun _ _ => rfl⟩ (LeG.freeze base g k)


/-- string(b). -/
def toStrK (P : Program) (m : Mem) (src dst : TypeId) (v : AV) (K : Act1 → Prop) : Prop :=
  match P.underlying src with
  | some (.slice e) => match P.underlying e with
    | some (.int .u8) => match P.underlying dst with
      | some .string => srcK m .u8 v fun l rd => K ⟨.lit (.string (strOfNums l)), rd, [], []⟩
      | _ => False
    | _ => False
  | _ => False
theorem flat_u8 (l : List Int) : flat .u8 l = l.map fun n => .lit (.int .u8 n) := by
  induction l with
  | nil => rfl
  | cons a r ih => simp only [List.map_cons, ← ih]; rfl

theorem toStrK_ok {P : Program} {base : Nat} {m : Mem} {f : List AV} {o : Oper} {src dst : TypeId} {x : Operand} (ho : o.op = .convert src dst x) {K : Act1 → Prop} (h : toStrK P m src dst (aval f x) K) :
    ∃ c, K c ∧ (∀ p ∈ c.rd, mget m p.1 = some p.2) ∧ AOk P base o f c := by
  unfold toStrK at h
  split at h
  case h_2 => exact h.elim
  rename_i e hs
  split at h
  case h_2 => exact h.elim
  rename_i he
  split at h
  case h_2 => exact h.elim
  rename_i hd
  obtain ⟨l, rd, hK, hrd, hy⟩ := srcK_ok h
  refine ⟨_, hK, hrd, AOk.val fun f' m' w g a hs2 hop hrd2 => ?_⟩
  obtain ⟨news, hn⟩ := hy m' w g (base + L) (a.eval x) hs2.me hrd2 (hop x (by rw [ho]; simp [Op.operands]))
  have hnews : news = l.map (Value.int .u8) := by
    have h1 := hn.rep
    rw [flat_u8] at h1
    apply List.ext_getElem?
    intro i
    by_cases hi : i < l.length
    · have hlen : news.length = l.length := by have := h1.1; simpa using this.symm
      have := h1.2 i (.lit (.int .u8 l[i])) (news[i]'(by omega)) (by simp [hi]) (by simp [show i < news.length by omega])
      have := rep_lit this
      simp [show i < news.length by omega, hi, this]
    · have hlen : news.length = l.length := by have := h1.1; simpa using this.symm
      rw [List.getElem?_eq_none (by omega), List.getElem?_eq_none (by simp; omega)]
  have hrun : (convert src dst (a.eval x)).run P w = .ok (.string (strOfNums l)) w := by
    rcases hn.at_ with ⟨ad, cap, e1, h1⟩ | ⟨cap, e1, e2, e3⟩
    · have hl : (loadCells ad l.length).run P w = .ok (l.map (Value.int .u8)).toArray w := by
        have := run_loadCells_list (P := P) w ad (l.map (Value.int .u8)) (fun j v hj => h1 j v (by rw [hnews]; exact hj))
        simpa using this
      rw [e1, run_convert_bytes_string w src dst e _ l.length cap hs he hd, run_bytesToString w _ l.length cap l hl, foldl_push_bytes]
      simp [strOfNums, ByteArray.empty, ByteArray.emptyWithCapacity]
      rfl
    · rw [e1, e2, run_convert_bytes_nil w src e hs he 0 cap dst hd]
      rfl
  refine ⟨_, ?_, .lit _⟩
  unfold execOp; rw [ho]; simp [hrun]

def isStrK (P : Program) (src dst : TypeId) : Bool := match P.underlying src with
  | some (.slice _) => match P.underlying dst with
    | some .string => true
    | _ => false
  | _ => false

end Eng
