/- bytes.Uint, world.Bytes of a new world; homesteadlaw13.WorldFirst. -/
import Derived.Test.YtelgmmcnopjolaaGd
import Derived.Test.YtelgmmcnopjolaaGi
import Derived.Test.YtelgmmcnopjolaaGg
/- slices.Delete, slices.Insert of boxes. -/
set_option linter.unusedSimpArgs false
set_option linter.unusedVariables false
namespace Go.Proofs.Ytelgmmcnopjolaa
open Go Go.RowKit Eng

theorem ins_room (l : List (El .box)) (i : Nat) (b : El .box) (hi : i < l.length) : (upon (l.take (i + 1) ++ l.drop i) i [b]).take (l.length + 1) = l.take i ++ b :: l.drop i := by
  unfold upon
  have h1 : (l.take (i + 1) ++ l.drop i).take i = l.take i := by
    rw [List.take_append_of_le_length (by simp; omega), List.take_take, Nat.min_eq_left (by omega)]
  have h2 : (l.take (i + 1) ++ l.drop i).drop (i + ([b] : List (El .box)).length) = l.drop i := List.drop_left' (by simp; omega)
  rw [h1, h2]
  exact List.take_of_length_le (by simp; omega)
theorem ins_len1 (l : List (El .box)) (i : Nat) (hi : i < l.length) : i ≤ (l.take (i + 1) ++ l.drop i).length := by simp; omega
theorem ins_len2 (l : List (El .box)) (i : Nat) (b : El .box) (hi : i < l.length) : l.length + 1 ≤ (upon (l.take (i + 1) ++ l.drop i) i [b]).length := by simp [upon]; omega

end Go.Proofs.Ytelgmmcnopjolaa

/- chunk.Set. -/
set_option linter.unusedSimpArgs false
set_option linter.unusedVariables false
namespace Go.Proofs.Ytelgmmcnopjolaa
open Go Go.RowKit Eng

/-- A right chunk's boxes stand at its chests, one by one. -/
theorem rightGo_rises : ∀ (l : List Int) (k : Nat) (bs : List Box), rightGo l k bs = some [] → rises bs ∧ (∀ b ∈ bs, (k : Int) ≤ b.cell ∧ b.cell < k + l.length)
  | [], k, bs, h => by simp [rightGo] at h; subst h; exact ⟨trivial, by simp⟩
  | i :: r, k, bs, h => by
    simp only [rightGo] at h
    split at h
    · split at h
      · cases bs with
        | nil => cases h
        | cons b bs =>
          simp only at h
          split at h
          · rename_i hb
            obtain ⟨h1, h2⟩ := rightGo_rises r (k + 1) bs h
            have hbk : b.cell = k := by simp only [boxAt, Bool.and_eq_true, beq_iff_eq] at hb; exact hb.1
            refine ⟨⟨fun x hx => by have := (h2 x hx).1; omega, h1⟩, fun x hx => ?_⟩
            rcases List.mem_cons.1 hx with rfl | hx
            · simp only [List.length_cons]; omega
            · have := h2 x hx; simp only [List.length_cons]; omega
          · cases h
      · obtain ⟨h1, h2⟩ := rightGo_rises r (k + 1) bs h
        exact ⟨h1, fun x hx => by have := h2 x hx; simp only [List.length_cons]; omega⟩
    · cases h

structure RightC (c : Chunk) : Prop where
  head : headB c = true
  go : rightGo c.cells 0 c.boxes = some []
  heaps : c.heaps.any badHeap = false
theorem rightC_of {c : Chunk} (h : rightB c = true) : RightC c := by
  unfold rightB at h
  simp only [Bool.and_eq_true] at h
  obtain ⟨h1, h2⟩ := h
  split at h2
  · rename_i hg; exact ⟨h1, hg, by simpa using h2⟩
  · cases h2
theorem RightC.len {c : Chunk} (h : RightC c) : c.cells.length = 64 := by
  have := h.head; simp only [headB, Bool.and_eq_true, decide_eq_true_eq] at this; omega
theorem RightC.rises {c : Chunk} (h : RightC c) : rises c.boxes := (rightGo_rises _ _ _ h.go).1

theorem thereB_lt {l : List Box} {t : Int} (h : thereB l t = true) : lb t l < l.length ∧ (elt .box l (lb t l)).cell = t := by
  simp only [thereB, Bool.and_eq_true, decide_eq_true_eq, beq_iff_eq] at h; exact h

def posSlot (s : Slot) : Bool := decide (0 < s.n)
def anySlot (_ : Slot) : Prop := True
def newBag : List Slot := List.replicate 6 ⟨0, 0⟩
def fullB (l : List Slot) : Bool := l.any posSlot
def delB (l : List Box) (t : Int) : List Box := if thereB l t then l.take (lb t l) ++ l.drop (lb t l + 1) else l
def putB (l : List Box) (t : Int) (i : Int) : List Box := if i = 9 then (delB l t).take (lb t l) ++ (⟨t, newBag⟩ : Box) :: (delB l t).drop (lb t l) else delB l t
def setC (c : Chunk) (cell i : Int) : Chunk × Int :=
  if rightB c = false then (c, 101) else if ¬ (0 ≤ cell ∧ cell < 64) then (c, 102) else if ¬ (i = 0) ∧ blockB i = false then (c, 100)
  else if thereB c.boxes cell = true ∧ fullB (elt .box c.boxes (lb cell c.boxes)).bag = true then (c, 104)
  else ({ c with cells := c.cells.set cell.toNat i, boxes := putB c.boxes cell i }, 0)

theorem headB_of {c : Chunk} (h : rightB c = true) : c.cells.length = 64 := (rightC_of h).len

end Go.Proofs.Ytelgmmcnopjolaa

/- chunk.Box, chunk.Fill, chunk.Drop. -/
set_option linter.unusedSimpArgs false
set_option linter.unusedVariables false
namespace Go.Proofs.Ytelgmmcnopjolaa
open Go Go.RowKit Eng

def boxC (c : Chunk) (cell : Int) : List Slot × Bool :=
  if rightB c = false then ([], false) else if thereB c.boxes cell = true then ((elt .box c.boxes (lb cell c.boxes)).bag, true) else ([], false)

def fillC (c : Chunk) (cell : Int) (l : List Slot) : Chunk × Int :=
  if rightB c = false then (c, 101) else if thereB c.boxes cell = false then (c, 102)
  else if ¬ (l.length = 6 ∧ bagOk l = true) then (c, 103)
  else ({ c with boxes := c.boxes.set (lb cell c.boxes) ⟨cell, l⟩ }, 0)

def dropC (c : Chunk) (cell : Int) (s : Slot) : Chunk × Int :=
  if rightB c = false then (c, 101) else if ¬ (0 ≤ cell ∧ cell < 64) then (c, 102) else if someB s = false then (c, 111)
  else if 32 ≤ c.heaps.length then (c, 104) else ({ c with heaps := c.heaps ++ [⟨cell, s⟩] }, 0)

end Go.Proofs.Ytelgmmcnopjolaa

/- bytes.Uint; bytes.Equal. -/
set_option linter.unusedSimpArgs false
set_option linter.unusedVariables false
namespace Go.Proofs.Ytelgmmcnopjolaa
open Go Go.RowKit Eng

/-- A number's bytes, seven bits each. -/
def uintF : Nat → Nat → List Int
  | 0, n => [(n : Int)]
  | f + 1, n => if n < 128 then [(n : Int)] else ((n % 128 + 128 : Nat) : Int) :: uintF f (n / 128)
def uintL (n : Nat) : List Int := uintF 9 n

theorem uintF_len (f n : Nat) : (uintF f n).length ≤ f + 1 := by
  induction f generalizing n with
  | zero => simp [uintF]
  | succ f ih => simp only [uintF]; split <;> simp; have := ih (n / 128); omega

def eqL (a b : List Int) : Bool := decide (a = b)
def okU8 (l : List Int) : Prop := ∀ i ∈ l, 0 ≤ i ∧ i ≤ 255

theorem byte_inj {a b : Int} (ha : 0 ≤ a ∧ a ≤ 255) (hb : 0 ≤ b ∧ b ≤ 255) (h : UInt8.ofNat a.toNat = UInt8.ofNat b.toNat) : a = b := by
  have := congrArg UInt8.toNat h
  simp only [UInt8.toNat_ofNat'] at this
  omega
theorem bytes_inj : ∀ {a b : List Int}, okU8 a → okU8 b → (a.map fun n => UInt8.ofNat n.toNat) = (b.map fun n => UInt8.ofNat n.toNat) → a = b
  | [], [], _, _, _ => rfl
  | [], _ :: _, _, _, h => by simp at h
  | _ :: _, [], _, _, h => by simp at h
  | x :: a, y :: b, ha, hb, h => by
    simp only [List.map_cons, List.cons.injEq] at h
    rw [byte_inj (ha x (by simp)) (hb y (by simp)) h.1, bytes_inj (fun i hi => ha i (by simp [hi])) (fun i hi => hb i (by simp [hi])) h.2]
theorem bytes_loop (bs : ByteArray) : ∀ (k i : Nat) (r : List UInt8), i + k = bs.size → ByteArray.toList.loop bs i r = r.reverse ++ bs.data.toList.drop i := by
  have hs : bs.size = bs.data.toList.length := by rw [Array.length_toList]; rfl
  intro k
  induction k with
  | zero =>
    intro i r h
    unfold ByteArray.toList.loop
    rw [if_neg (by omega), List.drop_of_length_le (by omega), List.append_nil]
  | succ k ih =>
    intro i r h
    unfold ByteArray.toList.loop
    rw [if_pos (by omega), ih (i + 1) _ (by omega)]
    have hlt : i < bs.data.toList.length := by omega
    have hg : bs.get! i = bs.data.toList[i] := by
      show bs.data[i]! = _
      rw [getElem!_pos bs.data i (by rw [← Array.length_toList]; exact hlt)]; simp
    rw [List.drop_eq_getElem_cons hlt, hg]
    simp only [List.reverse_cons, List.append_assoc, List.singleton_append]
theorem bytes_toList (bs : ByteArray) : bs.toList = bs.data.toList := by
  unfold ByteArray.toList
  rw [bytes_loop bs bs.size 0 [] (by omega)]; simp

theorem strOf_eq {a b : List Int} (ha : okU8 a) (hb : okU8 b) : ((strOfNums a).toList == (strOfNums b).toList) = eqL a b := by
  unfold eqL
  rw [Bool.eq_iff_iff, beq_iff_eq, decide_eq_true_eq]
  constructor
  · intro h
    have h2 : (strOfNums a).data.toList = (strOfNums b).data.toList := by
      rw [← bytes_toList, ← bytes_toList, h]
    exact bytes_inj ha hb h2
  · rintro rfl; rfl

set_option maxRecDepth 100000 in
set_option maxHeartbeats 4000000 in
theorem equal_api (a b : List (El .u8)) (ha : okU8 a) (hb : okU8 b) : Api Try.prog 36 [.vec .u8 a, .vec .u8 b] (bol (eqL a b)) := by
  refine Api.of_fin cfg_ok Try.func36 rfl (nt := 8) rfl rfl ?_
  conv => whnf
  repeat' (first
    | exact trivial
    | ((first | refine i64L ?_ | refine u64L ?_ | refine u8L ?_); (conv => whnf))
    | ((refine ⟨fun hb => ?_, fun hb => ?_⟩) <;> (try simp only [nrm] at hb) <;> (first | (exfalso; omega) | contradiction | exact (tfF hb (by assumption)).elim | exact (ftF hb (by assumption)).elim | (conv => whnf)))
    | ((first | refine Draws.of cfg_ok (by kernel_rfl) ?_ | refine ⟨(by kernel_rfl : confB _ _ _ _ _ = true), ?_⟩ | refine bd1 ?_ | refine bd2 ?_ | refine bdR ?_ | refine bdL ?_ | refine ⟨rfl, ?_⟩ | refine ⟨congrArg (Value.int _) (by omega), ?_⟩); (conv => whnf))
    | (refine And.intro ?_ ?_; rotate_left; (conv => whnf); rotate_right))
  rw [strOf_eq ha hb]

def padA : List Int → Nat → List AV
  | _, 0 => []
  | [], n + 1 => u8 0 :: padA [] n
  | a :: r, n + 1 => u8 a :: padA r n

set_option maxRecDepth 100000 in
set_option maxHeartbeats 4000000 in
theorem uint_ev (l : List (El .u8)) (n : Nat) (hn : n < 18446744073709551616) (hl : l.length + 10 ≤ 140737488355328) : Ev1 Try.prog 73 [.own .u8 1 0 l.length none, .lit (.int .u64 n)] [(1, .row .u8 l)] (.own .u8 390001 0 (l.length + (uintL n).length) none) [(390001, .row .u8 (l ++ uintL n))] := by
  refine Ev1.of_fin cfg_ok Try.func73 rfl (nt := 26) rfl rfl rfl ?_
  conv => whnf
  refine Runs.loopS cfg_ok (σ := List Int × Nat) [0, 1, 5, 6] (fun (bs, r) => [.own .u8 1 0 l.length none, .lit (.int .u64 r), .ptr 200010 0, i64 bs.length]) (fun (bs, _) => [(1, .row .u8 l), (200010, .box (padA bs 10))])
    (fun (bs, r) => bs.length ≤ 9 ∧ bs ++ uintF (9 - bs.length) r = uintL n ∧ r < 2 ^ (64 - 7 * bs.length)) (fun (bs, _) => 10 - bs.length) ([], n) ⟨by simp, rfl, by simpa using hn⟩ ?_ ?_
  · conv => whnf
    repeat' (first
      | exact trivial
      | ((first | refine i64L ?_ | refine u64L ?_ | refine u8L ?_); (conv => whnf))
      | ((refine ⟨fun hb => ?_, fun hb => ?_⟩) <;> (try simp only [nrm] at hb) <;> (first | (exfalso; omega) | contradiction | exact (tfF hb (by assumption)).elim | exact (ftF hb (by assumption)).elim | (conv => whnf)))
      | ((first | refine Draws.of cfg_ok (by kernel_rfl) ?_ | refine ⟨(by kernel_rfl : confB _ _ _ _ _ = true), ?_⟩ | refine bd1 ?_ | refine bd2 ?_ | refine bdR ?_ | refine bdL ?_ | refine ⟨rfl, ?_⟩ | refine ⟨congrArg (Value.int _) (by omega), ?_⟩); (conv => whnf))
      | (refine And.intro ?_ ?_; rotate_left; (conv => whnf); rotate_right))
    all_goals simp
  · rintro ⟨bs, r⟩ ⟨h1, h2, h3⟩
    match bs, h1 with
    | [], _ =>
      replace h3 : r < 18446744073709551616 := h3
      have ek : uintF (9 - 0) r = if r < 128 then [(r : Int)] else ((r % 128 + 128 : Nat) : Int) :: uintF 8 (r / 128) := rfl
      have hn1 : r < 128 → uintL n = [] ++ [(r : Int)] := fun hr => by rw [← h2]; show _ ++ uintF (9 - 0) r = _; rw [ek, if_pos hr]
      have hn2 : ¬ r < 128 → [((r % 128 + 128 : Nat) : Int)] ++ uintF 8 (r / 128) = uintL n := fun hr => by rw [← h2]; show _ = _ ++ uintF (9 - 0) r; rw [ek, if_neg hr]; rfl
      conv => whnf
      repeat' (first
        | exact trivial
        | ((first | refine i64L ?_ | refine u64L ?_ | refine u8L ?_); (conv => whnf))
        | ((refine ⟨fun hb => ?_, fun hb => ?_⟩) <;> (try simp only [nrm] at hb) <;> (first | (exfalso; omega) | contradiction | exact (tfF hb (by assumption)).elim | exact (ftF hb (by assumption)).elim | (conv => whnf)))
        | ((first | refine Draws.of cfg_ok (by kernel_rfl) ?_ | refine ⟨(by kernel_rfl : confB _ _ _ _ _ = true), ?_⟩ | refine bd1 ?_ | refine bd2 ?_ | refine bdR ?_ | refine bdL ?_ | refine ⟨rfl, ?_⟩ | refine ⟨congrArg (Value.int _) (by omega), ?_⟩); (conv => whnf))
        | (refine And.intro ?_ ?_; rotate_left; (conv => whnf); rotate_right))
      · refine .to ([((r % 128 + 128 : Nat) : Int)], r / 128) ⟨by simp, hn2 (by omega), by show r / 128 < 144115188075855872; omega⟩ (by simp) ?_
        conv => whnf
        repeat' (first
          | exact trivial
          | ((first | refine i64L ?_ | refine u64L ?_ | refine u8L ?_); (conv => whnf))
          | ((refine ⟨fun hb => ?_, fun hb => ?_⟩) <;> (try simp only [nrm] at hb) <;> (first | (exfalso; omega) | contradiction | exact (tfF hb (by assumption)).elim | exact (ftF hb (by assumption)).elim | (conv => whnf)))
          | ((first | refine Draws.of cfg_ok (by kernel_rfl) ?_ | refine ⟨(by kernel_rfl : confB _ _ _ _ _ = true), ?_⟩ | refine bd1 ?_ | refine bd2 ?_ | refine bdR ?_ | refine bdL ?_ | refine ⟨rfl, ?_⟩ | refine ⟨congrArg (Value.int _) (by omega), ?_⟩); (conv => whnf))
          | (refine And.intro ?_ ?_; rotate_left; (conv => whnf); rotate_right))
        all_goals exact List.take_length
      all_goals (try rw [hn1 (by omega)])
      · rfl
      · rfl
      · rw [List.take_length]; exact List.take_of_length_le (by rw [List.length_append]; exact Nat.le_refl _)
    | [a], _ =>
      replace h3 : r < 144115188075855872 := h3
      have ek : uintF (9 - 1) r = if r < 128 then [(r : Int)] else ((r % 128 + 128 : Nat) : Int) :: uintF 7 (r / 128) := rfl
      have hn1 : r < 128 → uintL n = [a] ++ [(r : Int)] := fun hr => by rw [← h2]; show _ ++ uintF (9 - 1) r = _; rw [ek, if_pos hr]
      have hn2 : ¬ r < 128 → [a, ((r % 128 + 128 : Nat) : Int)] ++ uintF 7 (r / 128) = uintL n := fun hr => by rw [← h2]; show _ = _ ++ uintF (9 - 1) r; rw [ek, if_neg hr]; rfl
      conv => whnf
      repeat' (first
        | exact trivial
        | ((first | refine i64L ?_ | refine u64L ?_ | refine u8L ?_); (conv => whnf))
        | ((refine ⟨fun hb => ?_, fun hb => ?_⟩) <;> (try simp only [nrm] at hb) <;> (first | (exfalso; omega) | contradiction | exact (tfF hb (by assumption)).elim | exact (ftF hb (by assumption)).elim | (conv => whnf)))
        | ((first | refine Draws.of cfg_ok (by kernel_rfl) ?_ | refine ⟨(by kernel_rfl : confB _ _ _ _ _ = true), ?_⟩ | refine bd1 ?_ | refine bd2 ?_ | refine bdR ?_ | refine bdL ?_ | refine ⟨rfl, ?_⟩ | refine ⟨congrArg (Value.int _) (by omega), ?_⟩); (conv => whnf))
        | (refine And.intro ?_ ?_; rotate_left; (conv => whnf); rotate_right))
      · refine .to ([a, ((r % 128 + 128 : Nat) : Int)], r / 128) ⟨by simp, hn2 (by omega), by show r / 128 < 1125899906842624; omega⟩ (by simp) ?_
        conv => whnf
        repeat' (first
          | exact trivial
          | ((first | refine i64L ?_ | refine u64L ?_ | refine u8L ?_); (conv => whnf))
          | ((refine ⟨fun hb => ?_, fun hb => ?_⟩) <;> (try simp only [nrm] at hb) <;> (first | (exfalso; omega) | contradiction | exact (tfF hb (by assumption)).elim | exact (ftF hb (by assumption)).elim | (conv => whnf)))
          | ((first | refine Draws.of cfg_ok (by kernel_rfl) ?_ | refine ⟨(by kernel_rfl : confB _ _ _ _ _ = true), ?_⟩ | refine bd1 ?_ | refine bd2 ?_ | refine bdR ?_ | refine bdL ?_ | refine ⟨rfl, ?_⟩ | refine ⟨congrArg (Value.int _) (by omega), ?_⟩); (conv => whnf))
          | (refine And.intro ?_ ?_; rotate_left; (conv => whnf); rotate_right))
        all_goals exact List.take_length
      all_goals (try rw [hn1 (by omega)])
      · rfl
      · rfl
      · rw [List.take_length]; exact List.take_of_length_le (by rw [List.length_append]; exact Nat.le_refl _)
    | [a, b], _ =>
      replace h3 : r < 1125899906842624 := h3
      have ek : uintF (9 - 2) r = if r < 128 then [(r : Int)] else ((r % 128 + 128 : Nat) : Int) :: uintF 6 (r / 128) := rfl
      have hn1 : r < 128 → uintL n = [a, b] ++ [(r : Int)] := fun hr => by rw [← h2]; show _ ++ uintF (9 - 2) r = _; rw [ek, if_pos hr]
      have hn2 : ¬ r < 128 → [a, b, ((r % 128 + 128 : Nat) : Int)] ++ uintF 6 (r / 128) = uintL n := fun hr => by rw [← h2]; show _ = _ ++ uintF (9 - 2) r; rw [ek, if_neg hr]; rfl
      conv => whnf
      repeat' (first
        | exact trivial
        | ((first | refine i64L ?_ | refine u64L ?_ | refine u8L ?_); (conv => whnf))
        | ((refine ⟨fun hb => ?_, fun hb => ?_⟩) <;> (try simp only [nrm] at hb) <;> (first | (exfalso; omega) | contradiction | exact (tfF hb (by assumption)).elim | exact (ftF hb (by assumption)).elim | (conv => whnf)))
        | ((first | refine Draws.of cfg_ok (by kernel_rfl) ?_ | refine ⟨(by kernel_rfl : confB _ _ _ _ _ = true), ?_⟩ | refine bd1 ?_ | refine bd2 ?_ | refine bdR ?_ | refine bdL ?_ | refine ⟨rfl, ?_⟩ | refine ⟨congrArg (Value.int _) (by omega), ?_⟩); (conv => whnf))
        | (refine And.intro ?_ ?_; rotate_left; (conv => whnf); rotate_right))
      · refine .to ([a, b, ((r % 128 + 128 : Nat) : Int)], r / 128) ⟨by simp, hn2 (by omega), by show r / 128 < 8796093022208; omega⟩ (by simp) ?_
        conv => whnf
        repeat' (first
          | exact trivial
          | ((first | refine i64L ?_ | refine u64L ?_ | refine u8L ?_); (conv => whnf))
          | ((refine ⟨fun hb => ?_, fun hb => ?_⟩) <;> (try simp only [nrm] at hb) <;> (first | (exfalso; omega) | contradiction | exact (tfF hb (by assumption)).elim | exact (ftF hb (by assumption)).elim | (conv => whnf)))
          | ((first | refine Draws.of cfg_ok (by kernel_rfl) ?_ | refine ⟨(by kernel_rfl : confB _ _ _ _ _ = true), ?_⟩ | refine bd1 ?_ | refine bd2 ?_ | refine bdR ?_ | refine bdL ?_ | refine ⟨rfl, ?_⟩ | refine ⟨congrArg (Value.int _) (by omega), ?_⟩); (conv => whnf))
          | (refine And.intro ?_ ?_; rotate_left; (conv => whnf); rotate_right))
        all_goals exact List.take_length
      all_goals (try rw [hn1 (by omega)])
      · rfl
      · rfl
      · rw [List.take_length]; exact List.take_of_length_le (by rw [List.length_append]; exact Nat.le_refl _)
    | [a, b, c], _ =>
      replace h3 : r < 8796093022208 := h3
      have ek : uintF (9 - 3) r = if r < 128 then [(r : Int)] else ((r % 128 + 128 : Nat) : Int) :: uintF 5 (r / 128) := rfl
      have hn1 : r < 128 → uintL n = [a, b, c] ++ [(r : Int)] := fun hr => by rw [← h2]; show _ ++ uintF (9 - 3) r = _; rw [ek, if_pos hr]
      have hn2 : ¬ r < 128 → [a, b, c, ((r % 128 + 128 : Nat) : Int)] ++ uintF 5 (r / 128) = uintL n := fun hr => by rw [← h2]; show _ = _ ++ uintF (9 - 3) r; rw [ek, if_neg hr]; rfl
      conv => whnf
      repeat' (first
        | exact trivial
        | ((first | refine i64L ?_ | refine u64L ?_ | refine u8L ?_); (conv => whnf))
        | ((refine ⟨fun hb => ?_, fun hb => ?_⟩) <;> (try simp only [nrm] at hb) <;> (first | (exfalso; omega) | contradiction | exact (tfF hb (by assumption)).elim | exact (ftF hb (by assumption)).elim | (conv => whnf)))
        | ((first | refine Draws.of cfg_ok (by kernel_rfl) ?_ | refine ⟨(by kernel_rfl : confB _ _ _ _ _ = true), ?_⟩ | refine bd1 ?_ | refine bd2 ?_ | refine bdR ?_ | refine bdL ?_ | refine ⟨rfl, ?_⟩ | refine ⟨congrArg (Value.int _) (by omega), ?_⟩); (conv => whnf))
        | (refine And.intro ?_ ?_; rotate_left; (conv => whnf); rotate_right))
      · refine .to ([a, b, c, ((r % 128 + 128 : Nat) : Int)], r / 128) ⟨by simp, hn2 (by omega), by show r / 128 < 68719476736; omega⟩ (by simp) ?_
        conv => whnf
        repeat' (first
          | exact trivial
          | ((first | refine i64L ?_ | refine u64L ?_ | refine u8L ?_); (conv => whnf))
          | ((refine ⟨fun hb => ?_, fun hb => ?_⟩) <;> (try simp only [nrm] at hb) <;> (first | (exfalso; omega) | contradiction | exact (tfF hb (by assumption)).elim | exact (ftF hb (by assumption)).elim | (conv => whnf)))
          | ((first | refine Draws.of cfg_ok (by kernel_rfl) ?_ | refine ⟨(by kernel_rfl : confB _ _ _ _ _ = true), ?_⟩ | refine bd1 ?_ | refine bd2 ?_ | refine bdR ?_ | refine bdL ?_ | refine ⟨rfl, ?_⟩ | refine ⟨congrArg (Value.int _) (by omega), ?_⟩); (conv => whnf))
          | (refine And.intro ?_ ?_; rotate_left; (conv => whnf); rotate_right))
        all_goals exact List.take_length
      all_goals (try rw [hn1 (by omega)])
      · rfl
      · rfl
      · rw [List.take_length]; exact List.take_of_length_le (by rw [List.length_append]; exact Nat.le_refl _)
    | [a, b, c, d], _ =>
      replace h3 : r < 68719476736 := h3
      have ek : uintF (9 - 4) r = if r < 128 then [(r : Int)] else ((r % 128 + 128 : Nat) : Int) :: uintF 4 (r / 128) := rfl
      have hn1 : r < 128 → uintL n = [a, b, c, d] ++ [(r : Int)] := fun hr => by rw [← h2]; show _ ++ uintF (9 - 4) r = _; rw [ek, if_pos hr]
      have hn2 : ¬ r < 128 → [a, b, c, d, ((r % 128 + 128 : Nat) : Int)] ++ uintF 4 (r / 128) = uintL n := fun hr => by rw [← h2]; show _ = _ ++ uintF (9 - 4) r; rw [ek, if_neg hr]; rfl
      conv => whnf
      repeat' (first
        | exact trivial
        | ((first | refine i64L ?_ | refine u64L ?_ | refine u8L ?_); (conv => whnf))
        | ((refine ⟨fun hb => ?_, fun hb => ?_⟩) <;> (try simp only [nrm] at hb) <;> (first | (exfalso; omega) | contradiction | exact (tfF hb (by assumption)).elim | exact (ftF hb (by assumption)).elim | (conv => whnf)))
        | ((first | refine Draws.of cfg_ok (by kernel_rfl) ?_ | refine ⟨(by kernel_rfl : confB _ _ _ _ _ = true), ?_⟩ | refine bd1 ?_ | refine bd2 ?_ | refine bdR ?_ | refine bdL ?_ | refine ⟨rfl, ?_⟩ | refine ⟨congrArg (Value.int _) (by omega), ?_⟩); (conv => whnf))
        | (refine And.intro ?_ ?_; rotate_left; (conv => whnf); rotate_right))
      · refine .to ([a, b, c, d, ((r % 128 + 128 : Nat) : Int)], r / 128) ⟨by simp, hn2 (by omega), by show r / 128 < 536870912; omega⟩ (by simp) ?_
        conv => whnf
        repeat' (first
          | exact trivial
          | ((first | refine i64L ?_ | refine u64L ?_ | refine u8L ?_); (conv => whnf))
          | ((refine ⟨fun hb => ?_, fun hb => ?_⟩) <;> (try simp only [nrm] at hb) <;> (first | (exfalso; omega) | contradiction | exact (tfF hb (by assumption)).elim | exact (ftF hb (by assumption)).elim | (conv => whnf)))
          | ((first | refine Draws.of cfg_ok (by kernel_rfl) ?_ | refine ⟨(by kernel_rfl : confB _ _ _ _ _ = true), ?_⟩ | refine bd1 ?_ | refine bd2 ?_ | refine bdR ?_ | refine bdL ?_ | refine ⟨rfl, ?_⟩ | refine ⟨congrArg (Value.int _) (by omega), ?_⟩); (conv => whnf))
          | (refine And.intro ?_ ?_; rotate_left; (conv => whnf); rotate_right))
        all_goals exact List.take_length
      all_goals (try rw [hn1 (by omega)])
      · rfl
      · rfl
      · rw [List.take_length]; exact List.take_of_length_le (by rw [List.length_append]; exact Nat.le_refl _)
    | [a, b, c, d, e], _ =>
      replace h3 : r < 536870912 := h3
      have ek : uintF (9 - 5) r = if r < 128 then [(r : Int)] else ((r % 128 + 128 : Nat) : Int) :: uintF 3 (r / 128) := rfl
      have hn1 : r < 128 → uintL n = [a, b, c, d, e] ++ [(r : Int)] := fun hr => by rw [← h2]; show _ ++ uintF (9 - 5) r = _; rw [ek, if_pos hr]
      have hn2 : ¬ r < 128 → [a, b, c, d, e, ((r % 128 + 128 : Nat) : Int)] ++ uintF 3 (r / 128) = uintL n := fun hr => by rw [← h2]; show _ = _ ++ uintF (9 - 5) r; rw [ek, if_neg hr]; rfl
      conv => whnf
      repeat' (first
        | exact trivial
        | ((first | refine i64L ?_ | refine u64L ?_ | refine u8L ?_); (conv => whnf))
        | ((refine ⟨fun hb => ?_, fun hb => ?_⟩) <;> (try simp only [nrm] at hb) <;> (first | (exfalso; omega) | contradiction | exact (tfF hb (by assumption)).elim | exact (ftF hb (by assumption)).elim | (conv => whnf)))
        | ((first | refine Draws.of cfg_ok (by kernel_rfl) ?_ | refine ⟨(by kernel_rfl : confB _ _ _ _ _ = true), ?_⟩ | refine bd1 ?_ | refine bd2 ?_ | refine bdR ?_ | refine bdL ?_ | refine ⟨rfl, ?_⟩ | refine ⟨congrArg (Value.int _) (by omega), ?_⟩); (conv => whnf))
        | (refine And.intro ?_ ?_; rotate_left; (conv => whnf); rotate_right))
      · refine .to ([a, b, c, d, e, ((r % 128 + 128 : Nat) : Int)], r / 128) ⟨by simp, hn2 (by omega), by show r / 128 < 4194304; omega⟩ (by simp) ?_
        conv => whnf
        repeat' (first
          | exact trivial
          | ((first | refine i64L ?_ | refine u64L ?_ | refine u8L ?_); (conv => whnf))
          | ((refine ⟨fun hb => ?_, fun hb => ?_⟩) <;> (try simp only [nrm] at hb) <;> (first | (exfalso; omega) | contradiction | exact (tfF hb (by assumption)).elim | exact (ftF hb (by assumption)).elim | (conv => whnf)))
          | ((first | refine Draws.of cfg_ok (by kernel_rfl) ?_ | refine ⟨(by kernel_rfl : confB _ _ _ _ _ = true), ?_⟩ | refine bd1 ?_ | refine bd2 ?_ | refine bdR ?_ | refine bdL ?_ | refine ⟨rfl, ?_⟩ | refine ⟨congrArg (Value.int _) (by omega), ?_⟩); (conv => whnf))
          | (refine And.intro ?_ ?_; rotate_left; (conv => whnf); rotate_right))
        all_goals exact List.take_length
      all_goals (try rw [hn1 (by omega)])
      · rfl
      · rfl
      · rw [List.take_length]; exact List.take_of_length_le (by rw [List.length_append]; exact Nat.le_refl _)
    | [a, b, c, d, e, f], _ =>
      replace h3 : r < 4194304 := h3
      have ek : uintF (9 - 6) r = if r < 128 then [(r : Int)] else ((r % 128 + 128 : Nat) : Int) :: uintF 2 (r / 128) := rfl
      have hn1 : r < 128 → uintL n = [a, b, c, d, e, f] ++ [(r : Int)] := fun hr => by rw [← h2]; show _ ++ uintF (9 - 6) r = _; rw [ek, if_pos hr]
      have hn2 : ¬ r < 128 → [a, b, c, d, e, f, ((r % 128 + 128 : Nat) : Int)] ++ uintF 2 (r / 128) = uintL n := fun hr => by rw [← h2]; show _ = _ ++ uintF (9 - 6) r; rw [ek, if_neg hr]; rfl
      conv => whnf
      repeat' (first
        | exact trivial
        | ((first | refine i64L ?_ | refine u64L ?_ | refine u8L ?_); (conv => whnf))
        | ((refine ⟨fun hb => ?_, fun hb => ?_⟩) <;> (try simp only [nrm] at hb) <;> (first | (exfalso; omega) | contradiction | exact (tfF hb (by assumption)).elim | exact (ftF hb (by assumption)).elim | (conv => whnf)))
        | ((first | refine Draws.of cfg_ok (by kernel_rfl) ?_ | refine ⟨(by kernel_rfl : confB _ _ _ _ _ = true), ?_⟩ | refine bd1 ?_ | refine bd2 ?_ | refine bdR ?_ | refine bdL ?_ | refine ⟨rfl, ?_⟩ | refine ⟨congrArg (Value.int _) (by omega), ?_⟩); (conv => whnf))
        | (refine And.intro ?_ ?_; rotate_left; (conv => whnf); rotate_right))
      · refine .to ([a, b, c, d, e, f, ((r % 128 + 128 : Nat) : Int)], r / 128) ⟨by simp, hn2 (by omega), by show r / 128 < 32768; omega⟩ (by simp) ?_
        conv => whnf
        repeat' (first
          | exact trivial
          | ((first | refine i64L ?_ | refine u64L ?_ | refine u8L ?_); (conv => whnf))
          | ((refine ⟨fun hb => ?_, fun hb => ?_⟩) <;> (try simp only [nrm] at hb) <;> (first | (exfalso; omega) | contradiction | exact (tfF hb (by assumption)).elim | exact (ftF hb (by assumption)).elim | (conv => whnf)))
          | ((first | refine Draws.of cfg_ok (by kernel_rfl) ?_ | refine ⟨(by kernel_rfl : confB _ _ _ _ _ = true), ?_⟩ | refine bd1 ?_ | refine bd2 ?_ | refine bdR ?_ | refine bdL ?_ | refine ⟨rfl, ?_⟩ | refine ⟨congrArg (Value.int _) (by omega), ?_⟩); (conv => whnf))
          | (refine And.intro ?_ ?_; rotate_left; (conv => whnf); rotate_right))
        all_goals exact List.take_length
      all_goals (try rw [hn1 (by omega)])
      · rfl
      · rfl
      · rw [List.take_length]; exact List.take_of_length_le (by rw [List.length_append]; exact Nat.le_refl _)
    | [a, b, c, d, e, f, g], _ =>
      replace h3 : r < 32768 := h3
      have ek : uintF (9 - 7) r = if r < 128 then [(r : Int)] else ((r % 128 + 128 : Nat) : Int) :: uintF 1 (r / 128) := rfl
      have hn1 : r < 128 → uintL n = [a, b, c, d, e, f, g] ++ [(r : Int)] := fun hr => by rw [← h2]; show _ ++ uintF (9 - 7) r = _; rw [ek, if_pos hr]
      have hn2 : ¬ r < 128 → [a, b, c, d, e, f, g, ((r % 128 + 128 : Nat) : Int)] ++ uintF 1 (r / 128) = uintL n := fun hr => by rw [← h2]; show _ = _ ++ uintF (9 - 7) r; rw [ek, if_neg hr]; rfl
      conv => whnf
      repeat' (first
        | exact trivial
        | ((first | refine i64L ?_ | refine u64L ?_ | refine u8L ?_); (conv => whnf))
        | ((refine ⟨fun hb => ?_, fun hb => ?_⟩) <;> (try simp only [nrm] at hb) <;> (first | (exfalso; omega) | contradiction | exact (tfF hb (by assumption)).elim | exact (ftF hb (by assumption)).elim | (conv => whnf)))
        | ((first | refine Draws.of cfg_ok (by kernel_rfl) ?_ | refine ⟨(by kernel_rfl : confB _ _ _ _ _ = true), ?_⟩ | refine bd1 ?_ | refine bd2 ?_ | refine bdR ?_ | refine bdL ?_ | refine ⟨rfl, ?_⟩ | refine ⟨congrArg (Value.int _) (by omega), ?_⟩); (conv => whnf))
        | (refine And.intro ?_ ?_; rotate_left; (conv => whnf); rotate_right))
      · refine .to ([a, b, c, d, e, f, g, ((r % 128 + 128 : Nat) : Int)], r / 128) ⟨by simp, hn2 (by omega), by show r / 128 < 256; omega⟩ (by simp) ?_
        conv => whnf
        repeat' (first
          | exact trivial
          | ((first | refine i64L ?_ | refine u64L ?_ | refine u8L ?_); (conv => whnf))
          | ((refine ⟨fun hb => ?_, fun hb => ?_⟩) <;> (try simp only [nrm] at hb) <;> (first | (exfalso; omega) | contradiction | exact (tfF hb (by assumption)).elim | exact (ftF hb (by assumption)).elim | (conv => whnf)))
          | ((first | refine Draws.of cfg_ok (by kernel_rfl) ?_ | refine ⟨(by kernel_rfl : confB _ _ _ _ _ = true), ?_⟩ | refine bd1 ?_ | refine bd2 ?_ | refine bdR ?_ | refine bdL ?_ | refine ⟨rfl, ?_⟩ | refine ⟨congrArg (Value.int _) (by omega), ?_⟩); (conv => whnf))
          | (refine And.intro ?_ ?_; rotate_left; (conv => whnf); rotate_right))
        all_goals exact List.take_length
      all_goals (try rw [hn1 (by omega)])
      · rfl
      · rfl
      · rw [List.take_length]; exact List.take_of_length_le (by rw [List.length_append]; exact Nat.le_refl _)
    | [a, b, c, d, e, f, g, h], _ =>
      replace h3 : r < 256 := h3
      have ek : uintF (9 - 8) r = if r < 128 then [(r : Int)] else ((r % 128 + 128 : Nat) : Int) :: uintF 0 (r / 128) := rfl
      have hn1 : r < 128 → uintL n = [a, b, c, d, e, f, g, h] ++ [(r : Int)] := fun hr => by rw [← h2]; show _ ++ uintF (9 - 8) r = _; rw [ek, if_pos hr]
      have hn2 : ¬ r < 128 → [a, b, c, d, e, f, g, h, ((r % 128 + 128 : Nat) : Int)] ++ uintF 0 (r / 128) = uintL n := fun hr => by rw [← h2]; show _ = _ ++ uintF (9 - 8) r; rw [ek, if_neg hr]; rfl
      conv => whnf
      repeat' (first
        | exact trivial
        | ((first | refine i64L ?_ | refine u64L ?_ | refine u8L ?_); (conv => whnf))
        | ((refine ⟨fun hb => ?_, fun hb => ?_⟩) <;> (try simp only [nrm] at hb) <;> (first | (exfalso; omega) | contradiction | exact (tfF hb (by assumption)).elim | exact (ftF hb (by assumption)).elim | (conv => whnf)))
        | ((first | refine Draws.of cfg_ok (by kernel_rfl) ?_ | refine ⟨(by kernel_rfl : confB _ _ _ _ _ = true), ?_⟩ | refine bd1 ?_ | refine bd2 ?_ | refine bdR ?_ | refine bdL ?_ | refine ⟨rfl, ?_⟩ | refine ⟨congrArg (Value.int _) (by omega), ?_⟩); (conv => whnf))
        | (refine And.intro ?_ ?_; rotate_left; (conv => whnf); rotate_right))
      · refine .to ([a, b, c, d, e, f, g, h, ((r % 128 + 128 : Nat) : Int)], r / 128) ⟨by simp, hn2 (by omega), by show r / 128 < 2; omega⟩ (by simp) ?_
        conv => whnf
        repeat' (first
          | exact trivial
          | ((first | refine i64L ?_ | refine u64L ?_ | refine u8L ?_); (conv => whnf))
          | ((refine ⟨fun hb => ?_, fun hb => ?_⟩) <;> (try simp only [nrm] at hb) <;> (first | (exfalso; omega) | contradiction | exact (tfF hb (by assumption)).elim | exact (ftF hb (by assumption)).elim | (conv => whnf)))
          | ((first | refine Draws.of cfg_ok (by kernel_rfl) ?_ | refine ⟨(by kernel_rfl : confB _ _ _ _ _ = true), ?_⟩ | refine bd1 ?_ | refine bd2 ?_ | refine bdR ?_ | refine bdL ?_ | refine ⟨rfl, ?_⟩ | refine ⟨congrArg (Value.int _) (by omega), ?_⟩); (conv => whnf))
          | (refine And.intro ?_ ?_; rotate_left; (conv => whnf); rotate_right))
        all_goals exact List.take_length
      all_goals (try rw [hn1 (by omega)])
      · rfl
      · rfl
      · rw [List.take_length]; exact List.take_of_length_le (by rw [List.length_append]; exact Nat.le_refl _)
    | [a, b, c, d, e, f, g, h, i], _ =>
      replace h3 : r < 2 := h3
      have hn1 : r < 128 → uintL n = [a, b, c, d, e, f, g, h, i] ++ [(r : Int)] := fun _ => h2.symm
      conv => whnf
      repeat' (first
        | exact trivial
        | ((first | refine i64L ?_ | refine u64L ?_ | refine u8L ?_); (conv => whnf))
        | ((refine ⟨fun hb => ?_, fun hb => ?_⟩) <;> (try simp only [nrm] at hb) <;> (first | (exfalso; omega) | contradiction | exact (tfF hb (by assumption)).elim | exact (ftF hb (by assumption)).elim | (conv => whnf)))
        | ((first | refine Draws.of cfg_ok (by kernel_rfl) ?_ | refine ⟨(by kernel_rfl : confB _ _ _ _ _ = true), ?_⟩ | refine bd1 ?_ | refine bd2 ?_ | refine bdR ?_ | refine bdL ?_ | refine ⟨rfl, ?_⟩ | refine ⟨congrArg (Value.int _) (by omega), ?_⟩); (conv => whnf))
        | (refine And.intro ?_ ?_; rotate_left; (conv => whnf); rotate_right))
      all_goals (try rw [hn1 (by omega)])
      · rfl
      · rfl
      · rw [List.take_length]; exact List.take_of_length_le (by rw [List.length_append]; exact Nat.le_refl _)

end Go.Proofs.Ytelgmmcnopjolaa

/- chunk.Bytes. -/
set_option linter.unusedSimpArgs false
set_option linter.unusedVariables false
namespace Go.Proofs.Ytelgmmcnopjolaa
open Go Go.RowKit Eng

theorem uint_evz (l : List (El .u8)) (len : Nat) (z : Int) (hlen : len = l.length) (h0 : 0 ≤ z) (hz : z < 9223372036854775808) (hl : l.length + 10 ≤ 140737488355328) : Ev1 Try.prog 73 [.own .u8 1 0 len none, .lit (.int .u64 z)] [(1, .row .u8 l)] (.own .u8 390001 0 (len + (uintL z.toNat).length) none) [(390001, .row .u8 (l ++ uintL z.toNat))] := by
  obtain ⟨n, rfl⟩ : ∃ n : Nat, z = (n : Int) := ⟨z.toNat, by omega⟩
  subst hlen
  exact uint_ev l n (by omega) hl

def okN (z : Int) : Prop := 0 ≤ z ∧ z < 9223372036854775808
theorem okN.le {z : Int} (h : okN z) : z ≤ 18446744073709551615 := by have := h.2; omega

def putY (ns : List Int) : List Int := ns.flatMap fun z => uintL z.toNat
theorem putY_len (ns : List Int) : (putY ns).length ≤ ns.length * 10 := by
  induction ns with
  | nil => simp [putY]
  | cons a r ih => simp only [putY, List.flatMap_cons, List.length_append, List.length_cons] at *; have := uintF_len 9 a.toNat; unfold uintL at *; omega
theorem putY_take {ns : List Int} {k : Nat} (h : k < ns.length) : putY (ns.take (k + 1)) = putY (ns.take k) ++ uintL (elt .i64 ns k).toNat := by
  have := elt_get .i64 ns k h
  rw [List.take_add_one, this]
  simp [putY]

set_option maxRecDepth 100000 in
set_option maxHeartbeats 4000000 in
theorem put_ev (l : List (El .u8)) (len : Nat) (ns : List (El .i64)) (n : Nat) (hn : n = ns.length) (hlen : len = l.length) (hns : ∀ z ∈ ns, okN z) (hl : l.length + ns.length * 10 + 10 ≤ 140737488355328) :
    Ev1 Try.prog 113 [.own .i64 3 0 n (some n), .ptr 0 0] [(0, .box [.own .u8 1 0 len none]), (1, .row .u8 l), (3, .row .i64 ns)] (.tup []) [(0, .box [.own .u8 390001 0 (len + (putY ns).length) none]), (390001, .row .u8 (l ++ putY ns))] := by
  subst hn
  subst hlen
  refine Ev1.of_fin cfg_ok Try.func113 rfl (nt := 14) rfl rfl rfl ?_
  conv => whnf
  refine Runs.loopS cfg_ok (σ := Nat) [1, 5, 6, 7] (fun k => [.ptr 0 0, .own .i64 3 0 ns.length none, i64 ns.length, i64 k]) (fun k => [(0, .box [.own .u8 350001 0 (l.length + (putY (ns.take k)).length) none]), (350001, .row .u8 (l ++ putY (ns.take k))), (3, .row .i64 ns)])
    (fun k => k ≤ ns.length) (fun k => ns.length - k) 0 (by omega) ?_ ?_
  · conv => whnf
    repeat' (first
      | exact trivial
      | ((first | refine i64L ?_ | refine u64L ?_ | refine u8L ?_); (conv => whnf))
      | ((refine ⟨fun hb => ?_, fun hb => ?_⟩) <;> (try simp only [nrm] at hb) <;> (first | (exfalso; omega) | contradiction | exact (tfF hb (by assumption)).elim | exact (ftF hb (by assumption)).elim | (conv => whnf)))
      | ((first | refine Draws.of cfg_ok (by kernel_rfl) ?_ | refine ⟨(by kernel_rfl : confB _ _ _ _ _ = true), ?_⟩ | refine bd1 ?_ | refine bd2 ?_ | refine bdR ?_ | refine bdL ?_ | refine ⟨rfl, ?_⟩ | refine ⟨congrArg (Value.int _) (by omega), ?_⟩); (conv => whnf))
      | (refine And.intro ?_ ?_; rotate_left; (conv => whnf); rotate_right))
    all_goals first | rfl | (simp [putY]; done)
  · intro k hk
    by_cases hlt : k < ns.length
    · have hz := hns _ (elt_mem (t := .i64) hlt)
      have hz2 := hz.le
      have hpl := putY_len (ns.take k)
      rw [List.length_take] at hpl
      conv => whnf
      repeat' (first
        | exact trivial
        | ((first | refine i64L ?_ | refine u64L ?_ | refine u8L ?_); (conv => whnf))
        | ((refine ⟨fun hb => ?_, fun hb => ?_⟩) <;> (try simp only [nrm] at hb) <;> (first | (exfalso; omega) | contradiction | exact (tfF hb (by assumption)).elim | exact (ftF hb (by assumption)).elim | (conv => whnf)))
        | ((first | (refine isE 73 ?_; refine callEv (uint_evz (l ++ putY (ns.take k)) _ (elt .i64 ns k) (by rw [List.length_append]) hz.1 hz.2 (by rw [List.length_append]; omega)) [(1, 350001), (390001, 350003)] rfl ?_ ?_ ?_) | (refine isD 73 ?_; refine callEvD (uint_evz (l ++ putY (ns.take k)) _ (elt .i64 ns k) (by rw [List.length_append]) hz.1 hz.2 (by rw [List.length_append]; omega)) [(1, 350001), (390001, 350003)] rfl ?_ ?_ ?_)); rotate_left; rotate_left; (conv => whnf); rotate_left; (repeat' (first | exact trivial | (refine ⟨rfl, ?_⟩))); kernel_rfl)
        | (refine .inl ⟨inU64 hz.1 hz2, ?_⟩; (conv => whnf))
        | ((first | refine Draws.of cfg_ok (by kernel_rfl) ?_ | refine ⟨(by kernel_rfl : confB _ _ _ _ _ = true), ?_⟩ | refine bd1 ?_ | refine bd2 ?_ | refine bdR ?_ | refine bdL ?_ | refine ⟨rfl, ?_⟩ | refine ⟨congrArg (Value.int _) (by omega), ?_⟩); (conv => whnf))
        | (refine And.intro ?_ ?_; rotate_left; (conv => whnf); rotate_right))
      refine .to (k + 1) hlt (by omega) ?_
      have hpt := putY_take hlt
      conv => whnf
      repeat' (first
        | exact trivial
        | ((first | refine i64L ?_ | refine u64L ?_ | refine u8L ?_); (conv => whnf))
        | ((refine ⟨fun hb => ?_, fun hb => ?_⟩) <;> (try simp only [nrm] at hb) <;> (first | (exfalso; omega) | contradiction | exact (tfF hb (by assumption)).elim | exact (ftF hb (by assumption)).elim | (conv => whnf)))
        | ((first | refine Draws.of cfg_ok (by kernel_rfl) ?_ | refine ⟨(by kernel_rfl : confB _ _ _ _ _ = true), ?_⟩ | refine bd1 ?_ | refine bd2 ?_ | refine bdR ?_ | refine bdL ?_ | refine ⟨rfl, ?_⟩ | refine ⟨congrArg (Value.int _) (by omega), ?_⟩); (conv => whnf))
        | (refine And.intro ?_ ?_; rotate_left; (conv => whnf); rotate_right))
      all_goals (try rw [hpt])
      · exact List.take_length
      · rw [List.length_append, Nat.add_assoc]
      · rw [List.append_assoc]; exact List.take_of_length_le (by simp only [List.length_append]; omega)
    · obtain rfl : k = ns.length := by omega
      rw [List.take_length]
      conv => whnf
      repeat' (first
        | exact trivial
        | ((first | refine i64L ?_ | refine u64L ?_ | refine u8L ?_); (conv => whnf))
        | ((refine ⟨fun hb => ?_, fun hb => ?_⟩) <;> (try simp only [nrm] at hb) <;> (first | (exfalso; omega) | contradiction | exact (tfF hb (by assumption)).elim | exact (ftF hb (by assumption)).elim | (conv => whnf)))
        | ((first | refine Draws.of cfg_ok (by kernel_rfl) ?_ | refine ⟨(by kernel_rfl : confB _ _ _ _ _ = true), ?_⟩ | refine bd1 ?_ | refine bd2 ?_ | refine bdR ?_ | refine bdL ?_ | refine ⟨rfl, ?_⟩ | refine ⟨congrArg (Value.int _) (by omega), ?_⟩); (conv => whnf))
        | (refine And.intro ?_ ?_; rotate_left; (conv => whnf); rotate_right))
      all_goals first | rfl | exact List.take_length | (refine List.take_of_length_le ?_; first | exact Nat.le_refl _ | (rw [List.length_append]; exact Nat.le_refl _))

theorem put_api_len {l : List Int} {ns : List Int} : (l ++ putY ns).length = l.length + (putY ns).length := List.length_append

set_option maxRecDepth 100000 in
set_option maxHeartbeats 4000000 in
theorem put_nil (ns : List (El .i64)) (n : Nat) (hn : n = ns.length) (hns : ∀ z ∈ ns, okN z) (hl : ns.length * 10 + 10 ≤ 140737488355328) :
    Ev1 Try.prog 113 [.own .i64 3 0 n (some n), .ptr 0 0] [(0, .box [.lit (.slice none 0 0)]), (3, .row .i64 ns)] (.tup []) [(0, .box [.own .u8 390001 0 (putY ns).length none]), (390001, .row .u8 (putY ns))] := by
  subst hn
  refine Ev1.of_fin cfg_ok Try.func113 rfl (nt := 14) rfl rfl rfl ?_
  conv => whnf
  refine Runs.loopS cfg_ok (σ := Nat) [1, 5, 6, 7] (fun k => [.ptr 0 0, .own .i64 3 0 ns.length none, i64 ns.length, i64 k]) (fun k => [(0, .box [.own .u8 350001 0 (putY (ns.take k)).length none]), (350001, .row .u8 (putY (ns.take k))), (3, .row .i64 ns)])
    (fun k => k ≤ ns.length) (fun k => ns.length - k) 0 (by omega) ?_ ?_
  · conv => whnf
    repeat' (first
      | exact trivial
      | ((first | refine i64L ?_ | refine u64L ?_ | refine u8L ?_); (conv => whnf))
      | ((refine ⟨fun hb => ?_, fun hb => ?_⟩) <;> (try simp only [nrm] at hb) <;> (first | (exfalso; omega) | contradiction | exact (tfF hb (by assumption)).elim | exact (ftF hb (by assumption)).elim | (conv => whnf)))
      | ((first | refine Draws.of cfg_ok (by kernel_rfl) ?_ | refine ⟨(by kernel_rfl : confB _ _ _ _ _ = true), ?_⟩ | refine bd1 ?_ | refine bd2 ?_ | refine bdR ?_ | refine bdL ?_ | refine ⟨rfl, ?_⟩ | refine ⟨congrArg (Value.int _) (by omega), ?_⟩); (conv => whnf))
      | (refine And.intro ?_ ?_; rotate_left; (conv => whnf); rotate_right))
    all_goals first | rfl | (simp [putY]; done)
  · intro k hk
    by_cases hlt : k < ns.length
    · have hz := hns _ (elt_mem (t := .i64) hlt)
      have hz2 := hz.le
      have hpl := putY_len (ns.take k)
      rw [List.length_take] at hpl
      conv => whnf
      repeat' (first
        | exact trivial
        | ((first | refine i64L ?_ | refine u64L ?_ | refine u8L ?_); (conv => whnf))
        | ((refine ⟨fun hb => ?_, fun hb => ?_⟩) <;> (try simp only [nrm] at hb) <;> (first | (exfalso; omega) | contradiction | exact (tfF hb (by assumption)).elim | exact (ftF hb (by assumption)).elim | (conv => whnf)))
        | ((first | (refine isE 73 ?_; refine callEv (uint_evz (putY (ns.take k)) _ (elt .i64 ns k) rfl hz.1 hz.2 (by omega)) [(1, 350001), (390001, 350003)] rfl ?_ ?_ ?_) | (refine isD 73 ?_; refine callEvD (uint_evz (putY (ns.take k)) _ (elt .i64 ns k) rfl hz.1 hz.2 (by omega)) [(1, 350001), (390001, 350003)] rfl ?_ ?_ ?_)); rotate_left; rotate_left; (conv => whnf); rotate_left; (repeat' (first | exact trivial | (refine ⟨rfl, ?_⟩))); kernel_rfl)
        | (refine .inl ⟨inU64 hz.1 hz2, ?_⟩; (conv => whnf))
        | ((first | refine Draws.of cfg_ok (by kernel_rfl) ?_ | refine ⟨(by kernel_rfl : confB _ _ _ _ _ = true), ?_⟩ | refine bd1 ?_ | refine bd2 ?_ | refine bdR ?_ | refine bdL ?_ | refine ⟨rfl, ?_⟩ | refine ⟨congrArg (Value.int _) (by omega), ?_⟩); (conv => whnf))
        | (refine And.intro ?_ ?_; rotate_left; (conv => whnf); rotate_right))
      refine .to (k + 1) hlt (by omega) ?_
      have hpt := putY_take hlt
      conv => whnf
      repeat' (first
        | exact trivial
        | ((first | refine i64L ?_ | refine u64L ?_ | refine u8L ?_); (conv => whnf))
        | ((refine ⟨fun hb => ?_, fun hb => ?_⟩) <;> (try simp only [nrm] at hb) <;> (first | (exfalso; omega) | contradiction | exact (tfF hb (by assumption)).elim | exact (ftF hb (by assumption)).elim | (conv => whnf)))
        | ((first | refine Draws.of cfg_ok (by kernel_rfl) ?_ | refine ⟨(by kernel_rfl : confB _ _ _ _ _ = true), ?_⟩ | refine bd1 ?_ | refine bd2 ?_ | refine bdR ?_ | refine bdL ?_ | refine ⟨rfl, ?_⟩ | refine ⟨congrArg (Value.int _) (by omega), ?_⟩); (conv => whnf))
        | (refine And.intro ?_ ?_; rotate_left; (conv => whnf); rotate_right))
      all_goals (try rw [hpt])
      · exact List.take_length
      · rw [List.length_append]
      · exact List.take_of_length_le (by simp only [List.length_append]; omega)
    · obtain rfl : k = ns.length := by omega
      rw [List.take_length]
      conv => whnf
      repeat' (first
        | exact trivial
        | ((first | refine i64L ?_ | refine u64L ?_ | refine u8L ?_); (conv => whnf))
        | ((refine ⟨fun hb => ?_, fun hb => ?_⟩) <;> (try simp only [nrm] at hb) <;> (first | (exfalso; omega) | contradiction | exact (tfF hb (by assumption)).elim | exact (ftF hb (by assumption)).elim | (conv => whnf)))
        | ((first | refine Draws.of cfg_ok (by kernel_rfl) ?_ | refine ⟨(by kernel_rfl : confB _ _ _ _ _ = true), ?_⟩ | refine bd1 ?_ | refine bd2 ?_ | refine bdR ?_ | refine bdL ?_ | refine ⟨rfl, ?_⟩ | refine ⟨congrArg (Value.int _) (by omega), ?_⟩); (conv => whnf))
        | (refine And.intro ?_ ?_; rotate_left; (conv => whnf); rotate_right))
      all_goals first | rfl | exact List.take_length | (refine List.take_of_length_le ?_; first | exact Nat.le_refl _ | (rw [List.length_append]; exact Nat.le_refl _))

end Go.Proofs.Ytelgmmcnopjolaa

/- world.Bytes$1; world.Bytes of a world without chunks and players; homesteadlaw13.WorldFirst. -/
set_option linter.unusedSimpArgs false
set_option linter.unusedVariables false
namespace Go.Proofs.Ytelgmmcnopjolaa
open Go Go.RowKit Eng

set_option maxRecDepth 100000 in
set_option maxHeartbeats 4000000 in
theorem wput_ev (l : List (El .u8)) (len : Nat) (ns : List (El .i64)) (n : Nat) (hn : n = ns.length) (hlen : len = l.length) (hns : ∀ z ∈ ns, okN z) (hl : l.length + ns.length * 10 + 10 ≤ 140737488355328) :
    Ev1 Try.prog 72 [.own .i64 3 0 n (some n), .ptr 0 0] [(0, .box [.own .u8 1 0 len none]), (1, .row .u8 l), (3, .row .i64 ns)] (.tup []) [(0, .box [.own .u8 390001 0 (len + (putY ns).length) none]), (390001, .row .u8 (l ++ putY ns))] := by
  subst hn
  subst hlen
  refine Ev1.of_fin cfg_ok Try.func72 rfl (nt := 14) rfl rfl rfl ?_
  conv => whnf
  refine Runs.loopS cfg_ok (σ := Nat) [1, 5, 6, 7] (fun k => [.ptr 0 0, .own .i64 3 0 ns.length none, i64 ns.length, i64 k]) (fun k => [(0, .box [.own .u8 350001 0 (l.length + (putY (ns.take k)).length) none]), (350001, .row .u8 (l ++ putY (ns.take k))), (3, .row .i64 ns)])
    (fun k => k ≤ ns.length) (fun k => ns.length - k) 0 (by omega) ?_ ?_
  · conv => whnf
    repeat' (first
      | exact trivial
      | ((first | refine i64L ?_ | refine u64L ?_ | refine u8L ?_); (conv => whnf))
      | ((refine ⟨fun hb => ?_, fun hb => ?_⟩) <;> (try simp only [nrm] at hb) <;> (first | (exfalso; omega) | contradiction | exact (tfF hb (by assumption)).elim | exact (ftF hb (by assumption)).elim | (conv => whnf)))
      | ((first | refine Draws.of cfg_ok (by kernel_rfl) ?_ | refine ⟨(by kernel_rfl : confB _ _ _ _ _ = true), ?_⟩ | refine bd1 ?_ | refine bd2 ?_ | refine bdR ?_ | refine bdL ?_ | refine ⟨rfl, ?_⟩ | refine ⟨congrArg (Value.int _) (by omega), ?_⟩); (conv => whnf))
      | (refine And.intro ?_ ?_; rotate_left; (conv => whnf); rotate_right))
    all_goals first | rfl | (simp [putY]; done)
  · intro k hk
    by_cases hlt : k < ns.length
    · have hz := hns _ (elt_mem (t := .i64) hlt)
      have hz2 := hz.le
      have hpl := putY_len (ns.take k)
      rw [List.length_take] at hpl
      conv => whnf
      repeat' (first
        | exact trivial
        | ((first | refine i64L ?_ | refine u64L ?_ | refine u8L ?_); (conv => whnf))
        | ((refine ⟨fun hb => ?_, fun hb => ?_⟩) <;> (try simp only [nrm] at hb) <;> (first | (exfalso; omega) | contradiction | exact (tfF hb (by assumption)).elim | exact (ftF hb (by assumption)).elim | (conv => whnf)))
        | ((first | (refine isE 73 ?_; refine callEv (uint_evz (l ++ putY (ns.take k)) _ (elt .i64 ns k) (by rw [List.length_append]) hz.1 hz.2 (by rw [List.length_append]; omega)) [(1, 350001), (390001, 350003)] rfl ?_ ?_ ?_) | (refine isD 73 ?_; refine callEvD (uint_evz (l ++ putY (ns.take k)) _ (elt .i64 ns k) (by rw [List.length_append]) hz.1 hz.2 (by rw [List.length_append]; omega)) [(1, 350001), (390001, 350003)] rfl ?_ ?_ ?_)); rotate_left; rotate_left; (conv => whnf); rotate_left; (repeat' (first | exact trivial | (refine ⟨rfl, ?_⟩))); kernel_rfl)
        | (refine .inl ⟨inU64 hz.1 hz2, ?_⟩; (conv => whnf))
        | ((first | refine Draws.of cfg_ok (by kernel_rfl) ?_ | refine ⟨(by kernel_rfl : confB _ _ _ _ _ = true), ?_⟩ | refine bd1 ?_ | refine bd2 ?_ | refine bdR ?_ | refine bdL ?_ | refine ⟨rfl, ?_⟩ | refine ⟨congrArg (Value.int _) (by omega), ?_⟩); (conv => whnf))
        | (refine And.intro ?_ ?_; rotate_left; (conv => whnf); rotate_right))
      refine .to (k + 1) hlt (by omega) ?_
      have hpt := putY_take hlt
      conv => whnf
      repeat' (first
        | exact trivial
        | ((first | refine i64L ?_ | refine u64L ?_ | refine u8L ?_); (conv => whnf))
        | ((refine ⟨fun hb => ?_, fun hb => ?_⟩) <;> (try simp only [nrm] at hb) <;> (first | (exfalso; omega) | contradiction | exact (tfF hb (by assumption)).elim | exact (ftF hb (by assumption)).elim | (conv => whnf)))
        | ((first | refine Draws.of cfg_ok (by kernel_rfl) ?_ | refine ⟨(by kernel_rfl : confB _ _ _ _ _ = true), ?_⟩ | refine bd1 ?_ | refine bd2 ?_ | refine bdR ?_ | refine bdL ?_ | refine ⟨rfl, ?_⟩ | refine ⟨congrArg (Value.int _) (by omega), ?_⟩); (conv => whnf))
        | (refine And.intro ?_ ?_; rotate_left; (conv => whnf); rotate_right))
      all_goals (try rw [hpt])
      · exact List.take_length
      · rw [List.length_append, Nat.add_assoc]
      · rw [List.append_assoc]; exact List.take_of_length_le (by simp only [List.length_append]; omega)
    · obtain rfl : k = ns.length := by omega
      rw [List.take_length]
      conv => whnf
      repeat' (first
        | exact trivial
        | ((first | refine i64L ?_ | refine u64L ?_ | refine u8L ?_); (conv => whnf))
        | ((refine ⟨fun hb => ?_, fun hb => ?_⟩) <;> (try simp only [nrm] at hb) <;> (first | (exfalso; omega) | contradiction | exact (tfF hb (by assumption)).elim | exact (ftF hb (by assumption)).elim | (conv => whnf)))
        | ((first | refine Draws.of cfg_ok (by kernel_rfl) ?_ | refine ⟨(by kernel_rfl : confB _ _ _ _ _ = true), ?_⟩ | refine bd1 ?_ | refine bd2 ?_ | refine bdR ?_ | refine bdL ?_ | refine ⟨rfl, ?_⟩ | refine ⟨congrArg (Value.int _) (by omega), ?_⟩); (conv => whnf))
        | (refine And.intro ?_ ?_; rotate_left; (conv => whnf); rotate_right))
      all_goals first | rfl | exact List.take_length | (refine List.take_of_length_le ?_; first | exact Nat.le_refl _ | (rw [List.length_append]; exact Nat.le_refl _))

set_option maxRecDepth 100000 in
set_option maxHeartbeats 4000000 in
theorem wput_nil (ns : List (El .i64)) (n : Nat) (hn : n = ns.length) (hns : ∀ z ∈ ns, okN z) (hl : ns.length * 10 + 10 ≤ 140737488355328) :
    Ev1 Try.prog 72 [.own .i64 3 0 n (some n), .ptr 0 0] [(0, .box [.lit (.slice none 0 0)]), (3, .row .i64 ns)] (.tup []) [(0, .box [.own .u8 390001 0 (putY ns).length none]), (390001, .row .u8 (putY ns))] := by
  subst hn
  refine Ev1.of_fin cfg_ok Try.func72 rfl (nt := 14) rfl rfl rfl ?_
  conv => whnf
  refine Runs.loopS cfg_ok (σ := Nat) [1, 5, 6, 7] (fun k => [.ptr 0 0, .own .i64 3 0 ns.length none, i64 ns.length, i64 k]) (fun k => [(0, .box [.own .u8 350001 0 (putY (ns.take k)).length none]), (350001, .row .u8 (putY (ns.take k))), (3, .row .i64 ns)])
    (fun k => k ≤ ns.length) (fun k => ns.length - k) 0 (by omega) ?_ ?_
  · conv => whnf
    repeat' (first
      | exact trivial
      | ((first | refine i64L ?_ | refine u64L ?_ | refine u8L ?_); (conv => whnf))
      | ((refine ⟨fun hb => ?_, fun hb => ?_⟩) <;> (try simp only [nrm] at hb) <;> (first | (exfalso; omega) | contradiction | exact (tfF hb (by assumption)).elim | exact (ftF hb (by assumption)).elim | (conv => whnf)))
      | ((first | refine Draws.of cfg_ok (by kernel_rfl) ?_ | refine ⟨(by kernel_rfl : confB _ _ _ _ _ = true), ?_⟩ | refine bd1 ?_ | refine bd2 ?_ | refine bdR ?_ | refine bdL ?_ | refine ⟨rfl, ?_⟩ | refine ⟨congrArg (Value.int _) (by omega), ?_⟩); (conv => whnf))
      | (refine And.intro ?_ ?_; rotate_left; (conv => whnf); rotate_right))
    all_goals first | rfl | (simp [putY]; done)
  · intro k hk
    by_cases hlt : k < ns.length
    · have hz := hns _ (elt_mem (t := .i64) hlt)
      have hz2 := hz.le
      have hpl := putY_len (ns.take k)
      rw [List.length_take] at hpl
      conv => whnf
      repeat' (first
        | exact trivial
        | ((first | refine i64L ?_ | refine u64L ?_ | refine u8L ?_); (conv => whnf))
        | ((refine ⟨fun hb => ?_, fun hb => ?_⟩) <;> (try simp only [nrm] at hb) <;> (first | (exfalso; omega) | contradiction | exact (tfF hb (by assumption)).elim | exact (ftF hb (by assumption)).elim | (conv => whnf)))
        | ((first | (refine isE 73 ?_; refine callEv (uint_evz (putY (ns.take k)) _ (elt .i64 ns k) rfl hz.1 hz.2 (by omega)) [(1, 350001), (390001, 350003)] rfl ?_ ?_ ?_) | (refine isD 73 ?_; refine callEvD (uint_evz (putY (ns.take k)) _ (elt .i64 ns k) rfl hz.1 hz.2 (by omega)) [(1, 350001), (390001, 350003)] rfl ?_ ?_ ?_)); rotate_left; rotate_left; (conv => whnf); rotate_left; (repeat' (first | exact trivial | (refine ⟨rfl, ?_⟩))); kernel_rfl)
        | (refine .inl ⟨inU64 hz.1 hz2, ?_⟩; (conv => whnf))
        | ((first | refine Draws.of cfg_ok (by kernel_rfl) ?_ | refine ⟨(by kernel_rfl : confB _ _ _ _ _ = true), ?_⟩ | refine bd1 ?_ | refine bd2 ?_ | refine bdR ?_ | refine bdL ?_ | refine ⟨rfl, ?_⟩ | refine ⟨congrArg (Value.int _) (by omega), ?_⟩); (conv => whnf))
        | (refine And.intro ?_ ?_; rotate_left; (conv => whnf); rotate_right))
      refine .to (k + 1) hlt (by omega) ?_
      have hpt := putY_take hlt
      conv => whnf
      repeat' (first
        | exact trivial
        | ((first | refine i64L ?_ | refine u64L ?_ | refine u8L ?_); (conv => whnf))
        | ((refine ⟨fun hb => ?_, fun hb => ?_⟩) <;> (try simp only [nrm] at hb) <;> (first | (exfalso; omega) | contradiction | exact (tfF hb (by assumption)).elim | exact (ftF hb (by assumption)).elim | (conv => whnf)))
        | ((first | refine Draws.of cfg_ok (by kernel_rfl) ?_ | refine ⟨(by kernel_rfl : confB _ _ _ _ _ = true), ?_⟩ | refine bd1 ?_ | refine bd2 ?_ | refine bdR ?_ | refine bdL ?_ | refine ⟨rfl, ?_⟩ | refine ⟨congrArg (Value.int _) (by omega), ?_⟩); (conv => whnf))
        | (refine And.intro ?_ ?_; rotate_left; (conv => whnf); rotate_right))
      all_goals (try rw [hpt])
      · exact List.take_length
      · rw [List.length_append]
      · exact List.take_of_length_le (by simp only [List.length_append]; omega)
    · obtain rfl : k = ns.length := by omega
      rw [List.take_length]
      conv => whnf
      repeat' (first
        | exact trivial
        | ((first | refine i64L ?_ | refine u64L ?_ | refine u8L ?_); (conv => whnf))
        | ((refine ⟨fun hb => ?_, fun hb => ?_⟩) <;> (try simp only [nrm] at hb) <;> (first | (exfalso; omega) | contradiction | exact (tfF hb (by assumption)).elim | exact (ftF hb (by assumption)).elim | (conv => whnf)))
        | ((first | refine Draws.of cfg_ok (by kernel_rfl) ?_ | refine ⟨(by kernel_rfl : confB _ _ _ _ _ = true), ?_⟩ | refine bd1 ?_ | refine bd2 ?_ | refine bdR ?_ | refine bdL ?_ | refine ⟨rfl, ?_⟩ | refine ⟨congrArg (Value.int _) (by omega), ?_⟩); (conv => whnf))
        | (refine And.intro ?_ ?_; rotate_left; (conv => whnf); rotate_right))
      all_goals first | rfl | exact List.take_length | (refine List.take_of_length_le ?_; first | exact Nat.le_refl _ | (rw [List.length_append]; exact Nat.le_refl _))


def byE (w : Wld) : List Int := ((putY [w.size] ++ uintL w.seed.toNat) ++ putY [w.tick, (w.chunks.length : Int)]) ++ putY [(w.players.length : Int)]
def wE (size seed : Int) : Wld := ⟨size, seed, 0, [], []⟩
theorem rwE {size seed : Int} (h : 1 ≤ size ∧ size ≤ 16) : RW (wE size seed) := ⟨by unfold wE headW; simp only [Bool.and_eq_true, decide_eq_true_eq, List.length_nil]; omega, by simp [wE], by simp [wE, risesK], by simp [wE, risesK], by simp [wE]⟩
theorem okW_E (size seed : Int) : OkW (wE size seed) := ⟨by simp [wE], by simp [wE], by simp [wE], by unfold wE; simp, by unfold wE; simp⟩

set_option maxRecDepth 100000 in
set_option maxHeartbeats 4000000 in
theorem bytesE_api (w : Wld) (hw : OkW w) (hR : rightW w = true) (h : 1 ≤ w.size ∧ w.size ≤ 16) (hs : 0 ≤ w.seed ∧ w.seed ≤ 18446744073709551615) (ht : w.tick = 0) (hc : w.chunks.length = 0) (hp : w.players.length = 0) : Api Try.prog 35 [wldV w] (.tup [.vec .u8 (byE w), i64 0]) := by
  have hrt := rightW_api w hw
  rw [hR] at hrt
  have h1 : (putY [w.size]).length ≤ 10 := putY_len _
  have h2 : (putY [w.tick, (w.chunks.length : Int)]).length ≤ 20 := putY_len _
  have h3 : (putY [(w.players.length : Int)]).length ≤ 10 := putY_len _
  have h4 : (uintL w.seed.toNat).length ≤ 10 := uintF_len 9 _
  have p1 := wput_nil [w.size] 1 rfl (by simp [okN]; omega) (by simp)
  have p2 := uint_ev (putY [w.size]) w.seed.toNat (by omega) (by omega)
  rw [Int.toNat_of_nonneg hs.1] at p2
  have p3 := wput_ev (putY [w.size] ++ uintL w.seed.toNat) ((putY [w.size]).length + (uintL w.seed.toNat).length) [w.tick, (w.chunks.length : Int)] 2 rfl (by rw [List.length_append]) (by simp [okN]; omega) (by rw [List.length_append]; simp only [List.length_cons, List.length_nil]; omega)
  have p4 := wput_ev ((putY [w.size] ++ uintL w.seed.toNat) ++ putY [w.tick, (w.chunks.length : Int)]) ((putY [w.size]).length + (uintL w.seed.toNat).length + (putY [w.tick, (w.chunks.length : Int)]).length) [(w.players.length : Int)] 1 rfl (by rw [List.length_append, List.length_append]) (by simp [okN]; omega) (by rw [List.length_append, List.length_append]; simp only [List.length_cons, List.length_nil]; omega)
  unfold byE
  generalize hA : putY [w.size] = A at *
  generalize hB : uintL w.seed.toNat = B at *
  generalize hC : putY [w.tick, (w.chunks.length : Int)] = C at *
  generalize hD : putY [(w.players.length : Int)] = D at *
  refine Api.of_fin cfg_ok Try.func35 rfl (nt := 92) rfl rfl ?_
  ((try refine evCut fun N hN hE hT => ?_); (conv => whnf))
  repeat' (first
    | exact trivial
    | (refine hT _ _ ?_; clear hN hE hT; ((try refine evCut fun N hN hE hT => ?_); (conv => whnf)))
    | (refine hE _ _ _ ?_; clear hN hE hT; ((try refine evCut fun N hN hE hT => ?_); (conv => whnf)))
    | (refine hN _ _ ?_; clear hN hE hT; ((try refine evCut fun N hN hE hT => ?_); (conv => whnf)))
    | ((first | refine i64L ?_ | refine u64L ?_ | refine u8L ?_); ((try refine evCut fun N hN hE hT => ?_); (conv => whnf)))
    | ((refine ⟨fun hb => ?_, fun hb => ?_⟩) <;> (try simp only [nrm] at hb) <;> (first | (exfalso; omega) | contradiction | exact (tfF hb (by assumption)).elim | exact (ftF hb (by assumption)).elim | ((try refine evCut fun N hN hE hT => ?_); (conv => whnf))))
    | ((first | (refine callEv (p1) [(0, 8), (3, 45), (390001, 150001)] rfl ?_ ?_ ?_) | (refine callEvD (p1) [(0, 8), (3, 45), (390001, 150001)] rfl ?_ ?_ ?_)); rotate_left; rotate_left; ((try refine evCut fun N hN hE hT => ?_); (conv => whnf)); rotate_left; (repeat' (first | exact trivial | (refine ⟨rfl, ?_⟩))); kernel_rfl)
    | ((first | (refine callEv (p2) [(1, 150001), (390001, 150003)] rfl ?_ ?_ ?_) | (refine callEvD (p2) [(1, 150001), (390001, 150003)] rfl ?_ ?_ ?_)); rotate_left; rotate_left; ((try refine evCut fun N hN hE hT => ?_); (conv => whnf)); rotate_left; (repeat' (first | exact trivial | (refine ⟨rfl, ?_⟩))); kernel_rfl)
    | ((first | (refine callEv (p3) [(0, 8), (1, 150003), (3, 69), (390001, 150005)] rfl ?_ ?_ ?_) | (refine callEvD (p3) [(0, 8), (1, 150003), (3, 69), (390001, 150005)] rfl ?_ ?_ ?_)); rotate_left; rotate_left; ((try refine evCut fun N hN hE hT => ?_); (conv => whnf)); rotate_left; (repeat' (first | exact trivial | (refine ⟨rfl, ?_⟩))); kernel_rfl)
    | ((first | (refine callApi (hrt) rfl rfl ?_) | (refine callApiD (hrt) rfl rfl ?_) | refine Draws.of cfg_ok (by kernel_rfl) ?_ | refine ⟨(by kernel_rfl : confB _ _ _ _ _ = true), ?_⟩ | refine bd1 ?_ | refine bd2 ?_ | refine bdR ?_ | refine bdL ?_ | refine ⟨rfl, ?_⟩ | refine ⟨congrArg (Value.int _) (by omega), ?_⟩); ((try refine evCut fun N hN hE hT => ?_); (conv => whnf)))
    | (refine And.intro ?_ ?_; rotate_left; ((try refine evCut fun N hN hE hT => ?_); (conv => whnf)); rotate_right))
  refine Runs.loopQ cfg_ok (σ := Nat) [1, 4, 5, 6, 37, 38, 39] (fun k => [.ptr 2 0, .ptr 8 0, .ptr 10 0, .clo (.func 74) [] [.ptr 10 0], .vec .chunk w.chunks, i64 w.chunks.length, i64 k])
    (fun _ => [(2, .box (wldC w)), (8, .box [.own .u8 150005 0 (A.length + B.length + C.length) none]), (10, .box [.clo (.func 72) [] [.ptr 8 0]]), (150005, .row .u8 (A ++ B ++ C))]) (fun k => k = 0) (fun k => 0) 0 rfl ?_ ?_
  · conv => whnf
    repeat' (first
      | exact trivial
      | ((first | refine i64L ?_ | refine u64L ?_ | refine u8L ?_); (conv => whnf))
      | ((refine ⟨fun hb => ?_, fun hb => ?_⟩) <;> (try simp only [nrm] at hb) <;> (first | (exfalso; omega) | contradiction | exact (tfF hb (by assumption)).elim | exact (ftF hb (by assumption)).elim | (conv => whnf)))
      | ((first | refine Draws.of cfg_ok (by kernel_rfl) ?_ | refine ⟨(by kernel_rfl : confB _ _ _ _ _ = true), ?_⟩ | refine bd1 ?_ | refine bd2 ?_ | refine bdR ?_ | refine bdL ?_ | refine ⟨rfl, ?_⟩ | refine ⟨congrArg (Value.int _) (by omega), ?_⟩); (conv => whnf))
      | (refine And.intro ?_ ?_; rotate_left; (conv => whnf); rotate_right))
    all_goals first | rfl | omega | exact List.take_of_length_le (by simp only [List.length_append]; omega) | trace_state
  · intro k hk N hN hE hT
    subst hk
    conv => whnf
    repeat' (first
      | exact trivial
      | (refine hT _ _ ?_; clear hN hE hT; ((try refine evCut fun N hN hE hT => ?_); (conv => whnf)))
      | (refine hE _ _ _ ?_; clear hN hE hT; ((try refine evCut fun N hN hE hT => ?_); (conv => whnf)))
      | (refine hN _ _ ?_; clear hN hE hT; ((try refine evCut fun N hN hE hT => ?_); (conv => whnf)))
      | ((first | refine i64L ?_ | refine u64L ?_ | refine u8L ?_); ((try refine evCut fun N hN hE hT => ?_); (conv => whnf)))
      | ((refine ⟨fun hb => ?_, fun hb => ?_⟩) <;> (try simp only [nrm] at hb) <;> (first | (exfalso; omega) | contradiction | exact (tfF hb (by assumption)).elim | exact (ftF hb (by assumption)).elim | ((try refine evCut fun N hN hE hT => ?_); (conv => whnf))))
      | ((first | (refine callEv (p4) [(0, 8), (1, 150005), (3, 113), (390001, 150007)] rfl ?_ ?_ ?_) | (refine callEvD (p4) [(0, 8), (1, 150005), (3, 113), (390001, 150007)] rfl ?_ ?_ ?_)); rotate_left; rotate_left; ((try refine evCut fun N hN hE hT => ?_); (conv => whnf)); rotate_left; (repeat' (first | exact trivial | (refine ⟨rfl, ?_⟩))); kernel_rfl)
      | ((first | refine Draws.of cfg_ok (by kernel_rfl) ?_ | refine ⟨(by kernel_rfl : confB _ _ _ _ _ = true), ?_⟩ | refine bd1 ?_ | refine bd2 ?_ | refine bdR ?_ | refine bdL ?_ | refine ⟨rfl, ?_⟩ | refine ⟨congrArg (Value.int _) (by omega), ?_⟩); ((try refine evCut fun N hN hE hT => ?_); (conv => whnf)))
      | (refine And.intro ?_ ?_; rotate_left; ((try refine evCut fun N hN hE hT => ?_); (conv => whnf)); rotate_right))
    refine Runs.loopQ cfg_ok (σ := Nat) [4, 5, 6, 59, 60, 61] (fun k => [.ptr 8 0, .ptr 10 0, .clo (.func 74) [] [.ptr 10 0], .vec .player w.players, i64 w.players.length, i64 k])
      (fun _ => [(8, .box [.own .u8 150007 0 (A.length + B.length + C.length + D.length) none]), (10, .box [.clo (.func 72) [] [.ptr 8 0]]), (150007, .row .u8 (A ++ B ++ C ++ D))]) (fun k => k = 0) (fun k => 0) 0 rfl ?_ ?_
    · conv => whnf
      repeat' (first
        | exact trivial
        | ((first | refine i64L ?_ | refine u64L ?_ | refine u8L ?_); (conv => whnf))
        | ((refine ⟨fun hb => ?_, fun hb => ?_⟩) <;> (try simp only [nrm] at hb) <;> (first | (exfalso; omega) | contradiction | exact (tfF hb (by assumption)).elim | exact (ftF hb (by assumption)).elim | (conv => whnf)))
        | ((first | refine Draws.of cfg_ok (by kernel_rfl) ?_ | refine ⟨(by kernel_rfl : confB _ _ _ _ _ = true), ?_⟩ | refine bd1 ?_ | refine bd2 ?_ | refine bdR ?_ | refine bdL ?_ | refine ⟨rfl, ?_⟩ | refine ⟨congrArg (Value.int _) (by omega), ?_⟩); (conv => whnf))
        | (refine And.intro ?_ ?_; rotate_left; (conv => whnf); rotate_right))
      all_goals first | rfl | omega | exact List.take_of_length_le (by simp only [List.length_append]; omega) | trace_state
    · intro k hk N hN hE hT
      subst hk
      conv => whnf
      repeat' (first
        | exact trivial
        | (refine hT _ _ ?_; clear hN hE hT; ((try refine evCut fun N hN hE hT => ?_); (conv => whnf)))
        | (refine hE _ _ _ ?_; clear hN hE hT; ((try refine evCut fun N hN hE hT => ?_); (conv => whnf)))
        | (refine hN _ _ ?_; clear hN hE hT; ((try refine evCut fun N hN hE hT => ?_); (conv => whnf)))
        | ((first | refine i64L ?_ | refine u64L ?_ | refine u8L ?_); ((try refine evCut fun N hN hE hT => ?_); (conv => whnf)))
        | ((refine ⟨fun hb => ?_, fun hb => ?_⟩) <;> (try simp only [nrm] at hb) <;> (first | (exfalso; omega) | contradiction | exact (tfF hb (by assumption)).elim | exact (ftF hb (by assumption)).elim | ((try refine evCut fun N hN hE hT => ?_); (conv => whnf))))
        | ((first | refine Draws.of cfg_ok (by kernel_rfl) ?_ | refine ⟨(by kernel_rfl : confB _ _ _ _ _ = true), ?_⟩ | refine bd1 ?_ | refine bd2 ?_ | refine bdR ?_ | refine bdL ?_ | refine ⟨rfl, ?_⟩ | refine ⟨congrArg (Value.int _) (by omega), ?_⟩); ((try refine evCut fun N hN hE hT => ?_); (conv => whnf)))
        | (refine And.intro ?_ ?_; rotate_left; ((try refine evCut fun N hN hE hT => ?_); (conv => whnf)); rotate_right))
      all_goals first | rfl | omega | exact List.take_of_length_le (by simp only [List.length_append]; omega) | (rw [List.drop_zero]; exact List.take_of_length_le (by simp only [List.length_append]; omega)) | trace_state

theorem okU8_uintF : ∀ (f n : Nat), n < 128 ^ (f + 1) → okU8 (uintF f n)
  | 0, n, h => by intro i hi; unfold uintF at hi; simp at hi h; omega
  | f + 1, n, h => by
    intro i hi
    unfold uintF at hi
    split at hi
    · simp at hi; omega
    · rcases List.mem_cons.1 hi with rfl | hi
      · omega
      · exact okU8_uintF f _ (by rw [Nat.pow_succ] at h; omega) i hi
theorem okU8_uint (n : Nat) (h : n < 18446744073709551616) : okU8 (uintL n) := okU8_uintF 9 n (by omega)
theorem okU8_put (l : List Int) (h : ∀ z ∈ l, z < 18446744073709551616) : okU8 (putY l) := by
  intro i hi
  unfold putY at hi
  rw [List.mem_flatMap] at hi
  obtain ⟨z, hm, hz⟩ := hi
  exact okU8_uint _ (by have := h z hm; omega) i hz
theorem okU8_app {a b : List Int} (ha : okU8 a) (hb : okU8 b) : okU8 (a ++ b) := fun i hi => (List.mem_append.1 hi).elim (ha i) (hb i)
theorem okU8_byE (size seed : Int) (h : size ≤ 16) (hs : seed ≤ 18446744073709551615) : okU8 (byE (wE size seed)) := okU8_app (okU8_app (okU8_app (okU8_put _ (by simp [wE]; omega)) (okU8_uint _ (by simp [wE]; omega))) (okU8_put _ (by simp [wE]))) (okU8_put _ (by simp [wE]))
theorem atE_in {size seed x y : Int} (h : 1 ≤ size ∧ size ≤ 16) (hx : 0 ≤ x ∧ x < 8 * size) (hy : 0 ≤ y ∧ y < 8 * size) : atW (wE size seed) x y = (cellI seed x y, true) := by
  have hR := rwE (seed := seed) h
  have hc := (chunkW_in (w := wE size seed) (x := x / 8) (y := y / 8) hR (by show 0 ≤ x / 8 ∧ x / 8 < size; omega) (by show 0 ≤ y / 8 ∧ y / 8 < size; omega)).1
  have hg : getK keyC (wE size seed).chunks (keyC (atC (x / 8) (y / 8))) = none := rfl
  rw [hg] at hc
  have hw : withinW (wE size seed).size x y = true := (within_iff hR).2 (by show 0 ≤ x ∧ 0 ≤ y ∧ x < 8 * size ∧ y < 8 * size; omega)
  unfold atW
  rw [if_neg (by rw [hw]; simp), hc, if_neg (by simp)]
  show (elt .u8 (gl seed (x / 8) (y / 8) 64) (y % 8 * 8 + x % 8).toNat, true) = _
  congr 1
  unfold elt gl
  rw [List.getElem?_map, List.getElem?_range (by omega)]
  show cellI seed (x / 8 * 8 + (((y % 8 * 8 + x % 8).toNat % 8 : Nat) : Int)) (y / 8 * 8 + (((y % 8 * 8 + x % 8).toNat / 8 : Nat) : Int)) = _
  rw [show x / 8 * 8 + (((y % 8 * 8 + x % 8).toNat % 8 : Nat) : Int) = x by omega, show y / 8 * 8 + (((y % 8 * 8 + x % 8).toNat / 8 : Nat) : Int) = y by omega]
theorem atE_out {size seed x y : Int} (h : 1 ≤ size ∧ size ≤ 16) (hn : ¬ (0 ≤ x ∧ x < 8 * size ∧ 0 ≤ y ∧ y < 8 * size)) : atW (wE size seed) x y = (0, false) := by
  have hw : withinW (wE size seed).size x y = false := by
    rw [← Bool.not_eq_true]
    intro hw
    have h2 : 0 ≤ x ∧ 0 ≤ y ∧ x < 8 * size ∧ y < 8 * size := (within_iff (rwE (seed := seed) h)).1 hw
    exact hn (by omega)
  unfold atW; rw [if_pos hw]
theorem plE {size seed : Int} (h : 1 ≤ size ∧ size ≤ 16) (id : Int) : playerW (wE size seed) id = (zeroP, false) := by
  unfold playerW
  rw [if_neg (by rw [rightW_iff.2 (rwE h)]; simp)]; rfl

set_option maxRecDepth 100000 in
set_option maxHeartbeats 4000000 in
theorem first_api (size seed x y : Int) (hs : 0 ≤ seed ∧ seed ≤ 18446744073709551615) (hx : x ≤ 9223372036854775807) (hy : y ≤ 9223372036854775807) : Api Try.prog 11 [i64 size, .lit (.int .u64 seed), .agg [i64 x, i64 y]] (bol true) := by
  have hn := wnew_api size seed
  have haw := awake13_api
  by_cases h : 1 ≤ size ∧ size ≤ 16
  · rw [show newW size seed = (wE size seed, 0) by unfold newW; rw [if_pos h]; rfl] at hn
    have hrt := rightW_api (wE size seed) (okW_E size seed)
    rw [rightW_iff.2 (rwE h)] at hrt
    have hby := bytesE_api (wE size seed) (okW_E size seed) (rightW_iff.2 (rwE h)) h hs rfl rfl rfl
    have hq := equal_api (byE (wE size seed)) (byE (wE size seed)) (okU8_byE _ _ h.2 hs.2) (okU8_byE _ _ h.2 hs.2)
    rw [show eqL (byE (wE size seed)) (byE (wE size seed)) = true by unfold eqL; simp] at hq
    have hat := at_api (wE size seed) x y (okW_E size seed) hx hy
    have hpl := wplayer_api (wE size seed) 0 (okW_E size seed)
    rw [plE h] at hpl
    by_cases hin : 0 ≤ x ∧ x < 8 * size ∧ 0 ≤ y ∧ y < 8 * size
    · rw [atE_in h ⟨hin.1, hin.2.1⟩ hin.2.2] at hat
      have hc := cell_api seed x y (by omega) (by omega) (by omega) (by omega)
      generalize byE (wE size seed) = B at *
      generalize wE size seed = W at *
      dsimp only at hn hpl hat
      refine Api.of_fin cfg_ok Try.func11 rfl (nt := 144) rfl rfl ?_
      ((try refine evCut fun N hN hE hT => ?_); (conv => whnf))
      repeat' (first
        | exact trivial
        | (refine hT _ _ ?_; clear hN hE hT; ((try refine evCut fun N hN hE hT => ?_); (conv => whnf)))
        | (refine hE _ _ _ ?_; clear hN hE hT; ((try refine evCut fun N hN hE hT => ?_); (conv => whnf)))
        | (refine hN _ _ ?_; clear hN hE hT; ((try refine evCut fun N hN hE hT => ?_); (conv => whnf)))
        | ((first | refine i64L ?_ | refine u64L ?_ | refine u8L ?_); ((try refine evCut fun N hN hE hT => ?_); (conv => whnf)))
        | ((refine ⟨fun hb => ?_, fun hb => ?_⟩) <;> (try simp only [nrm] at hb) <;> (first | (exfalso; omega) | contradiction | exact (tfF hb (by assumption)).elim | exact (ftF hb (by assumption)).elim | ((try refine evCut fun N hN hE hT => ?_); (conv => whnf))))
        | ((first | (refine callApi (hn) rfl rfl ?_) | (refine callApiD (hn) rfl rfl ?_) | (refine callApi (haw) rfl rfl ?_) | (refine callApiD (haw) rfl rfl ?_) | (refine callApi (hrt) rfl rfl ?_) | (refine callApiD (hrt) rfl rfl ?_) | (refine callApi (hby) rfl rfl ?_) | (refine callApiD (hby) rfl rfl ?_) | (refine callApi (hq) rfl rfl ?_) | (refine callApiD (hq) rfl rfl ?_) | (refine callApi (hat) rfl rfl ?_) | (refine callApiD (hat) rfl rfl ?_) | (refine callApi (hpl) rfl rfl ?_) | (refine callApiD (hpl) rfl rfl ?_) | (refine callApi (hc) rfl rfl ?_) | (refine callApiD (hc) rfl rfl ?_) | refine Draws.of cfg_ok (by kernel_rfl) ?_ | refine ⟨(by kernel_rfl : confB _ _ _ _ _ = true), ?_⟩ | refine bd1 ?_ | refine bd2 ?_ | refine bdR ?_ | refine bdL ?_ | refine ⟨rfl, ?_⟩ | refine ⟨congrArg (Value.int _) (by omega), ?_⟩); ((try refine evCut fun N hN hE hT => ?_); (conv => whnf)))
        | (refine And.intro ?_ ?_; rotate_left; ((try refine evCut fun N hN hE hT => ?_); (conv => whnf)); rotate_right))
      all_goals first | omega | rfl | (exfalso; simp at hb; omega) | trace_state
    · rw [atE_out h hin] at hat
      generalize byE (wE size seed) = B at *
      generalize wE size seed = W at *
      dsimp only at hn hpl hat
      refine Api.of_fin cfg_ok Try.func11 rfl (nt := 144) rfl rfl ?_
      ((try refine evCut fun N hN hE hT => ?_); (conv => whnf))
      repeat' (first
        | exact trivial
        | (refine hT _ _ ?_; clear hN hE hT; ((try refine evCut fun N hN hE hT => ?_); (conv => whnf)))
        | (refine hE _ _ _ ?_; clear hN hE hT; ((try refine evCut fun N hN hE hT => ?_); (conv => whnf)))
        | (refine hN _ _ ?_; clear hN hE hT; ((try refine evCut fun N hN hE hT => ?_); (conv => whnf)))
        | ((first | refine i64L ?_ | refine u64L ?_ | refine u8L ?_); ((try refine evCut fun N hN hE hT => ?_); (conv => whnf)))
        | ((refine ⟨fun hb => ?_, fun hb => ?_⟩) <;> (try simp only [nrm] at hb) <;> (first | (exfalso; omega) | contradiction | exact (tfF hb (by assumption)).elim | exact (ftF hb (by assumption)).elim | ((try refine evCut fun N hN hE hT => ?_); (conv => whnf))))
        | ((first | (refine callApi (hn) rfl rfl ?_) | (refine callApiD (hn) rfl rfl ?_) | (refine callApi (haw) rfl rfl ?_) | (refine callApiD (haw) rfl rfl ?_) | (refine callApi (hrt) rfl rfl ?_) | (refine callApiD (hrt) rfl rfl ?_) | (refine callApi (hby) rfl rfl ?_) | (refine callApiD (hby) rfl rfl ?_) | (refine callApi (hq) rfl rfl ?_) | (refine callApiD (hq) rfl rfl ?_) | (refine callApi (hat) rfl rfl ?_) | (refine callApiD (hat) rfl rfl ?_) | (refine callApi (hpl) rfl rfl ?_) | (refine callApiD (hpl) rfl rfl ?_) | refine Draws.of cfg_ok (by kernel_rfl) ?_ | refine ⟨(by kernel_rfl : confB _ _ _ _ _ = true), ?_⟩ | refine bd1 ?_ | refine bd2 ?_ | refine bdR ?_ | refine bdL ?_ | refine ⟨rfl, ?_⟩ | refine ⟨congrArg (Value.int _) (by omega), ?_⟩); ((try refine evCut fun N hN hE hT => ?_); (conv => whnf)))
        | (refine And.intro ?_ ?_; rotate_left; ((try refine evCut fun N hN hE hT => ?_); (conv => whnf)); rotate_right))
      all_goals first | omega | rfl | (exfalso; simp at hb; omega) | trace_state
  · rw [show newW size seed = (⟨0, 0, 0, [], []⟩, 2) by unfold newW; rw [if_neg h]] at hn
    have hrt := rightW_api ⟨0, 0, 0, [], []⟩ ⟨by simp, by simp, by simp, by simp, by simp⟩
    rw [show rightW ⟨0, 0, 0, [], []⟩ = false by rfl] at hrt
    refine Api.of_fin cfg_ok Try.func11 rfl (nt := 144) rfl rfl ?_
    ((try refine evCut fun N hN hE hT => ?_); (conv => whnf))
    repeat' (first
      | exact trivial
      | (refine hT _ _ ?_; clear hN hE hT; ((try refine evCut fun N hN hE hT => ?_); (conv => whnf)))
      | (refine hE _ _ _ ?_; clear hN hE hT; ((try refine evCut fun N hN hE hT => ?_); (conv => whnf)))
      | (refine hN _ _ ?_; clear hN hE hT; ((try refine evCut fun N hN hE hT => ?_); (conv => whnf)))
      | ((first | refine i64L ?_ | refine u64L ?_ | refine u8L ?_); ((try refine evCut fun N hN hE hT => ?_); (conv => whnf)))
      | ((refine ⟨fun hb => ?_, fun hb => ?_⟩) <;> (try simp only [nrm] at hb) <;> (first | (exfalso; omega) | contradiction | exact (tfF hb (by assumption)).elim | exact (ftF hb (by assumption)).elim | ((try refine evCut fun N hN hE hT => ?_); (conv => whnf))))
      | ((first | (refine callApi (hn) rfl rfl ?_) | (refine callApiD (hn) rfl rfl ?_) | (refine callApi (haw) rfl rfl ?_) | (refine callApiD (haw) rfl rfl ?_) | (refine callApi (hrt) rfl rfl ?_) | (refine callApiD (hrt) rfl rfl ?_) | refine Draws.of cfg_ok (by kernel_rfl) ?_ | refine ⟨(by kernel_rfl : confB _ _ _ _ _ = true), ?_⟩ | refine bd1 ?_ | refine bd2 ?_ | refine bdR ?_ | refine bdL ?_ | refine ⟨rfl, ?_⟩ | refine ⟨congrArg (Value.int _) (by omega), ?_⟩); ((try refine evCut fun N hN hE hT => ?_); (conv => whnf)))
      | (refine And.intro ?_ ?_; rotate_left; ((try refine evCut fun N hN hE hT => ?_); (conv => whnf)); rotate_right))
    all_goals first | omega | rfl | (exfalso; simp at hb; omega) | trace_state

end Go.Proofs.Ytelgmmcnopjolaa
