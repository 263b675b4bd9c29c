/- MORE WAYS TO A LIFTED CONTRACT: own rows lent to functions of data; a capacity named; one row as the result, whatever its number. -/
import Derived.Test.YtdbnihckckekcaaFin
set_option linter.unusedSimpArgs false
set_option linter.unusedVariables false
namespace Eng
open Go Go.RowKit

mutual
/-- Neither memory nor slices. -/
def scalB : AV → Bool
  | .tt => true
  | .ff => true
  | .top => true
  | .lit _ => true
  | .bl _ _ => true
  | .emp _ => true
  | .agg cs => scalBL cs
  | .tup cs => scalBL cs
  | _ => false
def scalBL : List AV → Bool
  | [] => true
  | c :: r => match scalB c with | true => scalBL r | false => false
end
theorem scalBL_get {cs : List AV} (h : scalBL cs = true) {i : Nat} {c : AV} (hc : cs[i]? = some c) : scalB c = true := by
  induction cs generalizing i with
  | nil => simp at hc
  | cons a r ih =>
    simp only [scalBL] at h
    cases ha : scalB a with
    | false => rw [ha] at h; cases h
    | true =>
      rw [ha] at h
      cases i with
      | zero => simp at hc; subst hc; exact ha
      | succ i => simp at hc; exact ih h hc
theorem Rep.scal {w w' : World} {g g' : G} {lim lim' : Nat} {v : AV} {x : Value} (h : Rep w g lim v x) (hs : scalB v = true) : Rep w' g' lim' v x := by
  induction h with
  | top x => exact .top x
  | tt => exact .tt
  | ff => exact .ff
  | emp t a => exact .emp t a
  | bl p q b h1 h2 => exact .bl p q b h1 h2
  | lit v => exact .lit v
  | agg cs xs hl h ih => exact .agg cs xs hl fun i c x hc hx => ih i c x hc hx (scalBL_get (by simpa [scalB] using hs) hc)
  | tup cs xs hl h ih => exact .tup cs xs hl fun i c x hc hx => ih i c x hc hx (scalBL_get (by simpa [scalB] using hs) hc)
  | _ => cases hs

/-- Own rows lent to a function of data whose result is no memory. -/
theorem Api.lend {P : Program} {fid : FuncId} {args argsV : List AV} {m0 : Mem} {v : AV} (h : Api P fid argsV v) (hf : frzL args m0 fun a => a = argsV) (hv : scalB v = true) : Ev1 P fid args m0 v m0 := by
  intro w g vs hm ha
  obtain ⟨a', rfl, hr⟩ := frzL_ok args hf
  refine (h w g.all vs hm.all (hr w g L vs hm ha)).mono fun e w' ⟨x, g', e1, e2, e3, e4, e5⟩ => ?_
  let g2 : G := { ro := fun b => g'.ro b ∧ ∀ k, g.al k → 0 < g.sz k → g.be k ≠ b, no := g.no, al := g.al, be := g.be, sz := g.sz }
  have hbe : ∀ k, g.al k → 0 < g.sz k → w'.heap[g.be k]? = w.heap[g.be k]? := fun k hk hz => e4.same _ (.inr ⟨k, hk, hz, rfl⟩)
  have hkeep : Keeps w w' g g2 := ⟨fun b hb => ⟨e5.ro b (.inl hb), fun k hk hz e => hm.nro k hk hz (e ▸ hb)⟩, fun b hb => e4.same b (.inl hb)⟩
  refine ⟨x, g2, e1, e2.scal hv, ?_, ⟨e4.os, e4.tape, e4.output, e4.size, fun b hb => e4.same b (.inl hb), fun b hb => e4.others b hb⟩, ⟨hkeep.ro, fun _ h => h, fun _ _ ha => ⟨ha, rfl, rfl⟩⟩⟩
  refine ⟨hm.al, hm.lt, fun k hk hz hro => hro.2 k hk hz rfl, hm.inj, fun k b hb => ?_, fun b hb => e3.rolt b hb.1, fun b hb => ?_⟩
  · have hal := (hm.al k).2 (by simp [hb])
    exact (hm.blk k b hb).mono' hkeep (Nat.le_refl _) (hbe k hal) fun _ _ _ ha => ⟨ha, rfl, rfl⟩
  · have hn := e3.nof b (e5.no b hb)
    exact ⟨hn.1, fun hro => hn.2.1 hro.1, (hm.nof b hb).2.2⟩

theorem Le.cap {t : Ty} {k o n : Nat} {c : Option Nat} : Le (.own t k o n c) (.own t k o n none) := fun _ _ _ _ hr => by
  cases hr with
  | own _ _ _ _ b cap _ hk hc hcc hh => exact .own _ _ _ _ b cap none hk hc (fun n h => by cases h) hh
  | ownE _ _ _ _ ad hk hcc => exact .ownE _ _ _ _ ad hk (fun n h => by cases h)

/-- The capacity of the first argument, named. -/
theorem Ev1.cap {P : Program} {fid : FuncId} {t : Ty} {k o n : Nat} {rest : List AV} {m0 m1 : Mem} {v : AV} (h : ∀ c, n ≤ c → Ev1 P fid (.own t k o n (some c) :: rest) m0 v m1) : Ev1 P fid (.own t k o n none :: rest) m0 v m1 := by
  intro w g vs hm ha
  have hlt : 0 < vs.size := by have := ha.1; simp at this; omega
  have h0 := ha.2 0 (.own t k o n none) vs[0] (by simp) (Array.getElem?_eq_getElem hlt)
  generalize hx : vs[0] = x at h0
  have key : ∀ cap, n ≤ cap → Rep w g L (.own t k o n (some cap)) x → Calls P fid vs w fun e w' => ∃ x g', e = .returned x ∧ Rep w' g' L v x ∧ MSim w' g' L (mget m1) ∧ Tr g w w' ∧ LeG L g g' := by
    intro cap hc hr
    refine h cap hc w g vs hm ⟨ha.1, fun i c x hci hxi => ?_⟩
    cases i with
    | zero =>
      simp at hci; subst hci
      rw [Array.getElem?_eq_getElem hlt, hx] at hxi
      cases hxi
      exact hr
    | succ i => exact ha.2 (i + 1) c x (by simpa using hci) hxi
  cases h0 with
  | own _ _ _ _ b cap _ hk hc hcc hh => exact key cap hc (.own _ _ _ _ b cap _ hk hc (fun n h => by cases h; rfl) hh)
  | ownE _ _ _ _ ad hk hcc => exact key 0 (Nat.le_refl _) (.ownE _ _ _ _ ad hk (fun n h => by cases h; rfl))

/-- One row as the result, at whatever number it lies. -/
theorem Ev1.of_row {P : Program} {C : Cfg2} (hC : Cfg2Ok P C) {fid : FuncId} {fn : Func} {c : Code} (hf : P.funcs[fid]? = some fn) (hb : fn.body = some c) {nt : Nat} {args : List AV} {m0 : Mem} {t : Ty} {j n : Nat} {l : List (El t)}
    (hn : fn.ntmps - args.length = nt) (hj : L ≤ j) (hj2 : j % 2 = 1)
    (h : ev P C L c (bodyK P L fn.results.toList fun v' m' => ∃ k c ks, v' = .own t k 0 n c ∧ dels ks m' = [(k, .row t l)]) (args ++ undefs nt) m0) : Ev1 P fid args m0 (.own t j 0 n none) [(j, .row t l)] := by
  intro w g vs hm ha
  refine (calls_of_ev hC hf hb hn h hm ha).mono fun e w' ⟨v', x, g', m', e1, e2, e3, e4, e5, k, c, ks, e6, e7⟩ => ?_
  obtain ⟨g2, h1, h2, h3⟩ := dels_ok L ks e3
  rw [e7] at h1
  subst e6
  have hx := h3 _ _ e2
  have hk : mget [(k, Blk.row t l)] k = some (.row t l) := by simp [mget, Nat.beq_refl]
  have hren := h1.ren (j := j) (.inr hj2) hk (fun i b hb => by
    simp only [mget] at hb
    split at hb
    · cases hb; rfl
    · cases hb)
  have hme : put (put (mget [(k, Blk.row t l)]) k none) j (some (.row t l)) = mget [(j, .row t l)] := by
    funext i
    simp only [put, mget]
    by_cases hji : j = i
    · subst hji; simp [Nat.beq_refl]
    · by_cases hki : k = i
      · simp [hji, hki, nbf.2 hji]
      · simp [hji, hki, nbf.2 hji, nbf.2 hki]
  rw [hme] at hren
  have hal : g2.al k := (h1.al k).2 (by simp [hk])
  refine ⟨x, g2.ren k j, e1, ?_, hren, e4, (e5.trans h2).trans (LeG.ren hj)⟩
  have hx := Le.cap _ _ _ _ hx
  cases hx with
  | ownE _ _ _ _ ad hk2 hcc => exact .ownE t j 0 none ad (.inr hj2) (fun n h => by cases h)
  | own _ _ _ _ b cap _ hk2 hc hcc hh =>
  obtain ⟨rfl, h9⟩ := hh hal
  exact .own t j 0 n _ cap none (.inr hj2) hc (fun n h => by cases h) fun _ => ⟨by simp [G.ren, G.bind], by simp [G.ren, G.bind, G.kill]; simpa using h9⟩

end Eng
