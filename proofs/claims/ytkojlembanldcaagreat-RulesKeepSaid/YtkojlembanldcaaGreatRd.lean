/- How commands read; homesteadlaw16.RulesKeep. -/
import Derived.Test.YtkojlembanldcaaGreatGd
import Derived.Test.YtkojlembanldcaaGreatGk
import Derived.Test.YtkojlembanldcaaGreatRb
set_option linter.unusedSimpArgs false
set_option linter.unusedVariables false
set_option maxRecDepth 100000
set_option maxHeartbeats 4000000
namespace Eng
open Go Go.RowKit Go.ChangeShapes Go.WideShapes
theorem arg_slice {P : Program} {t e : TypeId} {ty : Ty} {ok : List (El ty) → Prop} (ht : P.underlying t = some (.slice e)) (h : Reads P t 1 (fun l : List (El ty) => [.vec ty l]) ok) : ArgOf P t (fun l : List (El ty) => .vec ty l) ok :=
  arg_one h fun W base v h => by obtain ⟨a, len, cap, rfl⟩ := okWide_slice ht h; rfl
end Eng
namespace Go.Proofs.YtkojlembanldcaaGreat
open Go Go.RowKit Eng
theorem rd_do8 : Reads Tryz.prog 38 1 (fun n : Int => [.lit (.int .u8 n)]) fitB := reads_int (by kernel_rfl) (by kernel_rfl)
def fitCmd (c : Cmd) : Prop := fitB c.dol ∧ fitI c.a ∧ fitI c.b ∧ fitI c.c ∧ fitI c.n
theorem cmdUn : Tryz.prog.underlying 40 = some (.struct (Tryz.prog.fieldsOf 40)) := by kernel_rfl
theorem rd_cmd : Reads Tryz.prog 40 5 (cells .cmd) fitCmd :=
  reads_map (reads_structL cmdUn (by kernel_rfl) (by kernel_rfl) (readsL_cons rd_do8 (readsL_cons rd_int (readsL_cons rd_int (readsL_cons rd_int (readsL_cons rd_int (readsL_nil _ _)))))))
    (fun p => (⟨p.1, p.2.1, p.2.2.1, p.2.2.2.1, p.2.2.2.2.1⟩ : Cmd)) (fun _ => rfl) (fun _ => rfl) fun a h => ⟨h.1, h.2.1, h.2.2.1, h.2.2.2.1, h.2.2.2.2.1⟩
def fitDoo (o : Doo) : Prop := fitI o.id ∧ fitCmd o.cmd
theorem dooUn : Tryz.prog.underlying 42 = some (.struct (Tryz.prog.fieldsOf 42)) := by kernel_rfl
theorem rd_doo : Reads Tryz.prog 42 6 (cells .doo) fitDoo :=
  reads_map (reads_structL dooUn (by kernel_rfl) (by kernel_rfl) (readsL_cons rd_int (readsL_cons rd_cmd (readsL_nil _ _)))) (fun p => (⟨p.1, p.2.1⟩ : Doo)) (fun _ => rfl) (fun _ => rfl) fun a h => ⟨h.1, h.2.1⟩
theorem ag_doo : ArgOf Tryz.prog 42 (fun o : Doo => .agg (cells .doo o)) fitDoo := arg_struct dooUn rd_doo
theorem rd_doos : Reads Tryz.prog 75 1 (fun l : List (El .doo) => [.vec .doo l]) (fun l => (∀ s ∈ l, fitDoo s) ∧ l.length * 48 ≤ 140737488351232) :=
  reads_slice .doo (by kernel_rfl) (by kernel_rfl) (by kernel_rfl) rd_doo
theorem ag_doos : ArgOf Tryz.prog 75 (fun l : List (El .doo) => .vec .doo l) (fun l => (∀ s ∈ l, fitDoo s) ∧ l.length * 48 ≤ 140737488351232) := arg_slice (e := 42) (by kernel_rfl) rd_doos
def fitOrder (o : Order) : Prop := fitI o.player ∧ fitI o.seq ∧ fitCmd o.cmd
theorem orderUn : Tryz.prog.underlying 90 = some (.struct (Tryz.prog.fieldsOf 90)) := by kernel_rfl
theorem rd_order : Reads Tryz.prog 90 7 (cells .order) fitOrder :=
  reads_map (reads_structL orderUn (by kernel_rfl) (by kernel_rfl) (readsL_cons rd_int (readsL_cons rd_int (readsL_cons rd_cmd (readsL_nil _ _))))) (fun p => (⟨p.1, p.2.1, p.2.2.1⟩ : Order)) (fun _ => rfl) (fun _ => rfl) fun a h => ⟨h.1, h.2.1, h.2.2.1⟩
theorem rd_orders : Reads Tryz.prog 79 1 (fun l : List (El .order) => [.vec .order l]) (fun l => (∀ s ∈ l, fitOrder s) ∧ l.length * 56 ≤ 140737488351232) :=
  reads_slice .order (by kernel_rfl) (by kernel_rfl) (by kernel_rfl) rd_order
theorem ag_orders : ArgOf Tryz.prog 79 (fun l : List (El .order) => .vec .order l) (fun l => (∀ s ∈ l, fitOrder s) ∧ l.length * 56 ≤ 140737488351232) := arg_slice (e := 90) (by kernel_rfl) rd_orders
theorem rd_orders2 : Reads Tryz.prog 27 1 (fun l : List (El .orders) => [.vec .orders l]) (fun l => (∀ s ∈ l, (∀ o ∈ s, fitOrder o) ∧ s.length * 56 ≤ 140737488351232) ∧ l.length * 24 ≤ 140737488351232) :=
  reads_slice .orders (by kernel_rfl) (by kernel_rfl) (by kernel_rfl) rd_orders
theorem ag_orders2 : ArgOf Tryz.prog 27 (fun l : List (El .orders) => .vec .orders l) (fun l => (∀ s ∈ l, (∀ o ∈ s, fitOrder o) ∧ s.length * 56 ≤ 140737488351232) ∧ l.length * 24 ≤ 140737488351232) := arg_slice (e := 79) (by kernel_rfl) rd_orders2
theorem fitDoo.ok {o : Doo} (h : fitDoo o) : o.id ≤ 9223372036854775807 ∧ 0 ≤ o.cmd.dol ∧ o.cmd.dol ≤ 255 := ⟨h.1.2, h.2.1.1, h.2.1.2⟩
open Go Go.RowKit Eng
theorem have_at (w : Wld) {k : Nat} (h : k < 13) : elt .i64 (haveW w) k = tw k w := by
  unfold haveW hv elt
  rw [List.getElem?_append_left (by simp; omega)]
  simp [h]
theorem have_bd {w : Wld} (hR : RW w) {k : Nat} (h : k < 13) : inN 288230376151711744 (elt .i64 (haveW w) k) := by
  rw [have_at w h, ← count_slots]; exact pre_bd hR (List.prefix_refl _) _
theorem have_len (w : Wld) : (haveW w).length = 13 := hv_len w (Nat.le_refl 13)
theorem deltas_len (w : Wld) (id : Int) (c : Cmd) : (deltasW w id c).length = 13 := by
  unfold deltasW
  split
  · rfl
  split
  · rw [addAt_len]; rfl
  split
  · rw [addAt_len]; rfl
  split
  · rw [addAt_len]; rfl
  split
  · cases recipeN c.c with
    | none => rfl
    | some r => obtain ⟨W, M⟩ := r; dsimp only; rw [addAt_len, subAll_len]; rfl
  · rfl
def eqN (a b c : Int) : Prop := a = b + c
theorem have_keep {w : Wld} (hR : RW w) (id : Int) (c : Cmd) {k : Nat} (h : k < 13) : eqN (elt .i64 (haveW (applyW w id c).1) k) (elt .i64 (haveW w) k) (elt .i64 (deltasW w id c) k) := by
  have e := keep_law hR id c h
  unfold eqN
  rw [have_at _ h, have_at _ h]; exact e
theorem rkeep_api (w : Wld) (l : List (El .doo)) (hw : OkW w) (hl : l.length * 48 ≤ 140737488351232) (hok : ∀ o ∈ l, o.id ≤ 9223372036854775807 ∧ 0 ≤ o.cmd.dol ∧ o.cmd.dol ≤ 255) : Api Tryz.prog 9 [wldV w, .vec .doo l] (bol true) := by
  have hgr := greatW_api w hw
  have hrt := rightW_api w hw
  have haw := awake16_api
  cases hG : greatW w with
  | true =>
    rw [hG] at hgr
    refine Api.of_fin cfg_ok Tryz.func9 rfl (nt := 160) rfl rfl ?_
    ((try with_reducible refine evCut fun N hN hE hT => ?_); (conv => whnf))
    repeat' (first | exact trivial | ((first | ((first | refine hT _ _ ?_ | refine hE _ _ _ ?_ | refine hN _ _ ?_); clear hN hE hT) | refine kL ?_ | (refine ⟨fun hb => ?_, fun hb => ?_⟩ <;> (try simp only [nrm] at hb) <;> (try (first | (exfalso; omega) | contradiction | exact kB hb))) | refine kA hgr ?_ | refine kD hgr ?_ | refine kA haw ?_ | refine kD haw ?_ | refine kW cfg_ok ?_ | refine kC ?_ | refine bdA ?_ | refine bd2 ?_ | refine bdR ?_ | refine bdL ?_) <;> ((try with_reducible refine evCut fun N hN hE hT => ?_); (conv => whnf))) | (refine And.intro ?_ ?_; rotate_left; (conv => whnf); rotate_right))
    all_goals first | rfl | omega | trace_state
  | false =>
    rw [hG] at hgr
    cases hR0 : rightW w with
    | false =>
      rw [hR0] at hrt
      refine Api.of_fin cfg_ok Tryz.func9 rfl (nt := 160) rfl rfl ?_
      ((try with_reducible refine evCut fun N hN hE hT => ?_); (conv => whnf))
      repeat' (first | exact trivial | ((first | ((first | refine hT _ _ ?_ | refine hE _ _ _ ?_ | refine hN _ _ ?_); clear hN hE hT) | refine kL ?_ | (refine ⟨fun hb => ?_, fun hb => ?_⟩ <;> (try simp only [nrm] at hb) <;> (try (first | (exfalso; omega) | contradiction | exact kB hb))) | refine kA hgr ?_ | refine kD hgr ?_ | refine kA hrt ?_ | refine kD hrt ?_ | refine kA haw ?_ | refine kD haw ?_ | refine kW cfg_ok ?_ | refine kC ?_ | refine bdA ?_ | refine bd2 ?_ | refine bdR ?_ | refine bdL ?_) <;> ((try with_reducible refine evCut fun N hN hE hT => ?_); (conv => whnf))) | (refine And.intro ?_ ?_; rotate_left; (conv => whnf); rotate_right))
      all_goals first | rfl | omega | trace_state
    | true =>
      rw [hR0] at hrt
      have hR := rightW_iff.1 hR0
      refine Api.of_fin cfg_ok Tryz.func9 rfl (nt := 160) rfl rfl ?_
      ((try with_reducible refine evCut fun N hN hE hT => ?_); (conv => whnf))
      repeat' (first | exact trivial | ((first | ((first | refine hT _ _ ?_ | refine hE _ _ _ ?_ | refine hN _ _ ?_); clear hN hE hT) | refine kL ?_ | (refine ⟨fun hb => ?_, fun hb => ?_⟩ <;> (try simp only [nrm] at hb) <;> (try (first | (exfalso; omega) | contradiction | exact kB hb))) | refine kA hgr ?_ | refine kD hgr ?_ | refine kA hrt ?_ | refine kD hrt ?_ | refine kW cfg_ok ?_ | refine kC ?_ | refine bdA ?_ | refine bd2 ?_ | refine bdR ?_ | refine bdL ?_) <;> ((try with_reducible refine evCut fun N hN hE hT => ?_); (conv => whnf))) | (refine And.intro ?_ ?_; rotate_left; (conv => whnf); rotate_right))
      refine Runs.loopQ cfg_ok (σ := Nat × Wld) [1, 2, 5] (fun (i, _) => [.vec .doo l, .ptr 4 0, i64 i]) (fun (_, v) => [(4, .box (wldC v))]) (fun (i, v) => i ≤ 25 ∧ RW v) (fun (i, _) => 25 - i) (0, w) ⟨by omega, hR⟩ ?_ ?_
      · conv => whnf
        repeat' (first | exact trivial | ((first | ((first | refine hT _ _ ?_ | refine hE _ _ _ ?_ | refine hN _ _ ?_); clear hN hE hT) | refine kL ?_ | (refine ⟨fun hb => ?_, fun hb => ?_⟩ <;> (try simp only [nrm] at hb) <;> (try (first | (exfalso; omega) | contradiction | exact kB hb))) | refine kW cfg_ok ?_ | refine kC ?_ | refine bdA ?_ | refine bd2 ?_ | refine bdR ?_ | refine bdL ?_) <;> ((try with_reducible refine evCut fun N hN hE hT => ?_); (conv => whnf))) | (refine And.intro ?_ ?_; rotate_left; (conv => whnf); rotate_right))
        all_goals first | rfl | omega | trace_state
      · rintro ⟨i, v⟩ ⟨hi, hv⟩ N hN hE hT
        by_cases hlt : i < l.length ∧ i < 25
        · have hom : elt .doo l ((i : Nat) : Int).toNat ∈ l := by rw [Int.toNat_natCast]; exact elt_mem (t := .doo) hlt.1
          obtain ⟨o1, o2, o3⟩ := hok _ hom
          have hvw := okW_rw hv
          have hde := deltas_api v (elt .doo l ((i : Nat) : Int).toNat).id (elt .doo l ((i : Nat) : Int).toNat).cmd hvw o1 ⟨o2, o3⟩
          have hap := apply_api v (elt .doo l ((i : Nat) : Int).toNat).id (elt .doo l ((i : Nat) : Int).toNat).cmd hvw o1 ⟨o2, o3⟩
          have hn := apply_rw (id := (elt .doo l ((i : Nat) : Int).toNat).id) (c := (elt .doo l ((i : Nat) : Int).toNat).cmd) (rightW_iff.2 hv)
          have hnw := okW_rw hn
          have hrn := rightW_api (applyW v (elt .doo l ((i : Nat) : Int).toNat).id (elt .doo l ((i : Nat) : Int).toNat).cmd).1 hnw
          rw [rightW_iff.2 hn] at hrn
          have hsm := sameW_self v hvw
          have hh1 := have16_api v hv
          have hh2 := have16_api (applyW v (elt .doo l ((i : Nat) : Int).toNat).id (elt .doo l ((i : Nat) : Int).toNat).cmd).1 hn
          have hfp := fun q (hq : q ∈ v.players) => far_player hv (elt .doo l ((i : Nat) : Int).toNat).id (elt .doo l ((i : Nat) : Int).toNat).cmd hq
          have hDl := deltas_len v (elt .doo l ((i : Nat) : Int).toNat).id (elt .doo l ((i : Nat) : Int).toNat).cmd
          have hHl := have_len v
          have hHl2 := have_len (applyW v (elt .doo l ((i : Nat) : Int).toNat).id (elt .doo l ((i : Nat) : Int).toNat).cmd).1
          have hEq := fun k (h : k < 13) => have_keep hv (elt .doo l ((i : Nat) : Int).toNat).id (elt .doo l ((i : Nat) : Int).toNat).cmd h
          have hb1 := fun k (h : k < 13) => have_bd hv h
          have hb2 := fun k (h : k < 13) => have_bd hn h
          have hcase : (applyW v (elt .doo l ((i : Nat) : Int).toNat).id (elt .doo l ((i : Nat) : Int).toNat).cmd).2 = 0 ∨ (¬ (applyW v (elt .doo l ((i : Nat) : Int).toNat).id (elt .doo l ((i : Nat) : Int).toNat).cmd).2 = 0 ∧ (applyW v (elt .doo l ((i : Nat) : Int).toNat).id (elt .doo l ((i : Nat) : Int).toNat).cmd).1 = v) := by
            by_cases h : (applyW v (elt .doo l ((i : Nat) : Int).toNat).id (elt .doo l ((i : Nat) : Int).toNat).cmd).2 = 0
            · exact .inl h
            · exact .inr ⟨h, apply_err h⟩
          generalize deltasW v (elt .doo l ((i : Nat) : Int).toNat).id (elt .doo l ((i : Nat) : Int).toNat).cmd = D at *
          generalize (applyW v (elt .doo l ((i : Nat) : Int).toNat).id (elt .doo l ((i : Nat) : Int).toNat).cmd).1 = n at *
          generalize (applyW v (elt .doo l ((i : Nat) : Int).toNat).id (elt .doo l ((i : Nat) : Int).toNat).cmd).2 = e at *
          generalize hH1 : haveW v = H1 at *
          generalize hH2 : haveW n = H2 at *
          have hnp : v.players.length ≤ 32 := hv.size.2.2.2.2
          have hsm2 : e = 0 ∨ (¬ e = 0 ∧ Api Tryz.prog 26 [wldV n, wldV v] (bol true)) := by
            rcases hcase with h | ⟨h0, h⟩
            · exact .inl h
            · right; refine ⟨h0, ?_⟩; rw [h]; exact hsm
          clear hcase hsm
          rcases hsm2 with rfl | ⟨he0, hsm⟩
          all_goals
            conv => whnf
            repeat' (first | exact trivial | ((first | ((first | refine hT _ _ ?_ | refine hE _ _ _ ?_ | refine hN _ _ ?_); clear hN hE hT) | refine kL ?_ | (refine ⟨fun hb => ?_, fun hb => ?_⟩ <;> (try simp only [nrm] at hb) <;> (try (first | (exfalso; omega) | contradiction | exact kB hb))) | refine kA hde ?_ | refine kD hde ?_ | refine kA hap ?_ | refine kD hap ?_ | refine kA hrn ?_ | refine kD hrn ?_ | refine kA hsm ?_ | refine kD hsm ?_ | refine kA hh1 ?_ | refine kD hh1 ?_ | refine kA hh2 ?_ | refine kD hh2 ?_ | refine kW cfg_ok ?_ | refine kC ?_ | refine bdA ?_ | refine bd2 ?_ | refine bdR ?_ | refine bdL ?_) <;> ((try with_reducible refine evCut fun N hN hE hT => ?_); (conv => whnf))) | (refine And.intro ?_ ?_; rotate_left; (conv => whnf); rotate_right))
            refine Runs.loopQ cfg_ok (σ := Nat) [1, 2, 5, 6, 7, 9, 10, 84, 85] (fun k => [.vec .doo l, .ptr 4 0, i64 i, .vec .i64 D, .ptr 14 0, .vec .i64 H1, .vec .i64 H2, i64 H1.length, i64 k]) (fun _ => [(4, .box (wldC v)), (14, .box (wldC n))]) (fun k => k ≤ H1.length) (fun k => H1.length - k) 0 (by omega) ?_ ?_
            · conv => whnf
              repeat' (first | exact trivial | ((first | ((first | refine hT _ _ ?_ | refine hE _ _ _ ?_ | refine hN _ _ ?_); clear hN hE hT) | refine kL ?_ | (refine ⟨fun hb => ?_, fun hb => ?_⟩ <;> (try simp only [nrm] at hb) <;> (try (first | (exfalso; omega) | contradiction | exact kB hb))) | refine kW cfg_ok ?_ | refine kC ?_ | refine bdA ?_ | refine bd2 ?_ | refine bdR ?_ | refine bdL ?_) <;> ((try with_reducible refine evCut fun N hN hE hT => ?_); (conv => whnf))) | (refine And.intro ?_ ?_; rotate_left; (conv => whnf); rotate_right))
              all_goals first | rfl | omega | trace_state
            · intro k hk N hN hE hT
              by_cases hlk : k < H1.length
              · have g1 := hEq ((k : Nat) : Int).toNat (by rw [Int.toNat_natCast]; omega)
                have g2 := hb1 ((k : Nat) : Int).toNat (by rw [Int.toNat_natCast]; omega)
                have g3 := hb2 ((k : Nat) : Int).toNat (by rw [Int.toNat_natCast]; omega)
                unfold eqN at g1
                unfold inN at g2 g3
                clear hEq hb1 hb2 hfp
                conv => whnf
                repeat' (first | exact trivial | ((first | ((first | refine hT _ _ ?_ | refine hE _ _ _ ?_ | refine hN _ _ ?_); clear hN hE hT) | refine kL ?_ | (refine ⟨fun hb => ?_, fun hb => ?_⟩ <;> (try simp only [nrm] at hb) <;> (try (first | (exfalso; omega) | contradiction | exact kB hb))) | refine kW cfg_ok ?_ | refine kC ?_ | refine bdA ?_ | refine bd2 ?_ | refine bdR ?_ | refine bdL ?_) <;> ((try with_reducible refine evCut fun N hN hE hT => ?_); (conv => whnf))) | (refine And.intro ?_ ?_; rotate_left; (conv => whnf); rotate_right))
                refine .to (k + 1) hlk (by omega) ?_
                conv => whnf
                repeat' (first | exact trivial | ((first | ((first | refine hT _ _ ?_ | refine hE _ _ _ ?_ | refine hN _ _ ?_); clear hN hE hT) | refine kL ?_ | (refine ⟨fun hb => ?_, fun hb => ?_⟩ <;> (try simp only [nrm] at hb) <;> (try (first | (exfalso; omega) | contradiction | exact kB hb))) | refine kW cfg_ok ?_ | refine kC ?_ | refine bdA ?_ | refine bd2 ?_ | refine bdR ?_ | refine bdL ?_) <;> ((try with_reducible refine evCut fun N hN hE hT => ?_); (conv => whnf))) | (refine And.intro ?_ ?_; rotate_left; (conv => whnf); rotate_right))
                all_goals first | rfl | omega | trace_state
              · obtain rfl : k = H1.length := by omega
                clear hEq hb1 hb2
                conv => whnf
                repeat' (first | exact trivial | ((first | ((first | refine hT _ _ ?_ | refine hE _ _ _ ?_ | refine hN _ _ ?_); clear hN hE hT) | refine kL ?_ | (refine ⟨fun hb => ?_, fun hb => ?_⟩ <;> (try simp only [nrm] at hb) <;> (try (first | (exfalso; omega) | contradiction | exact kB hb))) | refine kW cfg_ok ?_ | refine kC ?_ | refine bdA ?_ | refine bd2 ?_ | refine bdR ?_ | refine bdL ?_) <;> ((try with_reducible refine evCut fun N hN hE hT => ?_); (conv => whnf))) | (refine And.intro ?_ ?_; rotate_left; (conv => whnf); rotate_right))
                refine Runs.loopQ cfg_ok (σ := Nat) [1, 2, 5, 7, 104, 105, 106] (fun k => [.vec .doo l, .ptr 4 0, i64 i, .ptr 14 0, .vec .player v.players, i64 v.players.length, i64 k]) (fun _ => [(4, .box (wldC v)), (14, .box (wldC n))]) (fun k => k ≤ v.players.length) (fun k => v.players.length - k) 0 (by omega) ?_ ?_
                · conv => whnf
                  repeat' (first | exact trivial | ((first | ((first | refine hT _ _ ?_ | refine hE _ _ _ ?_ | refine hN _ _ ?_); clear hN hE hT) | refine kL ?_ | (refine ⟨fun hb => ?_, fun hb => ?_⟩ <;> (try simp only [nrm] at hb) <;> (try (first | (exfalso; omega) | contradiction | exact kB hb))) | refine kW cfg_ok ?_ | refine kC ?_ | refine bdA ?_ | refine bd2 ?_ | refine bdR ?_ | refine bdL ?_) <;> ((try with_reducible refine evCut fun N hN hE hT => ?_); (conv => whnf))) | (refine And.intro ?_ ?_; rotate_left; (conv => whnf); rotate_right))
                  all_goals first | rfl | omega | trace_state
                · intro k hk N hN hE hT
                  by_cases hlp : k < v.players.length
                  · have hqm : elt .player v.players ((k : Nat) : Int).toNat ∈ v.players := by rw [Int.toNat_natCast]; exact elt_mem (t := .player) hlp
                    obtain ⟨r, hr1, hr2⟩ := hfp _ hqm
                    have hpn := wplayer_api n (elt .player v.players ((k : Nat) : Int).toNat).id hnw
                    rw [hr1] at hpn
                    dsimp only at hpn
                    have hsp := sameP_self _ (okP_sound (hv.players _ hqm).1)
                    clear hfp
                    by_cases hd1 : (elt .player v.players k).id = (elt .doo l i).id
                    · clear hr2 hsp
                      conv => whnf
                      repeat' (first | exact trivial | ((first | ((first | refine hT _ _ ?_ | refine hE _ _ _ ?_ | refine hN _ _ ?_); clear hN hE hT) | refine kL ?_ | (refine ⟨fun hb => ?_, fun hb => ?_⟩ <;> (try simp only [nrm] at hb) <;> (try (first | (exfalso; omega) | contradiction | exact kB hb))) | refine kA hpn ?_ | refine kD hpn ?_ | refine kW cfg_ok ?_ | refine kC ?_ | refine bdA ?_ | refine bd2 ?_ | refine bdR ?_ | refine bdL ?_) <;> ((try with_reducible refine evCut fun N hN hE hT => ?_); (conv => whnf))) | (refine And.intro ?_ ?_; rotate_left; (conv => whnf); rotate_right))
                      refine .to (k + 1) hlp (by omega) ?_
                      conv => whnf
                      repeat' (first | exact trivial | ((first | ((first | refine hT _ _ ?_ | refine hE _ _ _ ?_ | refine hN _ _ ?_); clear hN hE hT) | refine kL ?_ | (refine ⟨fun hb => ?_, fun hb => ?_⟩ <;> (try simp only [nrm] at hb) <;> (try (first | (exfalso; omega) | contradiction | exact kB hb))) | refine kW cfg_ok ?_ | refine kC ?_ | refine bdA ?_ | refine bd2 ?_ | refine bdR ?_ | refine bdL ?_) <;> ((try with_reducible refine evCut fun N hN hE hT => ?_); (conv => whnf))) | (refine And.intro ?_ ?_; rotate_left; (conv => whnf); rotate_right))
                      all_goals first | rfl | omega | trace_state
                    · obtain ⟨⟨hx1, hy1⟩, hr3, _⟩ := hr2 hd1
                      rw [Int.toNat_natCast] at hx1 hy1
                      by_cases hd2 : (elt .player v.players k).wth = (elt .doo l i).id
                      · clear hr2 hr3 hsp
                        conv => whnf
                        repeat' (first | exact trivial | ((first | ((first | refine hT _ _ ?_ | refine hE _ _ _ ?_ | refine hN _ _ ?_); clear hN hE hT) | refine kL ?_ | (refine ⟨fun hb => ?_, fun hb => ?_⟩ <;> (try simp only [nrm] at hb) <;> (try (first | (exfalso; omega) | contradiction | exact kB hb))) | refine kA hpn ?_ | refine kD hpn ?_ | refine kW cfg_ok ?_ | refine kC ?_ | refine bdA ?_ | refine bd2 ?_ | refine bdR ?_ | refine bdL ?_) <;> ((try with_reducible refine evCut fun N hN hE hT => ?_); (conv => whnf))) | (refine And.intro ?_ ?_; rotate_left; (conv => whnf); rotate_right))
                        refine .to (k + 1) hlp (by omega) ?_
                        conv => whnf
                        repeat' (first | exact trivial | ((first | ((first | refine hT _ _ ?_ | refine hE _ _ _ ?_ | refine hN _ _ ?_); clear hN hE hT) | refine kL ?_ | (refine ⟨fun hb => ?_, fun hb => ?_⟩ <;> (try simp only [nrm] at hb) <;> (try (first | (exfalso; omega) | contradiction | exact kB hb))) | refine kW cfg_ok ?_ | refine kC ?_ | refine bdA ?_ | refine bd2 ?_ | refine bdR ?_ | refine bdL ?_) <;> ((try with_reducible refine evCut fun N hN hE hT => ?_); (conv => whnf))) | (refine And.intro ?_ ?_; rotate_left; (conv => whnf); rotate_right))
                        all_goals first | rfl | omega | trace_state
                      · have hrq := hr3 hd2
                        subst hrq
                        clear hr2 hr3 hx1 hy1
                        conv => whnf
                        repeat' (first | exact trivial | ((first | ((first | refine hT _ _ ?_ | refine hE _ _ _ ?_ | refine hN _ _ ?_); clear hN hE hT) | refine kL ?_ | (refine ⟨fun hb => ?_, fun hb => ?_⟩ <;> (try simp only [nrm] at hb) <;> (try (first | (exfalso; omega) | contradiction | exact kB hb))) | refine kA hpn ?_ | refine kD hpn ?_ | refine kA hsp ?_ | refine kD hsp ?_ | refine kW cfg_ok ?_ | refine kC ?_ | refine bdA ?_ | refine bd2 ?_ | refine bdR ?_ | refine bdL ?_) <;> ((try with_reducible refine evCut fun N hN hE hT => ?_); (conv => whnf))) | (refine And.intro ?_ ?_; rotate_left; (conv => whnf); rotate_right))
                        refine .to (k + 1) hlp (by omega) ?_
                        conv => whnf
                        repeat' (first | exact trivial | ((first | ((first | refine hT _ _ ?_ | refine hE _ _ _ ?_ | refine hN _ _ ?_); clear hN hE hT) | refine kL ?_ | (refine ⟨fun hb => ?_, fun hb => ?_⟩ <;> (try simp only [nrm] at hb) <;> (try (first | (exfalso; omega) | contradiction | exact kB hb))) | refine kW cfg_ok ?_ | refine kC ?_ | refine bdA ?_ | refine bd2 ?_ | refine bdR ?_ | refine bdL ?_) <;> ((try with_reducible refine evCut fun N hN hE hT => ?_); (conv => whnf))) | (refine And.intro ?_ ?_; rotate_left; (conv => whnf); rotate_right))
                        all_goals first | rfl | omega | trace_state
                  · obtain rfl : k = v.players.length := by omega
                    conv => whnf
                    repeat' (first | exact trivial | ((first | ((first | refine hT _ _ ?_ | refine hE _ _ _ ?_ | refine hN _ _ ?_); clear hN hE hT) | refine kL ?_ | (refine ⟨fun hb => ?_, fun hb => ?_⟩ <;> (try simp only [nrm] at hb) <;> (try (first | (exfalso; omega) | contradiction | exact kB hb))) | refine kW cfg_ok ?_ | refine kC ?_ | refine bdA ?_ | refine bd2 ?_ | refine bdR ?_ | refine bdL ?_) <;> ((try with_reducible refine evCut fun N hN hE hT => ?_); (conv => whnf))) | (refine And.intro ?_ ?_; rotate_left; (conv => whnf); rotate_right))
                    refine .to (i + 1, n) ⟨by omega, hn⟩ (by first | omega | (dsimp only; omega)) ?_
                    conv => whnf
                    repeat' (first | exact trivial | ((first | ((first | refine hT _ _ ?_ | refine hE _ _ _ ?_ | refine hN _ _ ?_); clear hN hE hT) | refine kL ?_ | (refine ⟨fun hb => ?_, fun hb => ?_⟩ <;> (try simp only [nrm] at hb) <;> (try (first | (exfalso; omega) | contradiction | exact kB hb))) | refine kW cfg_ok ?_ | refine kC ?_ | refine bdA ?_ | refine bd2 ?_ | refine bdR ?_ | refine bdL ?_) <;> ((try with_reducible refine evCut fun N hN hE hT => ?_); (conv => whnf))) | (refine And.intro ?_ ?_; rotate_left; (conv => whnf); rotate_right))
                    all_goals first | rfl | omega | trace_state
        · conv => whnf
          repeat' (first | exact trivial | ((first | ((first | refine hT _ _ ?_ | refine hE _ _ _ ?_ | refine hN _ _ ?_); clear hN hE hT) | refine kL ?_ | (refine ⟨fun hb => ?_, fun hb => ?_⟩ <;> (try simp only [nrm] at hb) <;> (try (first | (exfalso; omega) | contradiction | exact kB hb))) | refine kA haw ?_ | refine kD haw ?_ | refine kW cfg_ok ?_ | refine kC ?_ | refine bdA ?_ | refine bd2 ?_ | refine bdR ?_ | refine bdL ?_) <;> ((try with_reducible refine evCut fun N hN hE hT => ?_); (conv => whnf))) | (refine And.intro ?_ ?_; rotate_left; (conv => whnf); rotate_right))
          all_goals first | rfl | omega | trace_state
end Go.Proofs.YtkojlembanldcaaGreat
