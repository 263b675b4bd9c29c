/- homesteadlaw16.RulesComes. -/
import Derived.Test.YtkojlembanldcaaGreatGk
set_option linter.unusedSimpArgs false
set_option linter.unusedVariables false
set_option maxRecDepth 100000
set_option maxHeartbeats 4000000
namespace Go.Proofs.YtkojlembanldcaaGreat
open Go Go.RowKit Eng
abbrev jn : Cmd := ⟨1, 0, 0, 0, 0⟩
theorem jn_right : rightD jn = true := by decide
theorem spawn_bd {size id : Int} (hs : 1 ≤ size ∧ size ≤ 16) : 0 ≤ spawnX size id ∧ spawnX size id < 8 * size := by
  unfold spawnX
  split
  · omega
  · exact ⟨Int.emod_nonneg _ (by omega), Int.emod_lt_of_pos _ (by omega)⟩
theorem apply_there {w : Wld} {id : Int} (hR : RW w) (hp : (playerW w id).2 = true) : applyW w id jn = (w, 110) := by
  unfold applyW
  rw [if_neg (by rw [rightW_iff.2 hR]; simp), if_neg (by rw [jn_right]; simp), if_pos (by rw [hp]; rfl)]
theorem apply_joins {w : Wld} {id : Int} (hR : RW w) (hp : (playerW w id).2 = false) : applyW w id jn = setW w (newP w id) := by
  unfold applyW
  rw [if_neg (by rw [rightW_iff.2 hR]; simp), if_neg (by rw [jn_right]; simp), if_neg (by rw [hp]; decide), if_pos rfl]; rfl
theorem sound_newP {w : Wld} {id : Int} : soundB (newP w id) = (decide (0 ≤ id) && decide (id ≤ 1073741824)) := by
  unfold soundB newP
  dsimp only
  rw [show bag8 newB8 = true from rfl]
  simp
theorem player_none {w : Wld} {id : Int} (hR : RW w) (hp : (playerW w id).2 = false) : getK pid w.players id = none := by
  rw [playerW_get hR] at hp
  cases hg : getK pid w.players id with
  | none => rfl
  | some p => rw [hg] at hp; simp at hp
theorem join_bad {w : Wld} {id : Int} (hR : RW w) (hp : (playerW w id).2 = false) (hi : id < 0 ∨ 1073741824 < id) : applyW w id jn = (w, 110) := by
  rw [apply_joins hR hp]
  have hs : soundB (newP w id) = false := by
    rw [sound_newP, Bool.and_eq_false_iff, decide_eq_false_iff_not, decide_eq_false_iff_not]; omega
  unfold setW
  rw [if_neg (by rw [rightW_iff.2 hR]; simp), if_pos (.inl hs)]
theorem join_in {w : Wld} {id : Int} (hR : RW w) : withinW w.size (newP w id).x (newP w id).y = true := by
  have hs := hR.size
  have h2 := spawn_bd (id := id) ⟨hs.1, hs.2.1⟩
  rw [within_iff hR]
  show 0 ≤ spawnX w.size id ∧ (0 : Int) ≤ 0 ∧ spawnX w.size id < 8 * w.size ∧ (0 : Int) < 8 * w.size
  omega
theorem join_full {w : Wld} {id : Int} (hR : RW w) (hp : (playerW w id).2 = false) (hi : ¬ (id < 0 ∨ 1073741824 < id)) (hl : 32 ≤ w.players.length) : applyW w id jn = (w, 3) := by
  rw [apply_joins hR hp]
  have hs : soundB (newP w id) = true := by
    rw [sound_newP, Bool.and_eq_true, decide_eq_true_eq, decide_eq_true_eq]; omega
  have hg := player_none hR hp
  unfold setW
  rw [if_neg (by rw [rightW_iff.2 hR]; simp), if_neg (by rw [hs, join_in hR]; simp), if_neg (by rw [show (newP w id).id = id from rfl, hg]; simp), if_pos hl]
theorem join_ok {w : Wld} {id : Int} (hR : RW w) (hp : (playerW w id).2 = false) (hi : ¬ (id < 0 ∨ 1073741824 < id)) (hl : ¬ 32 ≤ w.players.length) :
    ∃ n, applyW w id jn = (n, 0) ∧ OkW n ∧ playerW n id = (newP w id, true) ∧ applyW n id jn = (n, 110) ∧ n.players.length = w.players.length + 1 := by
  have hs : soundB (newP w id) = true := by
    rw [sound_newP, Bool.and_eq_true, decide_eq_true_eq, decide_eq_true_eq]; omega
  have hg := player_none hR hp
  have hok : setOk w (newP w id) := ⟨hR, hs, join_in hR, .inr (by omega)⟩
  have hn := rw_set hok
  have hpl : playerW (withP w (setL w.players (newP w id))) id = (newP w id, true) := by
    rw [playerW_get hn, show (withP w (setL w.players (newP w id))).players = setL w.players (newP w id) from rfl, getK_setL hR.rp, if_pos (show id = (newP w id).id from rfl)]
  refine ⟨_, by rw [apply_joins hR hp, set_eq hok], okW_rw hn, hpl, apply_there hn (by rw [hpl]), ?_⟩
  show (setL w.players (newP w id)).length = _
  rw [setL_length hR.rp, if_neg (by rw [show (newP w id).id = id from rfl, hg]; simp)]
theorem comes_api (w : Wld) (id : Int) (hw : OkW w) (hi : -9223372036854775808 ≤ id ∧ id ≤ 9223372036854775807) : Api Tryz.prog 7 [wldV w, i64 id] (bol true) := by
  have hse := seen16_api w hw
  have haw := awake16_api
  cases hS : (!(greatW w) && rightW w) with
  | false =>
    rw [hS] at hse
    refine Api.of_fin cfg_ok Tryz.func7 rfl (nt := 157) rfl rfl ?_
    ((try with_reducible refine evCut fun N hN hE hT => ?_); (conv => whnf))
    repeat' (first | exact trivial | ((first | ((first | refine hT _ _ ?_ | refine hE _ _ _ ?_ | refine hN _ _ ?_); clear hN hE hT) | refine kL ?_ | (refine ⟨fun hb => ?_, fun hb => ?_⟩ <;> (try simp only [nrm] at hb) <;> (try (first | (exfalso; omega) | contradiction | exact kB hb))) | refine kA hse ?_ | refine kD hse ?_ | refine kA haw ?_ | refine kD haw ?_ | refine kW cfg_ok ?_ | refine kC ?_ | refine bdA ?_ | refine bd2 ?_ | refine bdR ?_ | refine bdL ?_) <;> ((try with_reducible refine evCut fun N hN hE hT => ?_); (conv => whnf))) | (refine And.intro ?_ ?_; rotate_left; (conv => whnf); rotate_right))
    all_goals first | rfl | omega | trace_state
  | true =>
    rw [hS] at hse
    rw [Bool.and_eq_true] at hS
    have hR := rightW_iff.1 hS.2
    have hpl := wplayer_api w id hw
    have hap := apply_api w id jn hw hi.2 (by decide)
    have hsm := sameW_self w hw
    have hsz := hR.size
    cases hP : (playerW w id).2 with
    | true =>
      rw [hP] at hpl
      rw [apply_there hR hP] at hap
      generalize (playerW w id).1 = P at *
      dsimp only at hap
      refine Api.of_fin cfg_ok Tryz.func7 rfl (nt := 157) rfl rfl ?_
      ((try with_reducible refine evCut fun N hN hE hT => ?_); (conv => whnf))
      repeat' (first | exact trivial | ((first | ((first | refine hT _ _ ?_ | refine hE _ _ _ ?_ | refine hN _ _ ?_); clear hN hE hT) | refine kL ?_ | (refine ⟨fun hb => ?_, fun hb => ?_⟩ <;> (try simp only [nrm] at hb) <;> (try (first | (exfalso; omega) | contradiction | exact kB hb))) | refine kA hse ?_ | refine kD hse ?_ | refine kA haw ?_ | refine kD haw ?_ | refine kA hpl ?_ | refine kD hpl ?_ | refine kA hap ?_ | refine kD hap ?_ | refine kA hsm ?_ | refine kD hsm ?_ | refine kW cfg_ok ?_ | refine kC ?_ | refine bdA ?_ | refine bd2 ?_ | refine bdR ?_ | refine bdL ?_) <;> ((try with_reducible refine evCut fun N hN hE hT => ?_); (conv => whnf))) | (refine And.intro ?_ ?_; rotate_left; (conv => whnf); rotate_right))
      all_goals first | rfl | omega | trace_state
    | false =>
      rw [hP] at hpl
      generalize (playerW w id).1 = P0 at *
      by_cases hid : id < 0 ∨ 1073741824 < id
      · rw [join_bad hR hP hid] at hap
        dsimp only at hap
        refine Api.of_fin cfg_ok Tryz.func7 rfl (nt := 157) rfl rfl ?_
        ((try with_reducible refine evCut fun N hN hE hT => ?_); (conv => whnf))
        repeat' (first | exact trivial | ((first | ((first | refine hT _ _ ?_ | refine hE _ _ _ ?_ | refine hN _ _ ?_); clear hN hE hT) | refine kL ?_ | (refine ⟨fun hb => ?_, fun hb => ?_⟩ <;> (try simp only [nrm] at hb) <;> (try (first | (exfalso; omega) | contradiction | exact kB hb))) | refine kA hse ?_ | refine kD hse ?_ | refine kA haw ?_ | refine kD haw ?_ | refine kA hpl ?_ | refine kD hpl ?_ | refine kA hap ?_ | refine kD hap ?_ | refine kA hsm ?_ | refine kD hsm ?_ | refine kW cfg_ok ?_ | refine kC ?_ | refine bdA ?_ | refine bd2 ?_ | refine bdR ?_ | refine bdL ?_) <;> ((try with_reducible refine evCut fun N hN hE hT => ?_); (conv => whnf))) | (refine And.intro ?_ ?_; rotate_left; (conv => whnf); rotate_right))
        all_goals first | rfl | omega | trace_state
      · by_cases hl : 32 ≤ w.players.length
        · rw [join_full hR hP hid hl] at hap
          dsimp only at hap
          refine Api.of_fin cfg_ok Tryz.func7 rfl (nt := 157) rfl rfl ?_
          ((try with_reducible refine evCut fun N hN hE hT => ?_); (conv => whnf))
          repeat' (first | exact trivial | ((first | ((first | refine hT _ _ ?_ | refine hE _ _ _ ?_ | refine hN _ _ ?_); clear hN hE hT) | refine kL ?_ | (refine ⟨fun hb => ?_, fun hb => ?_⟩ <;> (try simp only [nrm] at hb) <;> (try (first | (exfalso; omega) | contradiction | exact kB hb))) | refine kA hse ?_ | refine kD hse ?_ | refine kA haw ?_ | refine kD haw ?_ | refine kA hpl ?_ | refine kD hpl ?_ | refine kA hap ?_ | refine kD hap ?_ | refine kA hsm ?_ | refine kD hsm ?_ | refine kW cfg_ok ?_ | refine kC ?_ | refine bdA ?_ | refine bd2 ?_ | refine bdR ?_ | refine bdL ?_) <;> ((try with_reducible refine evCut fun N hN hE hT => ?_); (conv => whnf))) | (refine And.intro ?_ ?_; rotate_left; (conv => whnf); rotate_right))
          all_goals first | rfl | omega | trace_state
        · obtain ⟨n, h1, h2, h3, h4, h5⟩ := join_ok hR hP hid hl
          have hpn := wplayer_api n id h2
          have hap2 := apply_api n id jn h2 hi.2 (by decide)
          have hsp := spawn_api w.size id hi.2
          have hbd := spawn_bd (id := id) ⟨hsz.1, hsz.2.1⟩
          rw [h1] at hap
          rw [h3] at hpn
          rw [h4] at hap2
          have hNB : newB8.length = 8 := rfl
          have hN0 : ∀ k < newB8.length, (elt .slot newB8 k).item = 0 ∧ (elt .slot newB8 k).n = 0 := by decide
          unfold newP at hpn
          generalize spawnX w.size id = SX at *
          generalize newB8 = NB at *
          clear h1 h3 h4
          dsimp only at hap hpn hap2
          refine Api.of_fin cfg_ok Tryz.func7 rfl (nt := 157) rfl rfl ?_
          ((try with_reducible refine evCut fun N hN hE hT => ?_); (conv => whnf))
          repeat' (first | exact trivial | ((first | ((first | refine hT _ _ ?_ | refine hE _ _ _ ?_ | refine hN _ _ ?_); clear hN hE hT) | refine kL ?_ | (refine ⟨fun hb => ?_, fun hb => ?_⟩ <;> (try simp only [nrm] at hb) <;> (try (first | (exfalso; omega) | contradiction | exact kB hb))) | refine kA hse ?_ | refine kD hse ?_ | refine kA haw ?_ | refine kD haw ?_ | refine kA hpl ?_ | refine kD hpl ?_ | refine kA hap ?_ | refine kD hap ?_ | refine kA hpn ?_ | refine kD hpn ?_ | refine kA hsp ?_ | refine kD hsp ?_ | refine kW cfg_ok ?_ | refine kC ?_ | refine bdA ?_ | refine bd2 ?_ | refine bdR ?_ | refine bdL ?_) <;> ((try with_reducible refine evCut fun N hN hE hT => ?_); (conv => whnf))) | (refine And.intro ?_ ?_; rotate_left; (conv => whnf); rotate_right))
          refine Runs.loopS cfg_ok (σ := Nat) [1, 2, 5, 8, 9, 10, 11, 12, 13, 85, 86, 87] (fun k => [i64 id, .ptr 4 0, .ptr 10 0, .ptr 16 0, i64 0, .ptr 20 0, bol true, i64 SX, i64 0, .vec .slot NB, i64 NB.length, i64 k])
            (fun _ => [(4, .box (wldC w)), (10, .box (cmdC jn)), (16, .box (wldC n)), (20, .box (playerC ⟨id, SX, 0, NB, -1, [], false⟩))]) (fun k => k ≤ NB.length) (fun k => NB.length - k) 0 (by omega) ?_ ?_
          · conv => whnf
            repeat' (first | exact trivial | ((first | ((first | refine hT _ _ ?_ | refine hE _ _ _ ?_ | refine hN _ _ ?_); clear hN hE hT) | refine kL ?_ | (refine ⟨fun hb => ?_, fun hb => ?_⟩ <;> (try simp only [nrm] at hb) <;> (try (first | (exfalso; omega) | contradiction | exact kB hb))) | refine kW cfg_ok ?_ | refine kC ?_ | refine bdA ?_ | refine bd2 ?_ | refine bdR ?_ | refine bdL ?_) <;> ((try with_reducible refine evCut fun N hN hE hT => ?_); (conv => whnf))) | (refine And.intro ?_ ?_; rotate_left; (conv => whnf); rotate_right))
            all_goals first | rfl | trace_state
          · intro k hk
            by_cases hlt : k < NB.length
            · have hz := hN0 k hlt
              conv => whnf
              repeat' (first | exact trivial | ((first | ((first | refine hT _ _ ?_ | refine hE _ _ _ ?_ | refine hN _ _ ?_); clear hN hE hT) | refine kL ?_ | (refine ⟨fun hb => ?_, fun hb => ?_⟩ <;> (try simp only [nrm] at hb) <;> (try (first | (exfalso; omega) | contradiction | exact kB hb))) | refine kW cfg_ok ?_ | refine kC ?_ | refine bdA ?_ | refine bd2 ?_ | refine bdR ?_ | refine bdL ?_) <;> ((try with_reducible refine evCut fun N hN hE hT => ?_); (conv => whnf))) | (refine And.intro ?_ ?_; rotate_left; (conv => whnf); rotate_right))
              refine .to (k + 1) hlt (by omega) ?_
              conv => whnf
              repeat' (first | exact trivial | ((first | ((first | refine hT _ _ ?_ | refine hE _ _ _ ?_ | refine hN _ _ ?_); clear hN hE hT) | refine kL ?_ | (refine ⟨fun hb => ?_, fun hb => ?_⟩ <;> (try simp only [nrm] at hb) <;> (try (first | (exfalso; omega) | contradiction | exact kB hb))) | refine kW cfg_ok ?_ | refine kC ?_ | refine bdA ?_ | refine bd2 ?_ | refine bdR ?_ | refine bdL ?_) <;> ((try with_reducible refine evCut fun N hN hE hT => ?_); (conv => whnf))) | (refine And.intro ?_ ?_; rotate_left; (conv => whnf); rotate_right))
              all_goals first | rfl | (refine congrArg Value.bool ?_; simp [hz.1, hz.2]; done) | trace_state
            · obtain rfl : k = NB.length := by omega
              conv => whnf
              repeat' (first | exact trivial | ((first | ((first | refine hT _ _ ?_ | refine hE _ _ _ ?_ | refine hN _ _ ?_); clear hN hE hT) | refine kL ?_ | (refine ⟨fun hb => ?_, fun hb => ?_⟩ <;> (try simp only [nrm] at hb) <;> (try (first | (exfalso; omega) | contradiction | exact kB hb))) | refine kA hap2 ?_ | refine kD hap2 ?_ | refine kA haw ?_ | refine kD haw ?_ | refine kW cfg_ok ?_ | refine kC ?_ | refine bdA ?_ | refine bd2 ?_ | refine bdR ?_ | refine bdL ?_) <;> ((try with_reducible refine evCut fun N hN hE hT => ?_); (conv => whnf))) | (refine And.intro ?_ ?_; rotate_left; (conv => whnf); rotate_right))
              all_goals first | rfl | omega | trace_state
end Go.Proofs.YtkojlembanldcaaGreat
