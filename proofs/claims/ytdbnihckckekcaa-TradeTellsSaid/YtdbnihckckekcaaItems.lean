
/- items: what a slot holds of an item; whether it is a block; what a block gives. -/
import Derived.Test.YtdbnihckckekcaaCfg
set_option linter.unusedSimpArgs false
set_option linter.unusedVariables false
namespace Go.Proofs.Ytdbnihckckekcaa
open Go Go.RowKit Eng

/-- How many a slot holds. -/
def stackN (i : Int) : Int := if i < 1 then 0 else if i = 9 then 4 else if i = 12 then 1 else if i ≤ 12 then 16 else 0
/-- Is an item a block? -/
def blockB (i : Int) : Bool := decide (1 ≤ i) && decide (i ≤ 10) && !(decide (i = 6)) && !(decide (i = 8))

theorem u8_13 {i : Int} (h0 : 0 ≤ i) (h : i < 13) : i = 0 ∨ i = 1 ∨ i = 2 ∨ i = 3 ∨ i = 4 ∨ i = 5 ∨ i = 6 ∨ i = 7 ∨ i = 8 ∨ i = 9 ∨ i = 10 ∨ i = 11 ∨ i = 12 := by omega

set_option maxRecDepth 100000 in
theorem stack1_api (s : ByteArray) (n : Int) (b : AV) (hb : b = .tt ∨ b = .ff) (g : Int) : Api Try.prog 60 [.agg [.lit (.string s), .lit (.int .i64 n), b, .lit (.int .u8 g)]] (.lit (.int .i64 n)) := by
  rcases hb with rfl | rfl
  all_goals
    refine Api.of_ev cfg_ok Try.func60 rfl (nt := 4) rfl ?_
    conv => whnf
    exact ⟨Le.refl _, rfl⟩

set_option maxRecDepth 100000 in
theorem ofI_hi (i : Int) (h : 13 ≤ i) (h2 : i ≤ 255) : Api Try.prog 59 [.lit (.int .u8 i), .lit (.func (.func 60) #[] #[])] (.lit (.int .i64 0)) := by
  refine Api.of_ev cfg_ok Try.func59 rfl (nt := 29) rfl ?_
  conv => whnf
  refine .inl ⟨in64 (by omega) (by omega), ?_⟩
  conv => whnf
  refine ⟨fun h => ?_, fun h => absurd h (by simp; omega)⟩
  conv => whnf
  refine callApi (stack1_api _ _ _ (.inr rfl) _) rfl rfl ?_
  conv => whnf
  exact ⟨Le.refl _, rfl⟩

set_option maxRecDepth 100000 in
theorem ofI_lo (i : Int) (h : 0 ≤ i) (h2 : i < 13) : Api Try.prog 59 [.lit (.int .u8 i), .lit (.func (.func 60) #[] #[])] (.lit (.int .i64 (stackN i))) := by
  rcases u8_13 h h2 with rfl | rfl | rfl | rfl | rfl | rfl | rfl | rfl | rfl | rfl | rfl | rfl | rfl
  all_goals
    refine Api.of_ev cfg_ok Try.func59 rfl (nt := 29) rfl ?_
    conv => whnf
    refine .inl ⟨in64 (by omega) (by omega), ?_⟩
    conv => whnf
    refine ⟨fun h => absurd h (by decide), fun h => ?_⟩
    conv => whnf
    refine ⟨⟨by decide, by decide⟩, ?_⟩
    conv => whnf
    refine callApi (stack1_api _ _ _ (by first | exact .inl rfl | exact .inr rfl) _) rfl rfl ?_
    conv => whnf
    exact ⟨Le.refl _, rfl⟩

set_option maxRecDepth 100000 in
theorem stack_api (i : Int) (h : 0 ≤ i) (h2 : i ≤ 255) : Api Try.prog 42 [.lit (.int .u8 i)] (.lit (.int .i64 (stackN i))) := by
  refine Api.of_ev cfg_ok Try.func42 rfl (nt := 4) rfl ?_
  conv => whnf
  by_cases h3 : i < 13
  · refine callApi (ofI_lo i h h3) rfl rfl ?_
    conv => whnf
    exact ⟨Le.refl _, rfl⟩
  · refine callApi (ofI_hi i (by omega) h2) rfl rfl ?_
    conv => whnf
    refine ⟨Le.int ?_, rfl⟩
    unfold stackN
    rw [if_neg (by omega), if_neg (by omega), if_neg (by omega), if_neg (by omega)]

end Go.Proofs.Ytdbnihckckekcaa
