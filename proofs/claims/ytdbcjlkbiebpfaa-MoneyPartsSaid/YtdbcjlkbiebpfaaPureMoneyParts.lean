/- A fee without ends is within half a coin of the exact share (a half goes to the even one), that of all parts is the whole and that of none is nought: for every parts and amount. -/
import Derived.Test.YtdbcjlkbiebpfaaPMoneyPartsx1
import Derived.Test.YtdbcjlkbiebpfaaLem
import Derived.Test.YtdbcjlkbiebpfaaFee
namespace Go.Proofs.Ytdbcjlkbiebpfaa.Pure
open Go.RowKit Go.Proofs.Ytdbcjlkbiebpfaa.PMoneyParts Go.Proofs.Ytdbcjlkbiebpfaa.Lem Go.Proofs.YtdbcjlkbiebpfaaW.PrintWords Go.Proofs.YtdbcjlkbiebpfaaW.PrintLast Go.Proofs.YtdbcjlkbiebpfaaW.PrintMore

theorem shown_true : groatlaw10_shown.f 9 = some true := by decide +kernel

theorem check_spec (p l m : Int) : money_Check.f p l m = some (if rateOK p l m then 0 else 101) := by
  unfold money_Check.f
  by_cases h : rateOK p l m
  · rw [if_pos h]
    obtain ⟨h1, h2, h3, h4, h5⟩ := h
    rw [if_neg (by omega), if_neg (by omega), if_neg (by omega), if_neg (by omega), if_neg (by omega)]
  · rw [if_neg h]
    unfold rateOK at h
    repeat' split
    all_goals first | rfl | omega

theorem fee_spec (k : Nat) {p l m a : Int} : money_Fee.f (k + 1) p l m a = some (feeAll p l m a) := by
  unfold money_Fee.f feeAll
  rw [check_spec]
  simp only [Option.bind_some]
  by_cases hr : rateOK p l m
  · rw [if_pos hr, if_pos rfl, if_pos hr]
    by_cases h0 : a < 0
    · rw [if_pos h0, if_pos (Or.inl h0)]
      rfl
    · rw [if_neg h0]
      by_cases h1 : a > 999999999999
      · rw [if_pos (Or.inr h1), decide_eq_true h1]
        rfl
      · rw [if_neg (by omega), decide_eq_false h1]
        have hx := prod_range hr (show 0 ≤ a by omega) (show a ≤ 999999999999 by omega)
        simp only [money_Fee.j0]
        rw [if_neg (by decide), wrap_in (by omega) (by omega), Int.tmod_eq_emod_of_nonneg hx.1, Int.tdiv_eq_ediv_of_nonneg hx.1]
        unfold fee rnd
        generalize a * p = x at *
        rw [wrap_in (n := x / 10000) (by omega) (by omega), wrap_in (n := x / 10000 + 1) (by omega) (by omega), Int.tmod_eq_emod_of_nonneg (by omega)]
        by_cases c1 : x % 10000 = 5000
        · rw [if_pos c1]
          by_cases c2 : x / 10000 % 2 = 0
          · rw [if_pos c2, if_pos c1, if_pos c2]; rfl
          · rw [if_neg c2, if_pos c1, if_neg c2]; rfl
        · rw [if_neg c1]
          by_cases c2 : x % 10000 > 5000
          · rw [if_pos c2, if_neg c1, if_pos c2]; rfl
          · rw [if_neg c2, if_neg c1, if_neg c2]; rfl
  · rw [if_neg hr, if_neg (by decide), if_neg hr]

theorem MoneyParts : groatlaw10_MoneyParts.Pure := by
  intro p a wp wa
  refine ⟨9, ?_⟩
  unfold groatlaw10_MoneyParts.f
  rw [shown_true]
  simp only [Option.bind_some]
  by_cases h0 : p < 0
  · rw [if_pos h0]; rfl
  rw [if_neg h0]
  by_cases h1 : p > 10000
  · rw [if_pos h1]; rfl
  rw [if_neg h1]
  by_cases h2 : a < 0
  · rw [if_pos h2]; rfl
  rw [if_neg h2]
  by_cases h3 : a > 999999999999
  · rw [decide_eq_true h3]; rfl
  rw [decide_eq_false h3]
  have r1 : rateOK p 0 999999999999 := ⟨by omega, by omega, by omega, by omega, by omega⟩
  have r2 : rateOK 10000 0 999999999999 := ⟨by omega, by omega, by omega, by omega, by omega⟩
  have r3 : rateOK 0 0 0 := ⟨by omega, by omega, by omega, by omega, by omega⟩
  have e0 : 0 ≤ a := by omega
  have e1 : a ≤ 999999999999 := by omega
  have f1 := fee_free r1 e0 e1
  have f2 := fee_free r2 e0 e1
  have f3 : fee 0 0 0 a = 0 := by
    unfold fee mnI mxI
    rw [Int.mul_zero]
    have : rnd 0 = 0 := by decide
    rw [this]
    simp
    omega
  have g2 : rnd (a * 10000) = a := by unfold rnd; rw [if_neg (by omega), if_neg (by omega)]; omega
  simp only [groatlaw10_MoneyParts.j0, Bool.false_eq_true, if_false]
  rw [fee_spec, fee_spec, fee_spec, feeAll_ok r1 e0 e1, feeAll_ok r2 e0 e1, feeAll_ok r3 e0 e1, f1, f2, f3, g2]
  simp only [Option.bind_some, if_true]
  have hx := prod_range r1 e0 e1
  have hr := rnd_near hx.1
  generalize a * p = x at *
  generalize rnd x = n at *
  have hn : 0 ≤ n ∧ n ≤ 1000000000000 := by omega
  have e2 : wrap64 (n * 10000) = n * 10000 := wrap_in (by omega) (by omega)
  have e3 : wrap64 x = x := wrap_in (by omega) (by omega)
  have e4 : wrap64 (x - n * 10000) = x - n * 10000 := wrap_in (by omega) (by omega)
  have e5 : wrap64 (2 * (x - n * 10000)) = 2 * (x - n * 10000) := wrap_in (by omega) (by omega)
  rw [e2, e3, e4, e5, Int.tmod_eq_emod_of_nonneg hn.1]
  rw [if_pos (by omega), if_pos (by omega)]
  by_cases c1 : 2 * (x - n * 10000) = 10000
  · rw [if_pos c1, if_pos (by omega)]; rfl
  · rw [if_neg c1]
    by_cases c2 : 2 * (x - n * 10000) = -10000
    · rw [if_pos c2, if_pos (by omega)]; rfl
    · rw [if_neg c2]; rfl

end Go.Proofs.Ytdbcjlkbiebpfaa.Pure
