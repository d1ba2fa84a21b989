/- The fee's plain laws: what the program's Fee tells, as one plain function. -/
import Derived.Test.YtdbcjlkbiebpfaaPMoneyRisesx1
import Derived.Test.YtdbcjlkbiebpfaaLem
import Derived.Test.YtdbcjlkbiebpfaaFee
namespace Go.Proofs.Ytdbcjlkbiebpfaa.Pure
open Go.RowKit Go.Proofs.Ytdbcjlkbiebpfaa.PMoneyRises Go.Proofs.Ytdbcjlkbiebpfaa.Lem Go.Proofs.YtdbcjlkbiebpfaaW.PrintWords Go.Proofs.YtdbcjlkbiebpfaaW.PrintLast Go.Proofs.YtdbcjlkbiebpfaaW.PrintMore

theorem shown_true : groatlaw10_shown.f 9 = some true := by decide +kernel

theorem check_spec (p l m : Int) : money_Check.f p l m = some (if rateOK p l m then 0 else 101) := by
  unfold money_Check.f
  by_cases h : rateOK p l m
  · rw [if_pos h]
    obtain ⟨h1, h2, h3, h4, h5⟩ := h
    rw [if_neg (by omega), if_neg (by omega), if_neg (by omega), if_neg (by omega), if_neg (by omega)]
  · rw [if_neg h]
    unfold rateOK at h
    repeat' split
    all_goals first | rfl | omega

theorem fee_spec (k : Nat) {p l m a : Int} : money_Fee.f (k + 1) p l m a = some (feeAll p l m a) := by
  unfold money_Fee.f feeAll
  rw [check_spec]
  simp only [Option.bind_some]
  by_cases hr : rateOK p l m
  · rw [if_pos hr, if_pos rfl, if_pos hr]
    by_cases h0 : a < 0
    · rw [if_pos h0, if_pos (Or.inl h0)]
      rfl
    · rw [if_neg h0]
      by_cases h1 : a > 999999999999
      · rw [if_pos (Or.inr h1), decide_eq_true h1]
        rfl
      · rw [if_neg (by omega), decide_eq_false h1]
        have hx := prod_range hr (show 0 ≤ a by omega) (show a ≤ 999999999999 by omega)
        simp only [money_Fee.j0]
        rw [if_neg (by decide), wrap_in (by omega) (by omega), Int.tmod_eq_emod_of_nonneg hx.1, Int.tdiv_eq_ediv_of_nonneg hx.1]
        unfold fee rnd
        generalize a * p = x at *
        rw [wrap_in (n := x / 10000) (by omega) (by omega), wrap_in (n := x / 10000 + 1) (by omega) (by omega), Int.tmod_eq_emod_of_nonneg (by omega)]
        by_cases c1 : x % 10000 = 5000
        · rw [if_pos c1]
          by_cases c2 : x / 10000 % 2 = 0
          · rw [if_pos c2, if_pos c1, if_pos c2]; rfl
          · rw [if_neg c2, if_pos c1, if_neg c2]; rfl
        · rw [if_neg c1]
          by_cases c2 : x % 10000 > 5000
          · rw [if_pos c2, if_neg c1, if_pos c2]; rfl
          · rw [if_neg c2, if_neg c1, if_neg c2]; rfl
  · rw [if_neg hr, if_neg (by decide), if_neg hr]

end Go.Proofs.Ytdbcjlkbiebpfaa.Pure
