/- A checked sum may change its sides, a difference undoes it, and three may be put together either way where no part passes: for every three int64. -/
import Derived.Test.YtdbcjlkbiebpfaaPMoneyUndoesx2
import Derived.Test.YtdbcjlkbiebpfaaLem
import Derived.Test.YtdbcjlkbiebpfaaFee
namespace Go.Proofs.Ytdbcjlkbiebpfaa.Pure
open Go.RowKit Go.Proofs.Ytdbcjlkbiebpfaa.PMoneyUndoes Go.Proofs.Ytdbcjlkbiebpfaa.Lem Go.Proofs.YtdbcjlkbiebpfaaW.PrintWords Go.Proofs.YtdbcjlkbiebpfaaW.PrintLast Go.Proofs.YtdbcjlkbiebpfaaW.PrintMore

theorem add_spec {a b : Int} (ha : -9223372036854775808 ≤ a ∧ a ≤ 9223372036854775807) (hb : -9223372036854775808 ≤ b ∧ b ≤ 9223372036854775807) :
    money_Add.f a b = some (if -9223372036854775808 ≤ a + b ∧ a + b ≤ 9223372036854775807 then (a + b, 0) else (0, 100)) := by
  unfold money_Add.f
  by_cases h : -9223372036854775808 ≤ a + b ∧ a + b ≤ 9223372036854775807
  · rw [if_pos ((add_test a b ha.1 ha.2 hb.1 hb.2).2 h), if_pos h, wrap_in h.1 h.2]
  · rw [if_neg (fun h' => h ((add_test a b ha.1 ha.2 hb.1 hb.2).1 h')), if_neg h]

theorem sub_spec {a b : Int} (ha : -9223372036854775808 ≤ a ∧ a ≤ 9223372036854775807) (hb : -9223372036854775808 ≤ b ∧ b ≤ 9223372036854775807) :
    money_Sub.f a b = some (if -9223372036854775808 ≤ a - b ∧ a - b ≤ 9223372036854775807 then (a - b, 0) else (0, 100)) := by
  unfold money_Sub.f
  by_cases h : -9223372036854775808 ≤ a - b ∧ a - b ≤ 9223372036854775807
  · rw [if_pos ((sub_test a b ha.1 ha.2 hb.1 hb.2).2 h), if_pos h, wrap_in h.1 h.2]
  · rw [if_neg (fun h' => h ((sub_test a b ha.1 ha.2 hb.1 hb.2).1 h')), if_neg h]

theorem shown_true : groatlaw10_shown.f 9 = some true := by decide +kernel

theorem MoneyUndoes : groatlaw10_MoneyUndoes.Pure := by
  intro a b c wa wb wc
  have ha := wf_range wa
  have hb := wf_range wb
  have hc := wf_range wc
  refine ⟨9, ?_⟩
  unfold groatlaw10_MoneyUndoes.f
  rw [shown_true, add_spec ha hb, add_spec hb ha, Int.add_comm b a]
  simp only [Option.bind_some, if_true, bne_self_eq_false]
  simp only [groatlaw10_MoneyUndoes.j0, Bool.false_eq_true, if_false]
  by_cases h1 : -9223372036854775808 ≤ a + b ∧ a + b ≤ 9223372036854775807
  · have e1 : a + b - b = a := by omega
    have e2 : a + b - a = b := by omega
    simp only [if_pos h1, if_true]
    rw [sub_spec h1 hb, sub_spec h1 ha, e1, e2]
    simp only [if_pos ha, if_pos hb, Option.bind_some, if_true, groatlaw10_MoneyUndoes.j1]
    rw [add_spec hb hc]
    by_cases h2 : -9223372036854775808 ≤ b + c ∧ b + c ≤ 9223372036854775807
    · simp only [if_pos h2, Option.bind_some, bne_self_eq_false, groatlaw10_MoneyUndoes.j2, Bool.false_eq_true, if_false]
      rw [add_spec h1 hc, add_spec ha h2, Int.add_assoc]
      simp
    · simp only [if_neg h2, Option.bind_some, groatlaw10_MoneyUndoes.j2]
      rfl
  · simp only [if_neg h1]
    rw [if_neg (by decide)]
    simp only [groatlaw10_MoneyUndoes.j1]
    rw [add_spec hb hc]
    simp only [Option.bind_some]
    rw [if_neg (by decide)]
    rfl

end Go.Proofs.Ytdbcjlkbiebpfaa.Pure
