/- Sums and differences of two int64 are checked by the program just as the document's reference checks them: for every two numbers. -/
import Derived.Test.YtdbcjlkbiebpfaaPMoneySumsx1
import Derived.Test.YtdbcjlkbiebpfaaLem
namespace Go.Proofs.Ytdbcjlkbiebpfaa.Pure
open Go.RowKit Go.Proofs.Ytdbcjlkbiebpfaa.PMoneySums Go.Proofs.Ytdbcjlkbiebpfaa.Lem Go.Proofs.YtdbcjlkbiebpfaaW.PrintWords Go.Proofs.YtdbcjlkbiebpfaaW.PrintLast

theorem add_spec {a b : Int} (ha : -9223372036854775808 ≤ a ∧ a ≤ 9223372036854775807) (hb : -9223372036854775808 ≤ b ∧ b ≤ 9223372036854775807) :
    money_Add.f a b = some (if -9223372036854775808 ≤ a + b ∧ a + b ≤ 9223372036854775807 then (a + b, 0) else (0, 100)) := by
  unfold money_Add.f
  by_cases h : -9223372036854775808 ≤ a + b ∧ a + b ≤ 9223372036854775807
  · rw [if_pos ((add_test a b ha.1 ha.2 hb.1 hb.2).2 h), if_pos h, wrap_in h.1 h.2]
  · rw [if_neg (fun h' => h ((add_test a b ha.1 ha.2 hb.1 hb.2).1 h')), if_neg h]

theorem sub_spec {a b : Int} (ha : -9223372036854775808 ≤ a ∧ a ≤ 9223372036854775807) (hb : -9223372036854775808 ≤ b ∧ b ≤ 9223372036854775807) :
    money_Sub.f a b = some (if -9223372036854775808 ≤ a - b ∧ a - b ≤ 9223372036854775807 then (a - b, 0) else (0, 100)) := by
  unfold money_Sub.f
  by_cases h : -9223372036854775808 ≤ a - b ∧ a - b ≤ 9223372036854775807
  · rw [if_pos ((sub_test a b ha.1 ha.2 hb.1 hb.2).2 h), if_pos h, wrap_in h.1 h.2]
  · rw [if_neg (fun h' => h ((sub_test a b ha.1 ha.2 hb.1 hb.2).1 h')), if_neg h]

theorem ref_add {a b : Int} (ha : -9223372036854775808 ≤ a ∧ a ≤ 9223372036854775807) (hb : -9223372036854775808 ≤ b ∧ b ≤ 9223372036854775807) :
    groatref10_Add.f a b = some (if -9223372036854775808 ≤ a + b ∧ a + b ≤ 9223372036854775807 then (a + b, 0) else (0, 100)) := by
  unfold groatref10_Add.f wrap64
  by_cases h : -9223372036854775808 ≤ a + b ∧ a + b ≤ 9223372036854775807
  · rw [if_pos h]
    repeat' split
    all_goals first | omega | (congr 2; omega)
  · rw [if_neg h]
    repeat' split
    all_goals first | omega | rfl

theorem ref_sub {a b : Int} (ha : -9223372036854775808 ≤ a ∧ a ≤ 9223372036854775807) (hb : -9223372036854775808 ≤ b ∧ b ≤ 9223372036854775807) :
    groatref10_Sub.f a b = some (if -9223372036854775808 ≤ a - b ∧ a - b ≤ 9223372036854775807 then (a - b, 0) else (0, 100)) := by
  unfold groatref10_Sub.f wrap64
  by_cases h : -9223372036854775808 ≤ a - b ∧ a - b ≤ 9223372036854775807
  · rw [if_pos h]
    repeat' split
    all_goals first | omega | (congr 2; omega)
  · rw [if_neg h]
    repeat' split
    all_goals first | omega | rfl

theorem shown_true : groatlaw10_shown.f 9 = some true := by decide +kernel

theorem MoneySums : groatlaw10_MoneySums.Pure := by
  intro a b wa wb
  have ha := wf_range wa
  have hb := wf_range wb
  refine ⟨9, ?_⟩
  unfold groatlaw10_MoneySums.f
  rw [shown_true, add_spec ha hb, ref_add ha hb, sub_spec ha hb, ref_sub ha hb]
  simp

end Go.Proofs.Ytdbcjlkbiebpfaa.Pure
