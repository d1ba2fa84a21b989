/- Wide numbers: walked. -/
import Derived.Test.YtklcooepolmemaaProg
import Derived.Test.YtklcooepolmemaaFoot
import Derived.Test.YtklcooepolmemaaStr
import Derived.Test.YtklcooepolmemaaLem
import Derived.Test.YtklcooepolmemaaOpen
import Derived.Laws.Externs
import Derived.Deep.QuietTactic
import Derived.BigQuiet
import Derived.BigRegion
import Derived.Outline
import Derived.RegionTactic
import Derived.ChangeAlike
namespace Go.Proofs.Ytklcooepolmemaa
open Go.RowKit Mem
def isInt (i : Int) : Prop := -9223372036854775808 ≤ i ∧ i ≤ 9223372036854775807
instance (i : Int) : Decidable (isInt i) := by unfold isInt; infer_instance
/-- The two halves of a number of 128 bits. -/
def lo (v : Int) : Int := v % 18446744073709551616
def hi (v : Int) : Int := (v / 18446744073709551616) % 18446744073709551616
theorem lo_add (v n : Int) : (lo v + lo n) % 18446744073709551616 = lo (v + n) := by unfold lo; omega
theorem hi_add (v n : Int) (hn : isInt n) : (hi v + lo (n / 9223372036854775808) + (lo v + lo n) / 18446744073709551616) % 18446744073709551616 = hi (v + n) := by
  unfold isInt at hn
  obtain ⟨a, r, ha, hr, hv⟩ : ∃ a r, v / 18446744073709551616 = a ∧ v % 18446744073709551616 = r ∧ v = 18446744073709551616 * a + r := ⟨_, _, rfl, rfl, by omega⟩
  have hr1 : 0 ≤ r ∧ r < 18446744073709551616 := by omega
  have h1 : hi v = a % 18446744073709551616 := by unfold hi; rw [ha]
  have h2 : lo v = r := hr
  rcases (show n < 0 ∨ 0 ≤ n by omega) with h | h
  · have e1 : lo n = n + 18446744073709551616 := by unfold lo; omega
    have e2 : lo (n / 9223372036854775808) = 18446744073709551615 := by
      rw [show n / 9223372036854775808 = -1 by omega]
      decide
    have e3 : (v + n) / 18446744073709551616 = a - 1 + (r + n + 18446744073709551616) / 18446744073709551616 := by rw [hv]; omega
    rw [h1, h2, e1, e2]
    unfold hi
    rw [e3]
    omega
  · have e1 : lo n = n := by unfold lo; omega
    have e2 : lo (n / 9223372036854775808) = 0 := by
      rw [show n / 9223372036854775808 = 0 by omega]
      decide
    have e3 : (v + n) / 18446744073709551616 = a + (r + n) / 18446744073709551616 := by rw [hv]; omega
    rw [h1, h2, e1, e2]
    unfold hi
    rw [e3]
    omega
set_option maxHeartbeats 1600000 in
theorem wadd_any (v n : Int) (hn : isInt n) (w : World) :
    Calls Try.prog 22 #[.agg #[.int .u64 (hi v), .int .u64 (lo v)], .int .i64 n] w fun e w' => e = .returned (.agg #[.int .u64 (hi (v + n)), .int .u64 (lo (v + n))]) ∧ Keeps (fun _ => False) w w' := by
  have hh : 0 ≤ hi v ∧ hi v < 18446744073709551616 := by unfold hi; omega
  have hl : 0 ≤ lo v ∧ lo v < 18446744073709551616 := by unfold lo; omega
  have hln : 0 ≤ lo n ∧ lo n < 18446744073709551616 := by unfold lo; omega
  have cv : ∀ n, IntKind.u64.wrap n = lo n := fun n => by
    unfold lo
    first | rfl | (rw [IntKind.wrap_u64]) | simp [IntKind.wrap, IntKind.signed, IntKind.bits]
  have hl2 : 0 ≤ lo (n / 9223372036854775808) := by unfold lo; omega
  have hc : 0 ≤ (lo v + lo n) / 18446744073709551616 ∧ (lo v + lo n) / 18446744073709551616 ≤ 1 := by omega
  go_enter Try.func22, Try.ntmps22
  go_wp2
  rw [run_callFunc_extern Try.func33 (by kernel_rfl) (by kernel_rfl) (by kernel_rfl) (e := add64Entry) (by kernel_rfl), run_add64 (lo v) (lo n) 0 hl.1 hln.1 (by decide) (by decide)]
  simp only [Result.andThen]
  rw [Oper.upon_value]
  go_wp2
  rw [run_callFunc_extern Try.func33 (by kernel_rfl) (by kernel_rfl) (by kernel_rfl) (e := add64Entry) (by kernel_rfl), run_add64 (hi v) (lo (n / 9223372036854775808)) ((lo v + lo n) / 18446744073709551616) hh.1 hl2 hc.1 hc.2]
  simp only [Result.andThen]
  rw [Oper.upon_value]
  rw [hi_add v n hn]
  go_wp2
  have hb : Blk ((w.alloc (.cells #[.int .u64 (hi v), .int .u64 (lo v)] 62)).alloc (.cells #[.int .u64 (hi (v + n)), .int .u64 ((lo v + lo n) % 18446744073709551616)] 62)) (w.heap.size + 1) 62 #[.int .u64 (hi (v + n)), .int .u64 ((lo v + lo n) % 18446744073709551616)] := Blk.new _ 62 _ _ (by simp)
  (try simp only [Exit.inBlock, Exit.then])
  refine bodyPost_ret (results_cell_row rfl _ _ (w.heap.size + 1) 62 #[.int .u64 (hi (v + n)), .int .u64 ((lo v + lo n) % 18446744073709551616)] (0, 0) _ rfl hb Try.underlying62 rfl (by kernel_rfl)) rfl ?_
  rw [lo_add]
  exact ⟨rfl, ((Keeps.refl (fun _ => False) w).alloc _).alloc _⟩
theorem small_yes {v : Int} (h : isInt v) : IntKind.i64.wrap (lo v) = v ∧ hi v = lo (v / 9223372036854775808) := by
  unfold isInt at h
  rw [IntKind.wrap_i64]
  unfold hi lo
  constructor
  · omega
  · rcases (show v < 0 ∨ 0 ≤ v by omega) with h' | h'
    · rw [show v / 9223372036854775808 = -1 by omega, show v / 18446744073709551616 = -1 by omega]
    · rw [show v / 9223372036854775808 = 0 by omega, show v / 18446744073709551616 = 0 by omega]
theorem small_no {v : Int} (h : ¬ isInt v) (h1 : -85070591730234615865843651857942052864 ≤ v) (h2 : v ≤ 85070591730234615865843651857942052864) : hi v ≠ lo (IntKind.i64.wrap (lo v) / 9223372036854775808) := by
  unfold isInt at h
  rw [IntKind.wrap_i64]
  obtain ⟨a, r, ha, hr, hv⟩ : ∃ a r, v / 18446744073709551616 = a ∧ v % 18446744073709551616 = r ∧ v = 18446744073709551616 * a + r := ⟨_, _, rfl, rfl, by omega⟩
  have e1 : hi v = a % 18446744073709551616 := by unfold hi; rw [ha]
  have e2 : lo v = r := hr
  have hr1 : 0 ≤ r ∧ r < 18446744073709551616 := by omega
  rw [e1, e2]
  rcases (show r < 9223372036854775808 ∨ 9223372036854775808 ≤ r by omega) with h' | h'
  · rw [show (r + 9223372036854775808) % 18446744073709551616 - 9223372036854775808 = r by omega, show r / 9223372036854775808 = 0 by omega]
    unfold lo
    omega
  · rw [show (r + 9223372036854775808) % 18446744073709551616 - 9223372036854775808 = r - 18446744073709551616 by omega, show (r - 18446744073709551616) / 9223372036854775808 = -1 by omega]
    unfold lo
    omega
set_option maxHeartbeats 1600000 in
theorem small_any (v : Int) (h1 : -85070591730234615865843651857942052864 ≤ v) (h2 : v ≤ 85070591730234615865843651857942052864) (w : World) :
    Calls Try.prog 23 #[.agg #[.int .u64 (hi v), .int .u64 (lo v)]] w fun e w' => ∃ n, e = .returned (.tuple #[.int .i64 n, .bool (decide (isInt v))]) ∧ (isInt v → n = v) ∧ Keeps (fun _ => False) w w' := by
  have cv : ∀ n, IntKind.u64.wrap n = lo n := fun n => by
    unfold lo
    first | rfl | (rw [IntKind.wrap_u64]) | simp [IntKind.wrap, IntKind.signed, IntKind.bits]
  obtain ⟨m, hm⟩ : ∃ m, m = IntKind.i64.wrap (lo v) := ⟨_, rfl⟩
  have hte : (hi v == lo (m / 9223372036854775808)) = decide (isInt v) := by
    rw [hm]
    by_cases h : isInt v
    · rw [decide_eq_true h, (small_yes h).1, (small_yes h).2]
      simp
    · rw [decide_eq_false h]
      have := small_no h h1 h2
      simpa using this
  have hmv : isInt v → m = v := fun h => by rw [hm]; exact (small_yes h).1
  have hm' : IntKind.i64.wrap (lo v) = m := hm.symm
  have HMV := Lib.hid hmv
  clear hmv hm
  go_enter Try.func23, Try.ntmps23
  go_wp2_with fail
  go_quiet (fail)
  go_wp2_with fail
  go_ret2
  exact ⟨m, rfl, HMV.out, ((Keeps.refl (fun _ => False) w).alloc _).drewN nq⟩
end Go.Proofs.Ytklcooepolmemaa
