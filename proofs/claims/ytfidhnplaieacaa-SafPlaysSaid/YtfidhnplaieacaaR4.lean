/- Two messages of the same fields: walked. -/
import Derived.Test.YtfidhnplaieacaaR3
namespace Go.Proofs.Ytfidhnplaieacaa
open Go.RowKit Mem
set_option maxHeartbeats 3200000 in
theorem same_msg (ty : Int) (A1 : Option Addr) (n c1 : Nat) (A2 : Option Addr) (c2 : Nat) (fs : List FD) (w : World) (h1 : Reads fld w A1 n fs) (h2 : Reads fld w A2 n fs) (hn : n ≤ 9223372036854775807) :
    Calls Try.prog 24 #[.agg #[.int .i64 ty, .slice A1 n c1], .agg #[.int .i64 ty, .slice A2 n c2]] w fun e w' => e = .returned (.bool true) ∧ Keeps (fun _ => False) w w' := by
  obtain ⟨w1, hw1⟩ : ∃ w1, w1 = (w.alloc (.cells #[.int .i64 ty, .slice A1 n c1] 32)).alloc (.cells #[.int .i64 ty, .slice A2 n c2] 32) := ⟨_, rfl⟩
  have k1 : Keeps (fun _ => False) w w1 := by rw [hw1]; exact ((Keeps.refl _ w).alloc _).alloc _
  have x1 : Blk w1 w.heap.size 32 #[.int .i64 ty, .slice A1 n c1] := by rw [hw1]; exact (Blk.new w 32 _ _ rfl).alloc _
  have y1 : Blk w1 (w.heap.size + 1) 32 #[.int .i64 ty, .slice A2 n c2] := by rw [hw1]; exact Blk.new _ 32 _ _ (by simp)
  have p0 := x1.cell 0
  have p1 := x1.cell 1
  have q0 := y1.cell 0
  have q1 := y1.cell 1
  simp at p0 p1 q0 q1
  have R1 := Lib.hid (h1.keeps k1 (fun _ _ _ h => h))
  have R2 := Lib.hid (h2.keeps k1 (fun _ _ _ h => h))
  have HL := Lib.hid h1.1
  have K1 := Lib.hid k1
  have HW := Lib.hid hw1
  clear h1 h2 k1 x1 y1 hw1
  go_enter Try.func24, Try.ntmps24
  go_upto_region 1 with fail
  rw [← HW.out]
  go_wp2_with fail
  go_loopw [5] (fun v wr => ∃ k q : Nat, k ≤ n ∧ v = .int .i64 k ∧ wr = w1.drewN q) (fun v _ => n - (intOf v).toNat)
  case atStart => exact ⟨0, 0, Nat.zero_le _, rfl, rfl⟩
  case round =>
    obtain ⟨k, q, hk, rfl, hwr⟩ := hrel
    subst hwr
    by_cases hkn : k < n
    · obtain ⟨f, hf⟩ : ∃ f, fs[k]? = some f := ⟨_, List.getElem?_eq_getElem (by rw [HL.out]; exact hkn)⟩
      obtain ⟨a1, hA1, hc1⟩ := R1.out.at_ hf
      obtain ⟨a2, hA2, hc2⟩ := R2.out.at_ hf
      subst hA1 hA2
      have u0 := hc1 0 _ rfl
      have u1 := hc1 1 _ rfl
      have v0 := hc2 0 _ rfl
      have v1 := hc2 1 _ rfl
      simp [fld] at u0 u1 v0 v1
      rw [← add_add, add_pos _ (by decide : 0 < 1)] at u1 v1
      have el := elem31
      clear hc1 hc2 hf
      go_wp2_with fail
      go_quiet (fail)
      go_wp2_with fail
      exact ⟨⟨k + 1, _, by omega, by go_num, rfl⟩, by simp [intOf]; omega⟩
    · go_wp2_with fail
      go_ret
      exact ⟨rfl, K1.out.drewN _⟩
end Go.Proofs.Ytfidhnplaieacaa
