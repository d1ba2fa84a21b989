/- An entry counted: walked. -/
import Derived.Test.YtbobmilbcbileaaW3
namespace Go.Proofs.Ytbobmilbcbileaa
open Go.RowKit Mem
set_option maxHeartbeats 3200000 in
theorem count_zero (no : Int) (T : List T6) (b n c base i : Nat) (a : Int) (t : T6) (w : World) (ho : Own total w base 41 (.slice (some ⟨b, 0, none⟩) n c) T) (hi : T[i]? = some t) (hin : i < n) (_hn : n ≤ 7) (ha : a = 0) :
    Calls Try.prog 25 #[.agg #[.int .i64 no, .slice (some ⟨b, 0, none⟩) n c], .agg #[.int .i64 i, .int .i64 a]] w fun e w' => e = .returned (.int .i64 0) ∧ Own total w' base 41 (.slice (some ⟨b, 0, none⟩) n c) (T.set i (step1 t a)) ∧ Keeps (fun k => k = b) w w' := by
  subst ha
  have hlen : T.length = n := ho.len_eq rfl
  have hbl : b < w.heap.size := ho.lt rfl
  have HI := Lib.hid hi
  have hil : i < T.length := by omega
  obtain ⟨w3, hw3⟩ : ∃ w3, w3 = (w.alloc (.cells #[.int .i64 no, .slice (some ⟨b, 0, none⟩) n c] 61)).alloc (.cells #[.int .i64 i, .int .i64 0] 34) := ⟨_, rfl⟩
  have o3 : Own total w3 base 41 (.slice (some ⟨b, 0, none⟩) n c) (T.set i t) := by
    rw [hw3, show T.set i t = T from by rw [← (List.getElem?_eq_some_iff.1 hi).2, List.set_getElem_self]]
    exact (ho.alloc _).alloc _
  have k3 : Keeps (fun k => k = b) w w3 := by
    rw [hw3]
    exact ((Keeps.refl (fun k => k = b) w).alloc _).alloc _
  have r := tot_at o3 (List.getElem?_set_self hil)
  obtain ⟨r0, r1, r2, r3, r4, r5⟩ := r
  have g5 := o3.frozen (i * 6 + 5)
  have O3 := Lib.hid o3
  have K3 := Lib.hid k3
  have hW := Lib.hid hw3
  have HLN := Lib.hid hlen
  clear o3 k3 hw3 r0 r1 r2 ho hi hlen
  go_enter Try.func25, Try.ntmps25
  go_wp2_with fail
  rw [← hW.out]
  go_region
  all_goals
    go_wp2_with fail
    go_ret
    have h := fun z => net_set O3.out hil z
    refine ⟨rfl, (by rw [show step1 t 0 = { t with net := wrap64 (t.cs - t.ds) } from rfl]; first | exact (h _).drew | (rw [wrap_eq]; exact (h _).drew)), (K3.out.setCell ⟨b, i * 6 + 5, none⟩ _ (fun _ => rfl)).drew⟩
end Go.Proofs.Ytbobmilbcbileaa
