/- An entry counted: walked. -/
import Derived.Test.YtbobmilbcbileaaW3
namespace Go.Proofs.Ytbobmilbcbileaa
open Go.RowKit Mem
set_option maxHeartbeats 3200000 in
theorem count_neg_no (no : Int) (T : List T6) (b n c base i : Nat) (a : Int) (t : T6) (w : World) (ho : Own total w base 41 (.slice (some ⟨b, 0, none⟩) n c) T) (hi : T[i]? = some t) (hin : i < n) (_hn : n ≤ 7) (ha : a < 0) (ha' : isInt a) (ht : isT t) (hs : ¬ isInt (t.ds - a)) :
    Calls Try.prog 25 #[.agg #[.int .i64 no, .slice (some ⟨b, 0, none⟩) n c], .agg #[.int .i64 i, .int .i64 a]] w fun e w' => e = .returned (.int .i64 100) ∧ (∃ t', Own total w' base 41 (.slice (some ⟨b, 0, none⟩) n c) (T.set i t')) ∧ Keeps (fun k => k = b) w w' := by
  have hlen : T.length = n := ho.len_eq rfl
  have q := tot_at ho hi
  have hbl : b < w.heap.size := ho.lt rfl
  have fr := fun j => ho.frozen j
  obtain ⟨q0, q1, q2, q3, q4, q5⟩ := q
  have HO := Lib.hid ho
  have HI := Lib.hid hi
  have HLN := Lib.hid hlen
  obtain ⟨ht1, ht2⟩ := ht
  clear ho hi hlen
  have f2 := fr (i * 6 + 2)
  clear fr
  go_enter Try.func25, Try.ntmps25
  go_wp2_with fail
  obtain ⟨w3, hw3⟩ : ∃ w3, w3 = ((w.setCell ⟨b, i * 6 + 2, none⟩ (.int .i64 (wrap64 (t.debits + 1)))).alloc (.cells #[.int .i64 no, .slice (some ⟨b, 0, none⟩) n c] 61)).alloc (.cells #[.int .i64 i, .int .i64 a] 34) := ⟨_, rfl⟩
  rw [← hw3]
  have o3 : Own total w3 base 41 (.slice (some ⟨b, 0, none⟩) n c) (T.set i ({ t with debits := wrap64 (t.debits + 1) })) := by
    rw [hw3]
    exact ((HO.out.store (j := 2) (y := { t with debits := wrap64 (t.debits + 1) }) (u := .int .i64 (wrap64 (t.debits + 1))) HI.out (by decide) rfl).alloc _).alloc _
  have b3 : Blk w3 (w.heap.size + 1) 34 #[.int .i64 i, .int .i64 a] := by
    rw [hw3]
    exact Blk.new _ 34 _ _ (by simp)
  have k3 : Keeps (fun k => k = b) w w3 := by
    rw [hw3]
    exact (((Keeps.refl (fun k => k = b) w).setCell ⟨b, i * 6 + 2, none⟩ _ (fun _ => rfl)).alloc _).alloc _
  have hil : i < T.length := by rw [HLN.out]; exact hin
  have r := tot_at o3 (List.getElem?_set_self hil)
  obtain ⟨r0, r1, r2, r3, r4, r5⟩ := r
  have g4 := o3.frozen (i * 6 + 4)
  have e0 := b3.cell 0
  have e1 := b3.cell 1
  simp at e0 e1 r3 r4 r5
  have O3 := Lib.hid o3
  have K3 := Lib.hid k3
  have B3 := Lib.hid b3
  clear o3 k3 b3 hw3 q0 q1 q2 q3 q4 q5 f2 r0 r1 r2
  go_region_with (go_at_call 30; refine (sub_no _ a ht2 ha' hs w3.drew).mono ?_
                  rintro e w4 ⟨rfl, hw4⟩
                  subst hw4)
  all_goals
    go_wp2_with fail
    obtain ⟨w5, hw5⟩ : ∃ w5, w5 = (w3.setCell ⟨b, i * 6 + 4, none⟩ (.int .i64 0)).drew := ⟨_, rfl⟩
    rw [← hw5]
    have o5 : Own total w5 base 41 (.slice (some ⟨b, 0, none⟩) n c) (T.set i ({ t with debits := wrap64 (t.debits + 1), ds := 0 })) := by
      rw [hw5]
      have h := O3.out.store (j := 4) (y := { t with debits := wrap64 (t.debits + 1), ds := 0 }) (u := .int .i64 0) (List.getElem?_set_self hil) (by decide) rfl
      rw [List.set_set] at h
      exact h.drew
    have k5 : Keeps (fun k => k = b) w w5 := by
      rw [hw5]
      exact (K3.out.setCell ⟨b, i * 6 + 4, none⟩ _ (fun _ => rfl)).drew
    have r := tot_at o5 (List.getElem?_set_self hil)
    obtain ⟨r0, r1, r2, r3', r4', r5'⟩ := r
    have g5 := o5.frozen (i * 6 + 5)
    simp at r3' r4' r5'
    have O5 := Lib.hid o5
    have K5 := Lib.hid k5
    clear o5 k5 hw5 r0 r1 r2
    go_region
    all_goals
      go_wp2_with fail
      go_ret
      have h := fun z => net_set O5.out hil z
      refine ⟨rfl, ⟨_, (h _).drew⟩, (K5.out.setCell ⟨b, i * 6 + 5, none⟩ _ (fun _ => rfl)).drew⟩
end Go.Proofs.Ytbobmilbcbileaa
