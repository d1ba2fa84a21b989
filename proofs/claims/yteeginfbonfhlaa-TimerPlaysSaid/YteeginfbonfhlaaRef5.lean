/- The document's timers: Due: walked. -/
import Derived.Test.YteeginfbonfhlaaRef4
namespace Go.Proofs.Yteeginfbonfhlaa
open Go.RowKit Mem
section
variable {w w' : World} {G : Nat → Prop} {g : Nat} {c : Int} {L : List DU}
theorem rf_at {w w2 : World} {A : Option Addr} {n cp : Nat} (T : RS w g A n cp c L) (hG : ∀ q, G q ↔ rfoot g A q) (K2 : Keeps (fun _ => False) w w2) {A2 : Option Addr} {n2 cp2 : Nat} {L2 : List DU} (o2 : Own due w2 w.heap.size 34 (.slice A2 n2 cp2) L2) :
    RF (w2.setCell ⟨g, 1, none⟩ (.slice A2 n2 cp2)) (rfoot g A2) g c L2 ∧ Step G (rfoot g A2) w (w2.setCell ⟨g, 1, none⟩ (.slice A2 n2 cp2)) := by
  have t2 := T.keep0 K2
  have k3 : Keeps (fun q => q = g) w2 (w2.setCell ⟨g, 1, none⟩ (.slice A2 n2 cp2)) := (Keeps.refl (fun q => q = g) w2).setCell _ _ (fun _ => rfl)
  have o3 := o2.keeps k3 (fun q hq e => by rw [e] at hq; exact o2.blk_ne t2.box (by decide) hq)
  have rs : RS (w2.setCell ⟨g, 1, none⟩ (.slice A2 n2 cp2)) g A2 n2 cp2 c L2 := ⟨t2.box.set 1 _, o3.rebase 0 (fun _ _ => Nat.zero_le _)⟩
  refine ⟨⟨A2, n2, cp2, rs, fun _ => Iff.rfl⟩, ⟨(K2.mono (S' := G) (fun _ _ h => h.elim)).trans k3 (fun q _ e => (hG q).2 (.inl e)), fun q hq => ⟨?_, rs.lt hq⟩⟩⟩
  rcases hq with rfl | hq
  · exact .inl ((hG _).2 (.inl rfl))
  · exact .inr (o2.base_le (by rw [own_of]; exact hq))
theorem isFirst.none {r : Int} (h : isFirst L r) (hm : minD L = Option.none) : r = -1 := by
  rcases h with ⟨_, h⟩ | ⟨k, x, _, _, h⟩
  · exact h
  · rw [hm] at h; cases h
theorem isFirst.some {r : Int} {x : DU} (h : isFirst L r) (hm : minD L = Option.some x) : ∃ k : Nat, r = (k : Int) ∧ L[k]? = Option.some x := by
  rcases h with ⟨h, _⟩ | ⟨k, y, h1, h2, h3⟩
  · rw [h] at hm; simp [minD] at hm
  · rw [hm] at h3
    injection h3 with h3
    exact ⟨k, h1, by rw [h3]; exact h2⟩
set_option maxHeartbeats 6400000 in
theorem rDue_any (h : RF w G g c L) (hn : L.length ≤ 1000000) :
    Calls Try.prog 22 #[.pointer (some ⟨g, 0, none⟩)] w fun e w' => e = .returned (firstV (dueR c L)) ∧ ∃ G', RF w' G' g c (dueL c L) ∧ Step G G' w w' := by
  have hlies := h.lies
  obtain ⟨A, n, cp, t, hG⟩ := h
  have hlen := t.len
  obtain ⟨w1, hw1⟩ : ∃ w1, w1 = w.alloc (.cells #[.int .i64 0, .string ⟨#[]⟩, .int .i64 0] 34) := ⟨_, rfl⟩
  have k1 : Keeps (fun _ => False) w w1 := by rw [hw1]; exact (Keeps.refl _ w).alloc _
  have r1 : Blk w1 w.heap.size 34 #[.int .i64 0, .string ⟨#[]⟩, .int .i64 0] := by rw [hw1]; exact Blk.new w 34 _ _ rfl
  have T0 := Lib.hid t
  have T1 := Lib.hid (t.keep0 k1)
  have HG := Lib.hid hG
  have R1 := Lib.hid r1
  have K1 := Lib.hid k1
  have HW := Lib.hid hw1
  have HLI := Lib.hid hlies
  have hgl := t.box.lt
  clear t hG k1 r1 hw1 hlies
  have finish : ∀ (w3 : World), Keeps (fun _ => False) w w3 → Blk w3 w.heap.size 34 #[.int .i64 0, .string ⟨#[]⟩, .int .i64 0] → ∀ a s i, ∃ G', RF (((w3.setCell ⟨w.heap.size, 0, none⟩ a).setCell ⟨w.heap.size, 1, none⟩ s).setCell ⟨w.heap.size, 2, none⟩ i) G' g c L ∧ Step G G' w (((w3.setCell ⟨w.heap.size, 0, none⟩ a).setCell ⟨w.heap.size, 1, none⟩ s).setCell ⟨w.heap.size, 2, none⟩ i) := fun w3 k r a s i => by
    have kz : Keeps (fun _ => False) w (((w3.setCell ⟨w.heap.size, 0, none⟩ a).setCell ⟨w.heap.size, 1, none⟩ s).setCell ⟨w.heap.size, 2, none⟩ i) := ((k.setCell _ _ (fun h => by simp at h)).setCell _ _ (fun h => by simp at h)).setCell _ _ (fun h => by simp at h)
    exact ⟨G, ⟨A, n, cp, T0.out.keep0 kz, HG.out⟩, Step.of_keeps kz HLI.out⟩
  have FIN := Lib.hid finish
  clear finish
  cases hm : minD L with
  | none =>
    have hd := dueR_none hm c
    have hdl := dueL_no hd
    rw [hd, hdl]
    have HM := Lib.hid hm
    clear hm hd hdl
    go_enter Try.func22, Try.ntmps22
    go_upto_region 1 with fail
    rw [← HW.out]
    go_upto_region 2 with (
      go_at_call 31; refine (rfirst_any T1.out (by omega)).mono ?_
      rintro e w2 ⟨r, rfl, hr, k2⟩
      have hr1 := hr.none HM.out
      subst hr1
      have r2 := R1.out.keeps k2 (fun h => h)
      have l0 := r2.cell 0
      have l1 := r2.cell 1
      have l2 := r2.cell 2
      have e0 := r2.frozen 0
      have e1 := r2.frozen 1
      have e2 := r2.frozen 2
      simp at l0 l1 l2
      have R2 := Lib.hid r2
      have K2 := Lib.hid (K1.out.trans k2 (fun _ _ h => h))
      clear hr r2 k2)
    go_quiet (fail)
    go_wp2_with fail
    have hb3 : Blk ((((w2.drewN nq).setCell ⟨w.heap.size, 0, none⟩ (.int .i64 0)).setCell ⟨w.heap.size, 1, none⟩ (.string ⟨#[]⟩)).setCell ⟨w.heap.size, 2, none⟩ (.int .i64 0)) w.heap.size 34 #[.int .i64 0, .string ⟨#[]⟩, .int .i64 0] := (((R2.out.drewN nq).set 0 _).set 1 _).set 2 _
    (try simp only [Exit.inBlock, Exit.then])
    refine bodyPost_ret (results_cell_row_tmp rfl _ _ w.heap.size 34 #[.int .i64 0, .string ⟨#[]⟩, .int .i64 0] (0, 0) _ rfl hb3 Try.underlying34 rfl (by kernel_rfl)) rfl ?_
    exact ⟨rfl, FIN.out (w2.drewN nq) (K2.out.drewN nq) (R2.out.drewN nq) _ _ _⟩
  | some x =>
    have HM := Lib.hid hm
    have hds := dueR_some hm c
    by_cases hle : x.at_ ≤ c
    · rw [if_pos hle] at hds
      have hdl := dueL_of hds
      rw [hds, hdl]
      have hnlt : ¬ c < x.at_ := by omega
      clear hm hds hdl
      go_enter Try.func22, Try.ntmps22
      go_upto_region 1 with fail
      rw [← HW.out]
      go_upto_region 2 with (
        go_at_call 31; refine (rfirst_any T1.out (by omega)).mono ?_
        rintro e w2 ⟨r, rfl, hr, k2⟩
        obtain ⟨k, hrk, hk⟩ := hr.some HM.out
        subst hrk
        have kn := (List.getElem?_eq_some_iff.1 hk).1
        have t2 := T1.out.keep0 k2
        obtain ⟨b, _, hv, _⟩ := t2.row.form (by omega)
        injection hv with hA hn2 hc2
        subst hA
        have p0 := t2.row.at_ hk (j := 0) rfl
        have b1 := t2.box.cell 1
        have b0 := t2.box.cell 0
        have p1 := t2.row.at_ hk (j := 1) rfl
        have p2 := t2.row.at_ hk (j := 2) rfl
        simp [due] at p0 p1 p2 b1 b0
        have hblt : b < w2.heap.size := t2.row.lt rfl
        have T2 := Lib.hid t2
        have s1 : ¬ (k : Int) < 0 := by omega
        have s2 : (k : Int) < (n : Int) := by omega
        have el := elem40
        have r2 := R1.out.keeps k2 (fun h => h)
        have l0 := r2.cell 0
        have l1 := r2.cell 1
        have l2 := r2.cell 2
        have e0 := r2.frozen 0
        have e1 := r2.frozen 1
        have e2 := r2.frozen 2
        simp at l0 l1 l2
        have R2 := Lib.hid r2
        have K2 := Lib.hid (K1.out.trans k2 (fun _ _ h => h))
        clear hr r2 k2 t2 hn2 hc2 hk)
      go_quiet (fail)
      obtain ⟨wq, hwq⟩ : ∃ wq, wq = w2.drewN nq := ⟨_, rfl⟩
      rw [← hwq]
      have kq : Keeps (fun _ => False) w2 wq := by rw [hwq]; exact (Keeps.refl _ w2).drewN _
      have tq := T2.out.keep0 kq
      have p0q := kq.cell (fun h => h) p0
      have p1q := kq.cell (fun h => h) p1
      have p2q := kq.cell (fun h => h) p2
      have b1q := kq.cell (fun h => h) b1
      have Rq := Lib.hid (R2.out.keeps kq (fun h => h))
      have Kq := Lib.hid (K2.out.trans kq (fun _ _ h => h))
      have Tq := Lib.hid tq
      clear hwq kq tq p0 p1 p2 b1 b0 l0 l1 l2 e0 e1 e2
      go_upto_region 5 with fail
      obtain ⟨w3, hw3⟩ : ∃ w3, w3 = wq.alloc (.cells #[.int .i64 x.at_, .string x.key, .int .i64 x.kind] 34) := ⟨_, rfl⟩
      rw [← hw3]
      have k3 : Keeps (fun _ => False) wq w3 := by rw [hw3]; exact (Keeps.refl _ wq).alloc _
      have x3 : Blk w3 wq.heap.size 34 #[.int .i64 x.at_, .string x.key, .int .i64 x.kind] := by rw [hw3]; exact Blk.new wq 34 _ _ rfl
      have y1 := x3.cell 1
      have y2 := x3.cell 2
      simp at y1 y2
      have X3 := Lib.hid x3
      have T3 := Lib.hid (Tq.out.keep0 k3)
      have R3 := Lib.hid (Rq.out.keeps k3 (fun h => h))
      have K3 := Lib.hid (Kq.out.trans k3 (fun _ _ h => h))
      have hlt2 : w.heap.size < wq.heap.size := Rq.out.lt
      clear hw3 x3 k3
      go_upto_region 6 with (
        go_at_call 29; refine (without_any T3.out (by omega) x.key x.kind).mono ?_
        rintro e w4 ⟨A4, n4, p4, rfl, o4, k4⟩
        have t4 := T3.out.keep0 k4
        have d1 := t4.box.cell 1
        have f1 := t4.box.frozen 1
        simp at d1
        have X4 := Lib.hid (X3.out.keeps k4 (fun h => h))
        have R4 := Lib.hid (R3.out.keeps k4 (fun h => h))
        have hA4 : ∀ q, (Value.slice A4 0 0).ownBlock = Option.some q → w3.heap.size ≤ q := fun q hq => o4.base_le (by rw [own_of]; exact hq)
        have HA4 := Lib.hid hA4
        have O4 := Lib.hid (o4.rebase w.heap.size (fun q hq => by have h1 := o4.base_le hq; have h2 := K3.out.size; omega))
        have K4 := Lib.hid (K3.out.trans k4 (fun _ _ h => h))
        clear t4 o4 k4 hA4)
      obtain ⟨rf5, st5⟩ := rf_at T0.out HG.out K4.out O4.out
      obtain ⟨w5, hw5⟩ : ∃ w5, w5 = w4.setCell ⟨g, 1, none⟩ (.slice A4 n4 p4) := ⟨_, rfl⟩
      rw [← hw5] at rf5 st5 ⊢
      have k5 : Keeps (fun q => q = g) w4 w5 := by rw [hw5]; exact (Keeps.refl (fun q => q = g) w4).setCell _ _ (fun _ => rfl)
      have x5 := X4.out.keeps k5 (fun e => by omega)
      have r5 := R4.out.keeps k5 (fun e => by omega)
      have z0 := x5.cell 0
      have z1 := x5.cell 1
      have z2 := x5.cell 2
      have l0' := r5.cell 0
      have l1' := r5.cell 1
      have l2' := r5.cell 2
      have e0' := r5.frozen 0
      have e1' := r5.frozen 1
      have e2' := r5.frozen 2
      simp at z0 z1 z2 l0' l1' l2'
      have R5 := Lib.hid r5
      have RF5 := Lib.hid rf5
      have ST5 := Lib.hid st5
      clear hw5 k5 x5 r5 rf5 st5
      go_wp2_with fail
      have hb3 : Blk (((w5.setCell ⟨w.heap.size, 0, none⟩ (.int .i64 x.at_)).setCell ⟨w.heap.size, 1, none⟩ (.string x.key)).setCell ⟨w.heap.size, 2, none⟩ (.int .i64 x.kind)) w.heap.size 34 #[.int .i64 x.at_, .string x.key, .int .i64 x.kind] := ((R5.out.set 0 _).set 1 _).set 2 _
      (try simp only [Exit.inBlock, Exit.then])
      refine bodyPost_ret (results_cell_row_tmp rfl _ _ w.heap.size 34 #[.int .i64 x.at_, .string x.key, .int .i64 x.kind] (0, 0) _ rfl hb3 Try.underlying34 rfl (by kernel_rfl)) rfl ?_
      have kz : Keeps (fun q => q = w.heap.size) w5 (((w5.setCell ⟨w.heap.size, 0, none⟩ (.int .i64 x.at_)).setCell ⟨w.heap.size, 1, none⟩ (.string x.key)).setCell ⟨w.heap.size, 2, none⟩ (.int .i64 x.kind)) := (((Keeps.refl (fun q => q = w.heap.size) w5).setCell _ _ (fun _ => rfl)).setCell _ _ (fun _ => rfl)).setCell _ _ (fun _ => rfl)
      refine ⟨rfl, rfoot g A4, RF5.out.keep kz (fun q hq e => ?_), ⟨ST5.out.keeps.trans kz (fun q hq e => by omega), fun q hq => ⟨(ST5.out.foot q hq).1, Nat.lt_of_lt_of_le (ST5.out.foot q hq).2 kz.size⟩⟩⟩
      have h3 := K3.out.size
      have h4 := X3.out.lt
      rcases hq with rfl | hq
      · omega
      · have := HA4.out q hq
        omega
    · rw [if_neg hle] at hds
      have hdl := dueL_no hds
      rw [hds, hdl]
      have hlt : c < x.at_ := by omega
      clear hm hds hdl
      go_enter Try.func22, Try.ntmps22
      go_upto_region 1 with fail
      rw [← HW.out]
      go_upto_region 2 with (
        go_at_call 31; refine (rfirst_any T1.out (by omega)).mono ?_
        rintro e w2 ⟨r, rfl, hr, k2⟩
        obtain ⟨k, hrk, hk⟩ := hr.some HM.out
        subst hrk
        have kn := (List.getElem?_eq_some_iff.1 hk).1
        have t2 := T1.out.keep0 k2
        obtain ⟨b, _, hv, _⟩ := t2.row.form (by omega)
        injection hv with hA hn2 hc2
        subst hA
        have p0 := t2.row.at_ hk (j := 0) rfl
        have b1 := t2.box.cell 1
        have b0 := t2.box.cell 0
        simp [due] at p0 b1 b0
        have s1 : ¬ (k : Int) < 0 := by omega
        have s2 : (k : Int) < (n : Int) := by omega
        have el := elem40
        have r2 := R1.out.keeps k2 (fun h => h)
        have l0 := r2.cell 0
        have l1 := r2.cell 1
        have l2 := r2.cell 2
        have e0 := r2.frozen 0
        have e1 := r2.frozen 1
        have e2 := r2.frozen 2
        simp at l0 l1 l2
        have R2 := Lib.hid r2
        have K2 := Lib.hid (K1.out.trans k2 (fun _ _ h => h))
        clear hr r2 k2 t2 hn2 hc2 hk)
      go_quiet (fail)
      go_wp2_with fail
      have hb3 : Blk ((((w2.drewN nq).setCell ⟨w.heap.size, 0, none⟩ (.int .i64 0)).setCell ⟨w.heap.size, 1, none⟩ (.string ⟨#[]⟩)).setCell ⟨w.heap.size, 2, none⟩ (.int .i64 0)) w.heap.size 34 #[.int .i64 0, .string ⟨#[]⟩, .int .i64 0] := (((R2.out.drewN nq).set 0 _).set 1 _).set 2 _
      (try simp only [Exit.inBlock, Exit.then])
      refine bodyPost_ret (results_cell_row_tmp rfl _ _ w.heap.size 34 #[.int .i64 0, .string ⟨#[]⟩, .int .i64 0] (0, 0) _ rfl hb3 Try.underlying34 rfl (by kernel_rfl)) rfl ?_
      exact ⟨rfl, FIN.out (w2.drewN nq) (K2.out.drewN nq) (R2.out.drewN nq) _ _ _⟩
end
end Go.Proofs.Yteeginfbonfhlaa
