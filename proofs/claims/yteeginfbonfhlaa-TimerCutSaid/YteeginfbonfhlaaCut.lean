/- The clock may go on in one piece, or in two: walked. -/
import Derived.Test.YteeginfbonfhlaaOps
import Derived.Test.YteeginfbonfhlaaDrain
import Derived.Laws.StructEq
namespace Go.Proofs.Yteeginfbonfhlaa
open Go.RowKit Mem
theorem eq_self (d : DU) (W : World) : (Op.equal 34 (.agg #[.int .i64 d.at_, .string d.key, .int .i64 d.kind]) (.agg #[.int .i64 d.at_, .string d.key, .int .i64 d.kind])).run Try.prog W = .ok true W := by
  rw [show Op.equal 34 (.agg #[.int .i64 d.at_, .string d.key, .int .i64 d.kind]) (.agg #[.int .i64 d.at_, .string d.key, .int .i64 d.kind]) = Op.equalIn (9999 + 1) 34 (.agg #[.int .i64 d.at_, .string d.key, .int .i64 d.kind]) (.agg #[.int .i64 d.at_, .string d.key, .int .i64 d.kind]) from rfl]
  rw [run_equalIn_struct W 9999 34 _ _ (by kernel_rfl) (by kernel_rfl)]
  simp [Program.fieldsOf, Try.underlying34, Op.eqFields, go_sem, run_equalIn_int _ 9998 3 _ _ _ _ Try.underlying3]
theorem neq_self (d : DU) (W : World) : (binOp BinOp.neq 34 (.agg #[.int .i64 d.at_, .string d.key, .int .i64 d.kind]) (.agg #[.int .i64 d.at_, .string d.key, .int .i64 d.kind])).run Try.prog W = .ok (.bool false) W := by
  simp [go_sem, binOp, eq_self]
theorem own_reads40 {w : World} {base : Nat} {A : Option Addr} {n c : Nat} {l : List DU} (h : Own due w base 34 (.slice A n c) l) : Reads due w A n l := own_reads h
theorem setL_len {L : List DU} (hU : Unlike L) (c : Int) (s : ByteArray) (i t : Int) : (setL c L s i t).length ≤ L.length + 1 := by
  unfold setL
  split
  · omega
  · have := wo_len hU s i
    rw [List.length_append, List.length_singleton]
    omega
theorem TF.bounded {w : World} {F : Nat → Prop} {g : Nat} {c : Int} {L : List DU} {N : Nat} (h : TF w F g c L N) {B : Nat} (hB : ∀ q, F q → B ≤ q) : Lies B F w := fun q hq => ⟨hB q hq, (h.lies q hq).2⟩
theorem TF.drew {w : World} {F : Nat → Prop} {g : Nat} {c : Int} {L : List DU} {N : Nat} (h : TF w F g c L N) : TF w.drew F g c L N := h.keep ((Keeps.refl (fun _ => False) w).drew) (fun _ _ h => h)
set_option maxRecDepth 100000 in
set_option maxHeartbeats 6400000 in
theorem cut_any (S : Option Addr) (ns cs : Nat) (os : List OT) (a b : Int) (w : World) (hr : Reads opE w S ns os) (hok : ∀ o ∈ os, okO o) :
    Calls Try.prog 6 #[.slice S ns cs, .int .i64 a, .int .i64 b] w fun e w' => e = .returned (.bool true) ∧ Keeps (fun _ => False) w w' := by
  have HR := Lib.hid hr
  have OK := Lib.hid hok
  clear hr hok
  go_enter Try.func6, Try.ntmps6
  go_upto_region 6 with (first
    | (go_at_call 8; refine (new_any w2).mono ?_
       rintro e w3 ⟨gy, Fy, rfl, t3, hFy, k3⟩
       have X3 := Lib.hid (X2.out.keep k3 (fun _ _ h => h))
       have Y3 := Lib.hid t3
       have K3 := Lib.hid (K2.out.trans k3 (fun _ _ h => h))
       have OFF := Lib.hid (show Off Fx Fy from fun q h1 h2 => by have h3 := (X2.out.lies q h1).2; have h4 := hFy q h2; omega)
       clear t3 k3)
    | (go_at_call 8; refine (new_any w1).mono ?_
       rintro e w2 ⟨gx, Fx, rfl, t2, hFx, k2⟩
       have X2 := Lib.hid t2
       have K2 := Lib.hid (K1.out.trans k2 (fun _ _ h => h))
       clear t2 k2)
    | (go_at_call 7; refine (shown_any w).mono ?_
       rintro e w1 ⟨rfl, k1⟩
       have K1 := Lib.hid k1
       clear k1))
  have hz1 := K1.out.size
  have hz2 := K2.out.size
  go_wp2_with fail
  go_loopw [10] (fun v10 wr => ∃ (k : Nat) (L : List DU) (Fx Fy : Nat → Prop), v10 = .int .i64 k ∧ k ≤ ns ∧ k ≤ 60 ∧ L.length ≤ k ∧ TF wr Fx gx 0 L k ∧ TF wr Fy gy 0 L k ∧ Off Fx Fy ∧ Lies w.heap.size Fx wr ∧ Lies w.heap.size Fy wr ∧ Keeps (fun q => w.heap.size ≤ q) w wr) (fun v10 _ => ns - (intOf v10).toNat)
  case atStart => exact ⟨0, [], Fx, Fy, rfl, Nat.zero_le _, Nat.zero_le _, Nat.le_refl _, X3.out, Y3.out, OFF.out, X3.out.bounded (fun q hq => Nat.le_trans hz1 (hFx q hq)), Y3.out.bounded (fun q hq => Nat.le_trans hz2 (hFy q hq)), K3.out.mono (fun _ _ h => h.elim)⟩
  case round =>
    clear X2 X3 Y3 K1 K2 K3 OFF hFx hFy
    obtain ⟨k, L, Fx, Fy, rfl, hk1, hk2, hlk, tx, ty, off, lx, ly, kk⟩ := hrel
    have TX := Lib.hid tx
    have TY := Lib.hid ty
    have OF := Lib.hid (And.intro off (And.intro lx ly))
    have KK := Lib.hid kk
    have hszB := kk.size
    by_cases hin : k < ns ∧ k < 60
    · obtain ⟨hin1, hin2⟩ := hin
      obtain ⟨o, ho⟩ : ∃ o, os[k]? = some o := ⟨_, List.getElem?_eq_getElem (by rw [HR.out.1]; exact hin1)⟩
      have hoo := OK.out o (List.mem_of_getElem? ho)
      obtain ⟨ad, hA, hc⟩ := (HR.out.keeps kk (fun ad hA h0 => by have := HR.out.lt h0 hA; omega)).at_ ho
      subst hA
      have q1 := hc 1 _ rfl
      have q2 := hc 2 _ rfl
      have q3 := hc 3 _ rfl
      simp [opE] at q1 q2 q3
      rw [← add_add, add_pos _ (by decide : 0 < 1)] at q1
      rw [← add_add, add_pos _ (by decide : 0 < 2)] at q2
      rw [← add_add, add_pos _ (by decide : 0 < 3)] at q3
      have el := elem45
      have HOO := Lib.hid hoo
      have hfar : ¬ w.heap.size ≤ ad.block := by have := HR.out.lt (by omega) rfl; omega
      have ks : ∀ W, Keeps (fun q => w.heap.size ≤ q) wr W → (W.cell? ⟨(ad.add (k * 4)).block, (ad.add (k * 4)).off + 1, none⟩ = some (.int .i64 o.what) ∧ W.cell? ⟨(ad.add (k * 4)).block, (ad.add (k * 4)).off + 2, none⟩ = some (.int .i64 o.num) ∧ W.cell? ⟨(ad.add (k * 4)).block, (ad.add (k * 4)).off + 3, none⟩ = some (.string o.key)) := fun W kW => ⟨kW.cell (by show ¬ w.heap.size ≤ (ad.add (k * 4)).block; rw [block_add]; exact hfar) q1, kW.cell (by show ¬ w.heap.size ≤ (ad.add (k * 4)).block; rw [block_add]; exact hfar) q2, kW.cell (by show ¬ w.heap.size ≤ (ad.add (k * 4)).block; rw [block_add]; exact hfar) q3⟩
      have KS := Lib.hid ks
      clear ks hc ho hoo tx ty off lx ly kk
      go_upto_region 9 with fail
      go_region_held3 (fun W => (W.cell? ⟨(ad.add (k * 4)).block, (ad.add (k * 4)).off + 1, none⟩ = some (.int .i64 o.what) ∧ W.cell? ⟨(ad.add (k * 4)).block, (ad.add (k * 4)).off + 2, none⟩ = some (.int .i64 o.num) ∧ W.cell? ⟨(ad.add (k * 4)).block, (ad.add (k * 4)).off + 3, none⟩ = some (.string o.key))) (exact KS.out _ (by (repeat first | assumption | exact Lib.Hid.out (by assumption) | exact Keeps.refl _ _ | refine Keeps.alloc ?_ _ | refine Keeps.drewN ?_ _ | refine Keeps.drew ?_ | refine Keeps.setCell ?_ _ _ (fun h => by simp at h <;> omega)))) (first
        | (go_at_call 9; refine (set_any TX.out.drew (by omega) HOO.out.2.2.2 HOO.out.2.1 o.num HOO.out.2.2.1).mono ?_
           rintro e w3 ⟨rfl, Fx3, tx3, sx3⟩
           have st3 : Step Fx Fx3 wr w3 := ⟨((Keeps.refl Fx wr).drew).trans sx3.keeps (fun _ _ h => h), sx3.foot⟩
           have k3' : Keeps (fun q => w.heap.size ≤ q) wr w3 := st3.keeps.mono (fun q _ hq => (OF.out.2.1 q hq).1)
           have TX3 := Lib.hid tx3
           have TY3 := Lib.hid (TY.out.keep st3.keeps (fun q h1 h2 => OF.out.1 q h2 h1))
           have OF3 := Lib.hid (And.intro (OF.out.1.step st3 OF.out.2.2) (And.intro (OF.out.2.1.step st3 hszB) (OF.out.2.2.keeps st3.keeps)))
           have K3 := Lib.hid k3'
           clear tx3 sx3 st3 k3'))
      go_upto_region 10 with fail
      have r3 := KS.out w3 K3.out
      obtain ⟨r1', r2', r3'⟩ := r3
      have hszC := K3.out.size
      go_region_held3 (fun W => (W.cell? ⟨(ad.add (k * 4)).block, (ad.add (k * 4)).off + 1, none⟩ = some (.int .i64 o.what) ∧ W.cell? ⟨(ad.add (k * 4)).block, (ad.add (k * 4)).off + 2, none⟩ = some (.int .i64 o.num) ∧ W.cell? ⟨(ad.add (k * 4)).block, (ad.add (k * 4)).off + 3, none⟩ = some (.string o.key))) (exact KS.out _ (by (repeat first | assumption | exact Lib.Hid.out (by assumption) | exact Keeps.refl _ _ | refine Keeps.alloc ?_ _ | refine Keeps.drewN ?_ _ | refine Keeps.drew ?_ | refine Keeps.setCell ?_ _ _ (fun h => by simp at h <;> omega)))) (first
        | (go_at_call 9; refine (set_any TY3.out.drew (by omega) HOO.out.2.2.2 HOO.out.2.1 o.num HOO.out.2.2.1).mono ?_
           rintro e w4 ⟨rfl, Fy4, ty4, sy4⟩
           have st4 : Step Fy Fy4 w3 w4 := ⟨((Keeps.refl Fy w3).drew).trans sy4.keeps (fun _ _ h => h), sy4.foot⟩
           have k4' : Keeps (fun q => w.heap.size ≤ q) wr w4 := K3.out.trans st4.keeps (fun q _ hq => (OF3.out.2.2 q hq).1)
           have TY4 := Lib.hid ty4
           have TX4 := Lib.hid (TX3.out.keep st4.keeps (fun q h1 h2 => OF3.out.1 q h1 h2))
           have OF4 := Lib.hid (And.intro ((OF3.out.1.symm.step st4 OF3.out.2.1).symm) (And.intro (OF3.out.2.1.keeps st4.keeps) (OF3.out.2.2.step st4 (by omega))))
           have K4 := Lib.hid k4'
           clear ty4 sy4 st4 k4'))
      go_wp2_with fail
      exact ⟨⟨k + 1, _, Fx3, Fy4, by go_num, by omega, by omega, by have := setL_len TX.out.unl 0 o.key o.what o.num; omega, TX4.out, TY4.out, OF4.out.1, OF4.out.2.1, OF4.out.2.2, KK.out.trans K4.out (fun _ _ h => h)⟩, by simp [intOf]; omega⟩
    · have TE : (¬ k < ns) ∨ (k < ns ∧ ¬ k < 60) := by omega
      clear tx ty off lx ly kk hin
      rcases TE with h1 | ⟨h1, h2⟩
      all_goals
        go_upto_if 73 with fail
        go_cut [1, 2] (fun x y wx => ∃ a2 b2 : Int, x = .int .i64 a2 ∧ y = .int .i64 b2 ∧ a2 ≤ b2 ∧ wx = wr)
        case first =>
          by_cases hab : b < a
          · go_wp2_with fail
            go_meet
            exact ⟨b, a, rfl, rfl, by omega, rfl⟩
          · go_wp2_with fail
            go_meet
            exact ⟨a, b, rfl, rfl, by omega, rfl⟩
        case rest =>
          obtain ⟨a2, b2, rfl, rfl, hab, hwc⟩ := hcut
          subst hwc
          have hcutL := drain_cut 200 0 L a2 b2 TX.out.unl TX.out.ok (by omega) hab
          have DC := Lib.hid (show drainAll 0 L b2 = ((drainAll 0 L a2).1 ++ (drainAll (drainAll 0 L a2).2.1 (drainAll 0 L a2).2.2 b2).1, (drainAll (drainAll 0 L a2).2.1 (drainAll 0 L a2).2.2 b2).2) from hcutL)
          have hl1 := drain_outs_len 200 0 L a2
          have hl2 := drain_outs_len 200 (drainAll 0 L a2).2.1 (drainAll 0 L a2).2.2 b2
          obtain ⟨P1, hP1⟩ : ∃ P1, P1 = (drainAll 0 L a2).1 := ⟨_, rfl⟩
          obtain ⟨c1, hc1⟩ : ∃ c1, c1 = (drainAll 0 L a2).2.1 := ⟨_, rfl⟩
          obtain ⟨L1, hL1⟩ : ∃ L1, L1 = (drainAll 0 L a2).2.2 := ⟨_, rfl⟩
          obtain ⟨P2, hP2⟩ : ∃ P2, P2 = (drainAll c1 L1 b2).1 := ⟨_, rfl⟩
          obtain ⟨c2, hc2⟩ : ∃ c2, c2 = (drainAll c1 L1 b2).2.1 := ⟨_, rfl⟩
          obtain ⟨L2, hL2⟩ : ∃ L2, L2 = (drainAll c1 L1 b2).2.2 := ⟨_, rfl⟩
          have e1 : (drainAll 0 L b2).1 = P1 ++ P2 := by rw [DC.out, hP1, hP2, hc1, hL1]
          have e2 : (drainAll 0 L b2).2.1 = c2 := by rw [DC.out, hc2, hc1, hL1]
          have e3 : (drainAll 0 L b2).2.2 = L2 := by rw [DC.out, hL2, hc1, hL1]
          have hp1 : P1.length ≤ 200 := by rw [hP1]; exact hl1
          have hp2 : P2.length ≤ 200 := by rw [hP2, hc1, hL1]; exact hl2
          have EE := Lib.hid (And.intro e1 (And.intro e2 e3))
          have EA := Lib.hid (And.intro hP1.symm (And.intro hc1.symm hL1.symm))
          have EB := Lib.hid (And.intro hP2.symm (And.intro hc2.symm hL2.symm))
          clear hcutL DC hl1 hl2 hP1 hc1 hL1 hP2 hc2 hL2 e1 e2 e3
          have hN : k < 1000000 := by omega
          obtain ⟨m, hm⟩ : ∃ m, m = (P1 ++ P2).length := ⟨_, rfl⟩
          have HM := Lib.hid hm
          have hm4 : m ≤ 400 := by rw [hm, List.length_append]; omega
          clear hm
          go_upto_region 15 with (first
            | (at_builtin; refine wp_append elem40 (by rfl) (.tmp 81) (.tmp 84) (by rfl) w3.heap.size (.slice A4 n4 p4) P1 P2 A5 n5 p5 rfl rfl Q5.out (own_reads R5.out) (by rw [← R5.out.len_eq rfl]; omega) (by rw [← R5.out.len_eq rfl]; unfold maxLen; omega) (by have := K4.out.size; have := K5.out.size; omega) ?_
               intro v6 w6 own6 gr6 at6
               obtain ⟨A6, p6, hv6, _⟩ := Own.val (n := m) own6 HM.out.symm
               subst hv6
               have k6 : Keeps (fun q => w3.heap.size ≤ q) w5 w6 := Keeps.grown (Keeps.refl _ w5) gr6 (fun k hk _ => Q5.out.base_le hk)
               have X6 := Lib.hid (X5.out.keep k6 (fun q hq h => by have h1 := (OF.out.2.1 q hq).2; have h2 := K3.out.size; omega))
               have Y6 := Lib.hid (Y5.out.keep k6 (fun q hq h => by have h1 := (OF.out.2.2 q hq).2; have h2 := K3.out.size; omega))
               have P6 := Lib.hid (P5.out.keeps k6 (fun q hq h => by have h1 := P3.out.lt hq; omega))
               have Q6 := Lib.hid own6
               have K6 := Lib.hid k6
               clear own6 gr6 at6 k6)
            | (go_at_call 24; refine (dueAll_any Y4.out hN b2).mono ?_
               rintro e w5 ⟨A5, n5, p5, rfl, o5, t5, k5⟩
               rw [EB.out.1] at o5
               rw [EB.out.2.1, EB.out.2.2] at t5
               have Y5 := Lib.hid t5
               have R5 := Lib.hid o5
               have X5 := Lib.hid (X4.out.keep k5 (fun q h1 h2 => OF.out.1 q h1 h2))
               have P5 := Lib.hid (P4.out.keeps k5 (fun q hq hf => by have h1 := P3.out.base_le hq; have h2 := (OF.out.2.2 q hf).2; omega))
               have Q5 := Lib.hid (Q4.out.keeps k5 (fun q hq hf => by have h1 := Q4.out.base_le hq; have h2 := (OF.out.2.2 q hf).2; have h3 := K3.out.size; omega))
               have K5 := Lib.hid k5
               clear o5 t5 k5)
            | (go_at_call 24; refine (dueAll_any Y3.out hN a2).mono ?_
               rintro e w4 ⟨A4, n4, p4, rfl, o4, t4, k4⟩
               rw [EA.out.1] at o4
               rw [EA.out.2.1, EA.out.2.2] at t4
               have Y4 := Lib.hid t4
               have Q4 := Lib.hid o4
               have X4 := Lib.hid (X3.out.keep k4 (fun q h1 h2 => OF.out.1 q h1 h2))
               have P4 := Lib.hid (P3.out.keeps k4 (fun q hq hf => by have h1 := P3.out.base_le hq; have h2 := (OF.out.2.2 q hf).2; omega))
               have K4 := Lib.hid k4
               clear o4 t4 k4)
            | (go_at_call 24; refine (dueAll_any TX.out hN b2).mono ?_
               rintro e w3 ⟨A3, n3, p3, rfl, o3, t3, k3⟩
               rw [EE.out.1] at o3
               obtain rfl : m = n3 := HM.out.trans (o3.len_eq rfl)
               rw [EE.out.2.1, EE.out.2.2] at t3
               have X3 := Lib.hid t3
               have P3 := Lib.hid o3
               have Y3 := Lib.hid (TY.out.keep k3 (fun q h1 h2 => OF.out.1 q h2 h1))
               have K3 := Lib.hid k3
               clear o3 t3 k3))
          go_wp2_with (first
            | (go_at_call 15; refine (now_any X6.out).mono ?_
               rintro e w7 ⟨rfl, hw7⟩
               rw [hw7]
               clear hw7)
            | (go_at_call 15; refine (now_any Y6.out).mono ?_
               rintro e w7 ⟨rfl, hw7⟩
               rw [hw7]
               clear hw7)
            | (go_at_call 10; refine (len_any X6.out).mono ?_
               rintro e w7 ⟨rfl, hw7⟩
               rw [hw7]
               clear hw7)
            | (go_at_call 10; refine (len_any Y6.out).mono ?_
               rintro e w7 ⟨rfl, hw7⟩
               rw [hw7]
               clear hw7))
          go_loopw [13] (fun v wr2 => ∃ (j q : Nat), v = .int .i64 j ∧ j ≤ m ∧ wr2 = w6.drewN q) (fun v _ => m - (intOf v).toNat)
          case atStart => exact ⟨0, 0, rfl, Nat.zero_le _, rfl⟩
          case round =>
            obtain ⟨j, q, rfl, hjm, hwr⟩ := hrel
            subst hwr
            by_cases hj : j < m
            · obtain ⟨d, hd⟩ : ∃ d, (P1 ++ P2)[j]? = some d := ⟨_, List.getElem?_eq_getElem (by rw [← HM.out]; exact hj)⟩
              obtain ⟨b3, _, hv3, _⟩ := P6.out.form (by rw [← HM.out]; omega)
              obtain ⟨b6, _, hv6, _⟩ := Q6.out.form (by rw [← HM.out]; omega)
              injection hv3 with hA3 hn3 hc3
              injection hv6 with hA6 hn6 hc6
              subst hA3 hA6
              have p0 := P6.out.at_ hd (j := 0) rfl
              have p1 := P6.out.at_ hd (j := 1) rfl
              have p2 := P6.out.at_ hd (j := 2) rfl
              have q0 := Q6.out.at_ hd (j := 0) rfl
              have q1 := Q6.out.at_ hd (j := 1) rfl
              have q2 := Q6.out.at_ hd (j := 2) rfl
              simp [due] at p0 p1 p2 q0 q1 q2
              have hneq := neq_self d
              have el := elem40
              clear hd hn3 hc3 hn6 hc6
              go_wp2_with fail
              go_quiet (fail)
              go_wp2_with fail
              exact ⟨⟨j + 1, _, by go_num, by omega, rfl⟩, by simp [intOf]; omega⟩
            · go_wp2_with fail
              go_ret
              exact ⟨rfl, ((((KK.out.trans K3.out (fun q hq h => (OF.out.2.1 q h).1)).trans K4.out (fun q hq h => (OF.out.2.2 q h).1)).trans K5.out (fun q hq h => (OF.out.2.2 q h).1)).trans K6.out (fun q hq h => by have := K3.out.size; omega)).drewN _ |>.mono (fun q hq h => by omega)⟩
end Go.Proofs.Yteeginfbonfhlaa
