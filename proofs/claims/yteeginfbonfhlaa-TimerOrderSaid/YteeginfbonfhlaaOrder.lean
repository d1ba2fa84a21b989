/- What was set comes due in the order of its times: walked. -/
import Derived.Test.YteeginfbonfhlaaOps
import Derived.Test.YteeginfbonfhlaaP3
import Derived.Test.YteeginfbonfhlaaOnce
namespace Go.Proofs.Yteeginfbonfhlaa
open Go.RowKit Mem
theorem lenX {B : Nat → Prop} {w : World} {g : Nat} {c : Int} {L : List DU} {N : Nat} (h : TB B w g c L N) (x : Int) (hx : x = L.length) : Calls Try.prog 10 #[.pointer (some ⟨g, 0, none⟩)] w fun e w' => e = .returned (.int .i64 x) ∧ w' = w := by
  rw [hx]
  exact lenT h
set_option maxRecDepth 100000 in
set_option maxHeartbeats 6400000 in
theorem order_any (S : Option Addr) (ns cs : Nat) (os : List OT) (w : World) (hr : Reads opE w S ns os) (hok : ∀ o ∈ os, okO o) :
    Calls Try.prog 5 #[.slice S ns cs] w fun e w' => e = .returned (.bool true) ∧ Keeps (fun _ => False) w w' := by
  have HR := Lib.hid hr
  have OK := Lib.hid hok
  clear hr hok
  go_enter Try.func5, Try.ntmps5
  go_wp2_with (first
    | (go_at_call 8; refine (newT (B := fun q => w.heap.size ≤ q) w1 (fun q hq => Nat.le_trans K1.out.size hq)).mono ?_
       rintro e w2 ⟨g, rfl, t2, k2⟩
       have T2 := Lib.hid t2
       have K2 := Lib.hid (K1.out.trans k2 (fun _ _ h => h))
       clear t2 k2)
    | (go_at_call 7; refine (shown_any w).mono ?_
       rintro e w1 ⟨rfl, k1⟩
       have K1 := Lib.hid k1
       clear k1))
  go_loopw [5, 6] (fun v5 v6 wr => ∃ (k m : Nat) (L : List DU), v5 = .int .i64 m ∧ v6 = .int .i64 k ∧ k ≤ ns ∧ k ≤ 100 ∧ L.length = m ∧ m ≤ k ∧ TB (fun q => w.heap.size ≤ q) wr g 0 L k ∧ Keeps (fun q => w.heap.size ≤ q) w wr) (fun _ v6 _ => ns - (intOf v6).toNat)
  case atStart => exact ⟨0, 0, [], rfl, rfl, Nat.zero_le _, Nat.zero_le _, rfl, Nat.le_refl _, T2.out, K2.out.mono (fun _ _ h => h.elim)⟩
  case round =>
    clear T2 K1 K2
    obtain ⟨k, m, L, rfl, rfl, hk1, hk2, hlm, hmk, tb, kk⟩ := hrel
    have TR := Lib.hid tb
    have KK := Lib.hid kk
    have HLM := Lib.hid hlm
    by_cases hin : k < ns ∧ k < 100
    · obtain ⟨hin1, hin2⟩ := hin
      obtain ⟨o, ho⟩ : ∃ o, os[k]? = some o := ⟨_, List.getElem?_eq_getElem (by rw [HR.out.1]; exact hin1)⟩
      have hoo := OK.out o (List.mem_of_getElem? ho)
      obtain ⟨ad, hA, hc⟩ := (HR.out.keeps kk (fun ad hA h0 => by have := HR.out.lt h0 hA; omega)).at_ ho
      subst hA
      have q1 := hc 1 _ rfl
      have q2 := hc 2 _ rfl
      have q3 := hc 3 _ rfl
      simp [opE] at q1 q2 q3
      rw [← add_add, add_pos _ (by decide : 0 < 1)] at q1
      rw [← add_add, add_pos _ (by decide : 0 < 2)] at q2
      rw [← add_add, add_pos _ (by decide : 0 < 3)] at q3
      have el := elem45
      have HOO := Lib.hid hoo
      clear hc ho hoo tb kk hlm
      go_upto_region 10 with (
        go_at_call 10; refine (lenX TR.out m (by rw [HLM.out])).mono ?_
        rintro e w3 ⟨rfl, hw3⟩
        rw [hw3]
        clear hw3)
      have hfar : ¬ w.heap.size ≤ ad.block := by have := HR.out.lt (by omega) rfl; omega
      have ks : ∀ W, Keeps (fun q => w.heap.size ≤ q) wr W → (W.cell? ⟨(ad.add (k * 4)).block, (ad.add (k * 4)).off + 1, none⟩ = some (.int .i64 o.what) ∧ W.cell? ⟨(ad.add (k * 4)).block, (ad.add (k * 4)).off + 2, none⟩ = some (.int .i64 o.num) ∧ W.cell? ⟨(ad.add (k * 4)).block, (ad.add (k * 4)).off + 3, none⟩ = some (.string o.key)) := fun W kW => ⟨kW.cell (by show ¬ w.heap.size ≤ (ad.add (k * 4)).block; rw [block_add]; exact hfar) q1, kW.cell (by show ¬ w.heap.size ≤ (ad.add (k * 4)).block; rw [block_add]; exact hfar) q2, kW.cell (by show ¬ w.heap.size ≤ (ad.add (k * 4)).block; rw [block_add]; exact hfar) q3⟩
      have KS := Lib.hid ks
      have hw1 : IntKind.i64.wrap ((m : Int) + 1) = (m : Int) + 1 := IntWalk.i64_in _ (by omega)
      have HU := Lib.hid TR.out.unl
      clear ks
      by_cases hbad : o.num < 0 ∨ maxC < o.num
      · obtain ⟨e1, e2⟩ := set_bad hbad 0 L o.key o.what
        have E1 := Lib.hid e1
        have E2 := Lib.hid e2
        clear e1 e2
        go_region_held3 (fun W => (W.cell? ⟨(ad.add (k * 4)).block, (ad.add (k * 4)).off + 1, none⟩ = some (.int .i64 o.what) ∧ W.cell? ⟨(ad.add (k * 4)).block, (ad.add (k * 4)).off + 2, none⟩ = some (.int .i64 o.num) ∧ W.cell? ⟨(ad.add (k * 4)).block, (ad.add (k * 4)).off + 3, none⟩ = some (.string o.key))) (exact KS.out _ (by (repeat first | assumption | exact Lib.Hid.out (by assumption) | exact Keeps.refl _ _ | refine Keeps.alloc ?_ _ | refine Keeps.drewN ?_ _ | refine Keeps.drew ?_ | refine Keeps.setCell ?_ _ _ (fun h => by simp at h <;> omega)))) (first
          | (go_at_call 9; refine (setT (TR.out.keep ((Keeps.refl (fun _ => False) wr).drew)) (fun q hq => Nat.le_trans KK.out.size hq) (by omega) HOO.out.2.2.2 HOO.out.2.1 o.num HOO.out.2.2.1).mono ?_
             rw [E1.out, E2.out]
             rintro e w3 ⟨rfl, t3, k3⟩
             have k3' : Keeps (fun q => w.heap.size ≤ q) wr w3 := ((Keeps.refl (fun q => w.heap.size ≤ q) wr).drew).trans k3 (fun _ _ h => h)
             have T3 := Lib.hid t3
             have K3 := Lib.hid k3'
             clear t3 k3 k3'))
        all_goals
          go_wp2_with (first
            | (go_at_call 10; refine (lenX T3.out m (by rw [HLM.out])).mono ?_
               rintro e w4 ⟨rfl, hw4⟩
               rw [hw4]
               clear hw4))
          exact ⟨⟨k + 1, m, L, by go_num, by go_num, by omega, by omega, HLM.out, by omega, T3.out, KK.out.trans K3.out (fun _ _ h => h)⟩, by simp [intOf]; omega⟩
      · obtain ⟨e1, e2⟩ := set_ok hbad 0 L o.key o.what
        have E1 := Lib.hid e1
        have E2 := Lib.hid e2
        clear e1 e2
        rcases set_len HU.out (setD 0 o.key o.what o.num) with hl | hl
        · rw [HLM.out] at hl
          have HL2 := Lib.hid hl
          clear hl
          go_region_held3 (fun W => (W.cell? ⟨(ad.add (k * 4)).block, (ad.add (k * 4)).off + 1, none⟩ = some (.int .i64 o.what) ∧ W.cell? ⟨(ad.add (k * 4)).block, (ad.add (k * 4)).off + 2, none⟩ = some (.int .i64 o.num) ∧ W.cell? ⟨(ad.add (k * 4)).block, (ad.add (k * 4)).off + 3, none⟩ = some (.string o.key))) (exact KS.out _ (by (repeat first | assumption | exact Lib.Hid.out (by assumption) | exact Keeps.refl _ _ | refine Keeps.alloc ?_ _ | refine Keeps.drewN ?_ _ | refine Keeps.drew ?_ | refine Keeps.setCell ?_ _ _ (fun h => by simp at h <;> omega)))) (first
            | (go_at_call 9; refine (setT (TR.out.keep ((Keeps.refl (fun _ => False) wr).drew)) (fun q hq => Nat.le_trans KK.out.size hq) (by omega) HOO.out.2.2.2 HOO.out.2.1 o.num HOO.out.2.2.1).mono ?_
               rw [E1.out, E2.out]
               rintro e w3 ⟨rfl, t3, k3⟩
               have k3' : Keeps (fun q => w.heap.size ≤ q) wr w3 := ((Keeps.refl (fun q => w.heap.size ≤ q) wr).drew).trans k3 (fun _ _ h => h)
               have T3 := Lib.hid t3
               have K3 := Lib.hid k3'
               clear t3 k3 k3'))
          all_goals
            go_wp2_with (first
              | (go_at_call 10; refine (lenX T3.out m (by rw [show (wo L o.key o.what ++ [setD 0 o.key o.what o.num]).length = m from HL2.out])).mono ?_
                 rintro e w4 ⟨rfl, hw4⟩
                 rw [hw4]
                 clear hw4))
            exact ⟨⟨k + 1, m, _, by go_num, by go_num, by omega, by omega, HL2.out, by omega, T3.out, KK.out.trans K3.out (fun _ _ h => h)⟩, by simp [intOf]; omega⟩
        · rw [HLM.out] at hl
          have HL2 := Lib.hid hl
          have t1 : ((m : Int) + 1 == (m : Int)) = false := by simp; omega
          clear hl
          go_region_held3 (fun W => (W.cell? ⟨(ad.add (k * 4)).block, (ad.add (k * 4)).off + 1, none⟩ = some (.int .i64 o.what) ∧ W.cell? ⟨(ad.add (k * 4)).block, (ad.add (k * 4)).off + 2, none⟩ = some (.int .i64 o.num) ∧ W.cell? ⟨(ad.add (k * 4)).block, (ad.add (k * 4)).off + 3, none⟩ = some (.string o.key))) (exact KS.out _ (by (repeat first | assumption | exact Lib.Hid.out (by assumption) | exact Keeps.refl _ _ | refine Keeps.alloc ?_ _ | refine Keeps.drewN ?_ _ | refine Keeps.drew ?_ | refine Keeps.setCell ?_ _ _ (fun h => by simp at h <;> omega)))) (first
            | (go_at_call 9; refine (setT (TR.out.keep ((Keeps.refl (fun _ => False) wr).drew)) (fun q hq => Nat.le_trans KK.out.size hq) (by omega) HOO.out.2.2.2 HOO.out.2.1 o.num HOO.out.2.2.1).mono ?_
               rw [E1.out, E2.out]
               rintro e w3 ⟨rfl, t3, k3⟩
               have k3' : Keeps (fun q => w.heap.size ≤ q) wr w3 := ((Keeps.refl (fun q => w.heap.size ≤ q) wr).drew).trans k3 (fun _ _ h => h)
               have T3 := Lib.hid t3
               have K3 := Lib.hid k3'
               clear t3 k3 k3'))
          all_goals
            go_wp2_with (first
              | (go_at_call 10; refine (lenX T3.out ((m : Int) + 1) (by rw [show (wo L o.key o.what ++ [setD 0 o.key o.what o.num]).length = m + 1 from HL2.out]; rfl)).mono ?_
                 rintro e w4 ⟨rfl, hw4⟩
                 rw [hw4]
                 clear hw4))
            exact ⟨⟨k + 1, m + 1, _, by go_num, by go_num, by omega, by omega, HL2.out, by omega, T3.out, KK.out.trans K3.out (fun _ _ h => h)⟩, by simp [intOf]; omega⟩
    · have TE : (¬ k < ns) ∨ (k < ns ∧ ¬ k < 100) := by omega
      have hw1 : IntKind.i64.wrap ((m : Int) + 1) = (m : Int) + 1 := IntWalk.i64_in _ (by omega)
      have hc0 : ∀ d ∈ L, (0 : Int) ≤ d.at_ := fun d hd => (tb.ok d hd).2.2.1
      have HC0 := Lib.hid hc0
      clear tb kk hin hlm hc0
      rcases TE with h1 | ⟨h1, h2⟩
      all_goals
        go_wp2_with fail
        go_loopw [5, 9, 11] (fun v5 v9 v11 wr2 => ∃ (j m2 : Nat) (c : Int) (L2 : List DU), v5 = .int .i64 m2 ∧ v9 = .int .i64 c ∧ v11 = .int .i64 j ∧ j + m2 = m ∧ L2.length = m2 ∧ (∀ d ∈ L2, c ≤ d.at_) ∧ TB (fun q => w.heap.size ≤ q) wr2 g c L2 k ∧ Keeps (fun q => w.heap.size ≤ q) w wr2) (fun v5 _ _ _ => (intOf v5).toNat)
        case atStart => exact ⟨0, m, 0, L, rfl, rfl, rfl, by omega, HLM.out, HC0.out, TR.out, KK.out⟩
        case round =>
          clear TR KK HC0 HLM
          obtain ⟨j, m2, c, L2, rfl, rfl, rfl, hjm, hl2, hc, tb, kk⟩ := hrel
          have hclk := tb.clk
          have TR := Lib.hid tb
          have KK := Lib.hid kk
          have t1 : (j : Int) < (m : Int) + 1 := by omega
          have hN : k < 1000000 := by omega
          cases hm : minD L2 with
          | none =>
            have hL : L2 = [] := minD_none.1 hm
            subst hL
            obtain rfl : m2 = 0 := by simpa using hl2.symm
            have hg : goC c [] 1125899906842624 = 1125899906842624 := by rw [goC_none rfl]; unfold maxC; omega
            have HG := Lib.hid hg
            have t2 : ¬ (1125899906842624 : Int) < c := by omega
            have hdr : dueR 1125899906842624 [] = none := rfl
            have hdl : dueL 1125899906842624 [] = [] := rfl
            have HDR := Lib.hid hdr
            have HDL := Lib.hid hdl
            clear hg hdr hdl hc tb kk hm hl2
            go_wp2_with (first
              | (go_at_call 10; refine (lenX T6.out 0 rfl).mono ?_
                 rintro e w7 ⟨rfl, hw7⟩
                 rw [hw7]
                 clear hw7)
              | (go_at_call 11; refine (FirstT T5.out hN).mono ?_
                 rintro e w6 ⟨rfl, t6, k6⟩
                 have T6 := Lib.hid t6
                 have K6 := Lib.hid (K5.out.trans k6 (fun _ _ h => h))
                 clear t6 k6
                 rw [show firstI [] = 0 from rfl, show someB [] = false from rfl])
              | (go_at_call 14; refine (dueT T4.out hN).mono ?_
                 rw [HDR.out, HDL.out]
                 rintro e w5 ⟨rfl, t5, k5⟩
                 unfold firstV
                 have T5 := Lib.hid (t5.keep ((Keeps.refl (fun _ => False) w5).alloc (.cells #[.int .i64 0, .string ⟨#[]⟩, .int .i64 0] 34)))
                 have K5 := Lib.hid ((K4.out.trans k5 (fun _ _ h => h)).alloc (.cells #[.int .i64 0, .string ⟨#[]⟩, .int .i64 0] 34))
                 clear t5 k5)
              | (go_at_call 15; refine (nowT T4.out).mono ?_
                 rintro e w7 ⟨rfl, hw7⟩
                 rw [hw7]
                 clear hw7)
              | (go_at_call 13; refine (GoT TR.out hN 1125899906842624).mono ?_
                 rw [HG.out]
                 rintro e w4 ⟨rfl, t4, k4⟩
                 have T4 := Lib.hid t4
                 have K4 := Lib.hid (KK.out.trans k4 (fun _ _ h => h))
                 clear t4 k4))
            go_ret
            exact ⟨rfl, K6.out.mono (fun q hq h => by omega)⟩
          | some x =>
            obtain ⟨hg, hdr, hdl, hlen, hc2⟩ := order_step tb.unl tb.ok hc hm
            have hxc := hc x (minD_mem hm)
            obtain ⟨m3, hm3⟩ : ∃ m3, m2 = m3 + 1 := ⟨m2 - 1, by omega⟩
            subst hm3
            have t2 : ¬ x.at_ < c := by omega
            have hw2 : IntKind.i64.wrap ((m3 : Int) + 1 - 1) = (m3 : Int) := by rw [Int.add_sub_cancel]; exact IntWalk.i64_in _ (by omega)
            have HG := Lib.hid hg
            have HDR := Lib.hid hdr
            have HDL := Lib.hid hdl
            have HLEN := Lib.hid (show (wo L2 x.key x.kind).length = m3 by omega)
            have HC2 := Lib.hid hc2
            clear hg hdr hdl hlen hc2 hc tb kk hm hl2
            go_wp2_with (first
              | (go_at_call 14; refine (dueT T4.out hN).mono ?_
                 rw [HDR.out, HDL.out]
                 rintro e w5 ⟨rfl, t5, k5⟩
                 unfold firstV
                 have T5 := Lib.hid (t5.keep ((Keeps.refl (fun _ => False) w5).alloc (.cells #[.int .i64 x.at_, .string x.key, .int .i64 x.kind] 34)))
                 have K5 := Lib.hid ((K4.out.trans k5 (fun _ _ h => h)).alloc (.cells #[.int .i64 x.at_, .string x.key, .int .i64 x.kind] 34))
                 clear t5 k5)
              | (go_at_call 15; refine (nowT T4.out).mono ?_
                 rintro e w7 ⟨rfl, hw7⟩
                 rw [hw7]
                 clear hw7)
              | (go_at_call 13; refine (GoT TR.out hN 1125899906842624).mono ?_
                 rw [HG.out]
                 rintro e w4 ⟨rfl, t4, k4⟩
                 have T4 := Lib.hid t4
                 have K4 := Lib.hid (KK.out.trans k4 (fun _ _ h => h))
                 clear t4 k4))
            exact ⟨⟨j + 1, m3, x.at_, _, by go_num, rfl, by go_num, by omega, HLEN.out, HC2.out, T5.out, K5.out⟩, by simp [intOf]⟩
end Go.Proofs.Yteeginfbonfhlaa
