/- A thing that is set again is due once: walked. -/
import Derived.Test.YteeginfbonfhlaaW9
namespace Go.Proofs.Yteeginfbonfhlaa
open Go.RowKit Mem
theorem set_bad {t : Int} (h : t < 0 ∨ maxC < t) (c : Int) (L : List DU) (s : ByteArray) (i : Int) : setE t = 1 ∧ setL c L s i t = L := by
  unfold setE setL
  rw [if_pos h, if_pos h]
  exact ⟨rfl, rfl⟩
theorem set_ok {t : Int} (h : ¬ (t < 0 ∨ maxC < t)) (c : Int) (L : List DU) (s : ByteArray) (i : Int) : setE t = 0 ∧ setL c L s i t = wo L s i ++ [setD c s i t] := by
  unfold setE setL
  rw [if_neg h, if_neg h]
  exact ⟨rfl, rfl⟩
theorem wo_one (v : Int) (s : ByteArray) (i : Int) : wo [⟨v, s, i⟩] s i = [] := by simp [wo, same]
theorem one_first (x : DU) : firstI [x] = x.at_ ∧ someB [x] = true := ⟨rfl, rfl⟩
set_option maxRecDepth 100000 in
set_option maxHeartbeats 6400000 in
theorem once_any (s : ByteArray) (hs : isStr s) (i : Int) (hi : isInt i) (A : Option Addr) (n cp : Nat) (ts : List Int) (w : World) (hr : Reads (num .i64) w A n ts) (hz : ∀ x ∈ ts, isInt x) :
    Calls Try.prog 3 #[.string s, .int .i64 i, .slice A n cp] w fun e w' => e = .returned (.bool true) ∧ Keeps (fun _ => False) w w' := by
  have HR := Lib.hid hr
  have HZ := Lib.hid hz
  clear hr hz
  go_enter Try.func3, Try.ntmps3
  go_wp2_with (first
    | (go_at_call 8; refine (newT (B := fun q => w.heap.size ≤ q) w1 (fun q hq => Nat.le_trans K1.out.size hq)).mono ?_
       rintro e w2 ⟨g, rfl, t2, k2⟩
       have T2 := Lib.hid t2
       have K2 := Lib.hid (K1.out.trans k2 (fun _ _ h => h))
       clear t2 k2)
    | (go_at_call 7; refine (shown_any w).mono ?_
       rintro e w1 ⟨rfl, k1⟩
       have K1 := Lib.hid k1
       clear k1))
  go_loopw [9, 10] (fun v9 v10 wr => ∃ (k : Nat) (v : Int) (L : List DU), v9 = .int .i64 v ∧ v10 = .int .i64 k ∧ k ≤ n ∧ k ≤ 50 ∧ ((v = -1 ∧ L = []) ∨ (0 ≤ v ∧ L = [⟨v, s, i⟩])) ∧ TB (fun q => w.heap.size ≤ q) wr g 0 L k ∧ Keeps (fun q => w.heap.size ≤ q) w wr) (fun _ v10 _ => n - (intOf v10).toNat)
  case atStart => exact ⟨0, -1, [], rfl, rfl, Nat.zero_le _, Nat.zero_le _, .inl ⟨rfl, rfl⟩, T2.out, K2.out.mono (fun _ _ h => h.elim)⟩
  case round =>
    clear T2 K1 K2
    obtain ⟨k, v, L, rfl, rfl, hk1, hk2, hv, tb, kk⟩ := hrel
    have TR := Lib.hid tb
    have KK := Lib.hid kk
    by_cases hin : k < n ∧ k < 50
    · obtain ⟨hin1, hin2⟩ := hin
      obtain ⟨t, ht⟩ : ∃ t, ts[k]? = some t := ⟨_, List.getElem?_eq_getElem (by rw [HR.out.1]; exact hin1)⟩
      have hti := HZ.out t (List.mem_of_getElem? ht)
      obtain ⟨ad, hA, hc⟩ := (HR.out.keeps kk (fun ad hA h0 => by have := HR.out.lt h0 hA; omega)).at_ ht
      subst hA
      have q0 := hc 0 _ rfl
      simp [num] at q0
      have hfar : ¬ (fun q => w.heap.size ≤ q) ad.block := by have := HR.out.lt (by omega) rfl; omega
      have HC := Lib.hid hc
      have HFAR := Lib.hid hfar
      clear hc ht tb kk hfar
      rcases (show t < 0 ∨ (¬ t < 0 ∧ 1125899906842624 < t) ∨ (¬ t < 0 ∧ ¬ 1125899906842624 < t) by omega) with h1 | ⟨h1, h2⟩ | ⟨h1, h2⟩
      · obtain ⟨e1, e2⟩ := set_bad (t := t) (.inl h1) 0 L s i
        have E1 := Lib.hid e1
        have E2 := Lib.hid e2
        clear e1 e2 HC
        have h3 : ¬ (0 ≤ t) := by omega
        go_wp2_with (
          go_at_call 9; refine (setT TR.out (fun q hq => Nat.le_trans KK.out.size hq) (by omega) hs hi t hti).mono ?_
          rw [E1.out, E2.out]
          rintro e w3 ⟨rfl, t3, k3⟩
          have q1 := k3.cell (p := ad.add k) (by rw [block_add]; exact HFAR.out) q0
          have T3 := Lib.hid t3
          have K3 := Lib.hid (KK.out.trans k3 (fun _ _ h => h))
          clear t3 k3)
        exact ⟨⟨k + 1, v, L, rfl, by go_num, by omega, by omega, hv, T3.out, K3.out⟩, by simp [intOf]; omega⟩
      · obtain ⟨e1, e2⟩ := set_bad (t := t) (.inr h2) 0 L s i
        have E1 := Lib.hid e1
        have E2 := Lib.hid e2
        clear e1 e2 HC
        have h3 : 0 ≤ t := by omega
        have h4 : ¬ (t ≤ 1125899906842624) := by omega
        go_wp2_with (
          go_at_call 9; refine (setT TR.out (fun q hq => Nat.le_trans KK.out.size hq) (by omega) hs hi t hti).mono ?_
          rw [E1.out, E2.out]
          rintro e w3 ⟨rfl, t3, k3⟩
          have q1 := k3.cell (p := ad.add k) (by rw [block_add]; exact HFAR.out) q0
          have T3 := Lib.hid t3
          have K3 := Lib.hid (KK.out.trans k3 (fun _ _ h => h))
          clear t3 k3)
        exact ⟨⟨k + 1, v, L, rfl, by go_num, by omega, by omega, hv, T3.out, K3.out⟩, by simp [intOf]; omega⟩
      · obtain ⟨e1, e2⟩ := set_ok (t := t) (fun h => by unfold maxC at h; omega) 0 L s i
        have e3 : wo L s i ++ [setD 0 s i t] = [⟨t, s, i⟩] := by
          have hw : wo L s i = [] := by
            rcases hv with ⟨_, rfl⟩ | ⟨_, rfl⟩
            · rfl
            · exact wo_one v s i
          rw [hw]
          unfold setD setAt maxC
          have : (if 0 + t < 1125899906842624 then 0 + t else 1125899906842624) = t := by split <;> omega
          rw [this]
          rfl
        rw [e3] at e2
        have E1 := Lib.hid e1
        have E2 := Lib.hid e2
        clear e1 e2 e3 HC
        have h3 : 0 ≤ t := by omega
        have h4 : t ≤ 1125899906842624 := by omega
        go_wp2_with (
          go_at_call 9; refine (setT TR.out (fun q hq => Nat.le_trans KK.out.size hq) (by omega) hs hi t hti).mono ?_
          rw [E1.out, E2.out]
          rintro e w3 ⟨rfl, t3, k3⟩
          have q1 := k3.cell (p := ad.add k) (by rw [block_add]; exact HFAR.out) q0
          have T3 := Lib.hid t3
          have K3 := Lib.hid (KK.out.trans k3 (fun _ _ h => h))
          clear t3 k3)
        exact ⟨⟨k + 1, t, _, rfl, by go_num, by omega, by omega, .inr ⟨h3, rfl⟩, T3.out, K3.out⟩, by simp [intOf]; omega⟩
    · have TE : (¬ k < n) ∨ (k < n ∧ ¬ k < 50) := by omega
      clear tb kk hin
      rcases hv with ⟨rfl, rfl⟩ | ⟨hv0, rfl⟩
      · rcases TE with h1 | ⟨h1, h2⟩
        all_goals
          go_wp2_with (
            go_at_call 10; refine (lenT TR.out).mono ?_
            rintro e w3 ⟨rfl, hw3⟩
            rw [hw3]
            clear hw3)
          go_ret
          exact ⟨rfl, KK.out.mono (fun q hq h => by omega)⟩
      · have hnv : ¬ v < 0 := by omega
        have f1 := one_first ⟨v, s, i⟩
        have F1 := Lib.hid f1
        have hok := TR.out.ok ⟨v, s, i⟩ (by simp)
        have hg : getA [⟨v, s, i⟩] s i = some v := by simp [getA, same]
        have HG := Lib.hid hg
        have hgo : goC 0 [] 1125899906842624 = 1125899906842624 := by unfold goC goTo someB minD; decide
        have HGO := Lib.hid hgo
        have hdr : dueR 1125899906842624 [] = none := rfl
        have hdl : dueL 1125899906842624 [] = [] := rfl
        have HDR := Lib.hid hdr
        have HDL := Lib.hid hdl
        clear f1 hg hgo hdr hdl
        rcases TE with h1 | ⟨h1, h2⟩
        all_goals
          go_upto_region 23 with (first
            | (go_at_call 14; refine (dueT T6.out (by omega)).mono ?_
               rw [HDR.out, HDL.out]
               rintro e w7 ⟨rfl, t7, k7⟩
               unfold firstV
               have T7 := Lib.hid (t7.keep ((Keeps.refl (fun _ => False) w7).alloc (.cells #[.int .i64 0, .string ⟨#[]⟩, .int .i64 0] 34)))
               have K7 := Lib.hid ((K6.out.trans k7 (fun _ _ h => h)).alloc (.cells #[.int .i64 0, .string ⟨#[]⟩, .int .i64 0] 34))
               clear t7 k7)
            | (go_at_call 13; refine (GoT T5.out (by omega) 1125899906842624).mono ?_
               rw [HGO.out]
               rintro e w6 ⟨rfl, t6, k6⟩
               have T6 := Lib.hid t6
               have K6 := Lib.hid (K5.out.trans k6 (fun _ _ h => h))
               clear t6 k6)
            | (go_at_call 11; refine (FirstT T4.out (by omega)).mono ?_
               rintro e w5 ⟨rfl, t5, k5⟩
               have T5 := Lib.hid t5
               have K5 := Lib.hid (K4.out.trans k5 (fun _ _ h => h))
               clear t5 k5
               rw [show firstI [] = 0 from rfl, show someB [] = false from rfl])
            | (go_at_call 12; refine (dropT T3.out hs hi).mono ?_
               rw [HG.out, wo_one]
               rintro e w4 ⟨rfl, t4, k4⟩
               have T4 := Lib.hid t4
               have K4 := Lib.hid (K3.out.trans k4 (fun _ _ h => h))
               clear t4 k4)
            | (go_at_call 10; refine (lenT T3.out).mono ?_
               rintro e w8 ⟨rfl, hw8⟩
               rw [hw8]
               clear hw8)
            | (go_at_call 11; refine (FirstT TR.out (by omega)).mono ?_
               rw [F1.out.1, F1.out.2]
               rintro e w3 ⟨rfl, t3, k3⟩
               have T3 := Lib.hid t3
               have K3 := Lib.hid (KK.out.trans k3 (fun _ _ h => h))
               clear t3 k3))
          go_wp2_with (first
            | (go_at_call 15; refine (nowT T7.out).mono ?_
               rintro e w9 ⟨rfl, hw9⟩
               rw [hw9]
               clear hw9)
            | (go_at_call 10; refine (lenT T7.out).mono ?_
               rintro e w8 ⟨rfl, hw8⟩
               rw [hw8]
               clear hw8))
          go_ret
          exact ⟨rfl, K7.out.mono (fun q hq h => by omega)⟩
end Go.Proofs.Yteeginfbonfhlaa
