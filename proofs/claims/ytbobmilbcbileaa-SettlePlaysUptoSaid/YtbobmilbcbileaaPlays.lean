/- SettlePlays, walked. -/
import Derived.Test.YtbobmilbcbileaaPair
namespace Go.Proofs.Ytbobmilbcbileaa
open Go.RowKit Mem
/-- A call, in cells. -/
structure OPR where
  kind : Int
  A : Option Addr
  n : Nat
  c : Nat
  es : List (Int × Int)
def opE : Enc OPR where
  enc := fun o => [.int .i64 o.kind, .slice o.A o.n o.c]
  size := 2
  len := fun _ => rfl
  one := fun x u h => by
    simp at h
    rcases h with rfl | rfl <;> rfl
  pos := by decide
def okO (w : World) (o : OPR) : Prop := isInt o.kind ∧ Reads entry w o.A o.n o.es ∧ (∀ e ∈ o.es, okE e) ∧ o.n ≤ bulkM
set_option maxRecDepth 100000 in
set_option maxHeartbeats 6400000 in
theorem plays_no (acc : Int) (h : acc < 1 ∨ 7 < acc) (A0 : Option Addr) (n0 c0 : Nat) (w : World) :
    Calls Try.prog 6 #[.int .i64 acc, .slice A0 n0 c0] w fun e w' => e = .returned (.bool true) ∧ Below w.heap.size w w' := by
  go_enter Try.func6, Try.ntmps6
  go_wp2_with (first
    | (go_at_call 7; refine (shown_any w).mono ?_
       rintro e w1 ⟨rfl, k1⟩
       have K1 := Lib.hid k1
       clear k1)
    | (go_at_call 8; refine (new_no acc w1 h).mono ?_
       rintro e w2 ⟨rfl, hw2⟩
       rw [hw2]
       clear hw2)
    | (go_at_call 16; refine (refNew_no acc w1 h).mono ?_
       rintro e w3 ⟨rfl, hw3⟩
       rw [hw3]
       clear hw3))
  go_ret
  exact ⟨rfl, K1.out.below (Nat.le_refl _) (fun _ _ h => h)⟩
set_option maxRecDepth 100000 in
set_option maxHeartbeats 25600000 in
theorem plays_yes (n : Nat) (h1 : 1 ≤ n) (h7 : n ≤ 7) (ops : List OPR) (A0 : Option Addr) (n0 c0 : Nat) (w : World) (h0 : Reads opE w A0 n0 ops) (ok0 : ∀ o ∈ ops, okO w o) :
    Calls Try.prog 6 #[.int .i64 n, .slice A0 n0 c0] w fun e w' => e = .returned (.bool true) ∧ Below w.heap.size w w' := by
  have R0 := Lib.hid h0
  have OK0 := Lib.hid ok0
  have LA := Lib.hid h0.1
  clear h0 ok0
  go_enter Try.func6, Try.ntmps6
  go_wp2_with (first
    | (go_at_call 7; refine (shown_any w).mono ?_
       rintro e w1 ⟨rfl, k1⟩
       have K1 := Lib.hid k1
       have hz1 := k1.size
       clear k1)
    | (go_at_call 8; refine (new_any n w1 h1 h7).mono ?_
       rintro e w2 ⟨gx, A2, c2, rfl, d2, hgx, k2⟩
       have D2 := Lib.hid d2
       have K2 := Lib.hid (K1.out.trans k2 (fun _ _ h => h))
       have hz2 := k2.size
       have hxl := d2.box.lt
       clear d2 k2)
    | (go_at_call 16; refine (refNew_any n w2 h1 h7).mono ?_
       rintro e w3 ⟨gy, rfl, r3, hgy, k3⟩
       have P3 : Hid (PairS w3 gx gy n 0) := Lib.hid ⟨1, A2, c2, none, 0, 0, 0, none, none, 0, 0, 0, false, [], zeros n, [], D2.out.keep k3, r3, by omega, by omega, by omega⟩
       have K3 := Lib.hid (K2.out.trans k3 (fun _ _ h => h))
       have hz3 := k3.size
       have hyl := r3.box.lt
       clear r3 k3)
    | (go_at_call 17; refine (pair_clone P3.out).mono ?_
       rintro e w4 ⟨gz, rfl, hgz, k4, p4⟩
       have P4 := Lib.hid (P3.out.keep k4)
       have Q4 := Lib.hid p4
       have K4 := Lib.hid (K3.out.trans k4 (fun _ _ h => h))
       have hz4 := k4.size
       clear k4 p4)
    | (go_at_call 18; refine (pair_refClone Q4.out).mono ?_
       rintro e w5 ⟨gw, rfl, hgw, k5, p5⟩
       have P5 := Lib.hid (P4.out.keep k5)
       have Q5 := Lib.hid p5
       have K5 := Lib.hid (K4.out.trans k5 (fun _ _ h => h))
       have hz5 := k5.size
       clear k5 p5))
  go_loopw [6, 8, 10, 11, 12] (fun u6 u8 u10 u11 v wr => ∃ (k gx gy gz gw : Nat), k ≤ n0 ∧ k ≤ 60 ∧ v = .int .i64 k ∧ u6 = .pointer (some ⟨gx, 0, none⟩) ∧ u8 = .pointer (some ⟨gy, 0, none⟩) ∧ u10 = .pointer (some ⟨gz, 0, none⟩) ∧ u11 = .pointer (some ⟨gw, 0, none⟩) ∧ PairS wr gx gy n k ∧ PairS wr gz gw n k ∧ gz ≠ gx ∧ gw ≠ gy ∧ w.heap.size ≤ gx ∧ w.heap.size ≤ gy ∧ w.heap.size ≤ gz ∧ w.heap.size ≤ gw ∧ Keeps (fun _ => False) w wr) (fun _ _ _ _ v _ => n0 - (intOf v).toNat)
  case atStart => exact ⟨0, gx, gy, gz, gw, Nat.zero_le _, Nat.zero_le _, rfl, rfl, rfl, rfl, rfl, P5.out, Q5.out, by omega, by omega, by omega, by omega, by omega, by omega, K5.out⟩
  case round =>
    clear P3 P4 Q4 P5 Q5 D2 K5 hgx hgy hgz hgw hxl hyl
    obtain ⟨k, gx, gy, gz, gw, hk, hk', rfl, rfl, rfl, rfl, rfl, px, pz, hzx, hwy, hx0, hy0, hz0, hw0, kk⟩ := hrel
    obtain ⟨wo, hwo⟩ : ∃ wo : World, wo = wr := ⟨_, rfl⟩
    subst hwo
    have P := Lib.hid px
    have Q := Lib.hid pz
    have KK := Lib.hid kk
    obtain ⟨⟨cx, hbx⟩, ⟨cy, hby⟩⟩ := px.box
    have BX := Lib.hid hbx
    have BY := Lib.hid hby
    have hgxl := hbx.lt
    have hgyl := hby.lt
    have hzo := kk.size
    clear px pz kk hbx hby
    by_cases hkn : k < n0 ∧ k < 60
    · obtain ⟨hk1, hk2⟩ := hkn
      obtain ⟨⟨kd, Ao, no', co, es⟩, hop⟩ : ∃ o, ops[k]? = some o := ⟨_, List.getElem?_eq_getElem (by rw [LA.out]; exact hk1)⟩
      obtain ⟨ad, hA, hc⟩ := (R0.out.keeps KK.out (fun _ _ _ h => h)).at_ hop
      subst hA
      obtain ⟨o1, o2, o3, o4⟩ := OK0.out _ (List.mem_of_getElem? hop)
      simp only at o1 o2 o3 o4
      have q0 := hc 0 _ rfl
      have q1 := hc 1 _ rfl
      simp [opE] at q0 q1
      rw [← add_add, add_pos _ (by decide : 0 < 1)] at q1
      obtain ⟨wa, hwa⟩ : ∃ wa, wa = wo.alloc (.cells #[.int .i64 kd, .slice Ao no' co] 57) := ⟨_, rfl⟩
      have ba : Blk wa wo.heap.size 57 #[.int .i64 kd, .slice Ao no' co] := by rw [hwa]; exact Blk.new wo 57 _ _ rfl
      have ka : Keeps (fun _ => False) wo wa := by rw [hwa]; exact (Keeps.refl _ wo).alloc _
      have x0 := ba.cell 0
      have x1 := ba.cell 1
      simp at x0 x1
      have PA := Lib.hid (P.out.keep ka)
      have QA := Lib.hid (Q.out.keep ka)
      have KA := Lib.hid (KK.out.trans ka (fun _ _ h => h))
      have BXA := Lib.hid (BX.out.keeps ka (fun h => h))
      have BYA := Lib.hid (BY.out.keeps ka (fun h => h))
      have RO := Lib.hid o2
      have OKO := Lib.hid o3
      have OB := Lib.hid o4
      have O1 := Lib.hid o1
      have BA := Lib.hid ba
      have HWA := Lib.hid hwa
      have hla := ba.lt
      have hob : no' ≤ 1048576 := o4
      clear hop hc o1 o2 o3 o4 ba ka
      go_upto_region 16 with fail
      rw [← HWA.out]
      clear HWA q0 q1 hwa
      obtain ⟨kn, hkd⟩ : ∃ kn, kn = knd kd := ⟨_, rfl⟩
      have HKD := Lib.hid hkd
      have mL : True := trivial
      by_cases hk4 : kn = 4
      · clear hkd
        subst hk4
        obtain ⟨no, A, c, AL, ln, lc, no2, A2, A3, n2, c2, c3, cl, L, T, T2, hs, hr, hno, hno', hln⟩ := PA.out
        have S := Lib.hid hs
        have R := Lib.hid hr
        have HLN := Lib.hid hln
        clear hs hr hln
        go_wp2_with (first
          | (go_at_call 19; refine (kind_any kd O1.out wa).mono ?_
             rintro e w1 ⟨rfl, hw1⟩
             rw [hw1, ← HKD.out]
             clear hw1)
          | (go_at_call 11; refine (cut_any2 S.out hno (by omega)).mono ?_
             rintro e w6 ⟨A6, c6, A7, c7, rfl, o6, d6, k6, far6⟩
             have hla6 : ∀ q, (Value.slice A6 n c6).ownBlock = some q → q < w6.heap.size := fun q hq => o6.lt hq
             have kk6 := k6.alloc (.cells #[.int .i64 no, .slice A6 n c6] 38)
             have S6 := Lib.hid (d6.keep ((Keeps.refl (fun _ => False) w6).alloc (.cells #[.int .i64 no, .slice A6 n c6] 38)))
             have R6 := Lib.hid (R.out.keepl S.out.box kk6)
             have O6 := Lib.hid (o6.alloc (.cells #[.int .i64 no, .slice A6 n c6] 38))
             have X6 := Lib.hid (Blk.new w6 38 #[.int .i64 no, .slice A6 n c6] _ rfl)
             have K6 := Lib.hid (kk6.mono (S' := fun b => b = gx ∨ b = gy) (fun _ _ h => Or.inl h))
             have FAR6 := Lib.hid far6
             have HLA6 := Lib.hid hla6
             have hz6 := k6.size
             clear o6 d6 k6 kk6 far6 hla6)
          | (go_at_call 20; refine (refCut_any R6.out (by have := bulk_le HLN.out (by omega); omega) hno (by omega)).mono ?_
             rintro e w7 ⟨A8, c8, rfl, r7, k7, far7⟩
             have kk7 := k7.alloc (.cells #[.int .i64 no, .slice A8 n c8] 38)
             have al7 := (Keeps.refl (fun _ => False) w7).alloc (.cells #[.int .i64 no, .slice A8 n c8] 38)
             have x7 := X6.out.keeps kk7 (fun e => X6.out.ne_ R6.out.box (by decide) e)
             have y7 : Blk (w7.alloc (.cells #[.int .i64 no, .slice A8 n c8] 38)) w7.heap.size 38 #[.int .i64 no, .slice A8 n c8] := Blk.new w7 38 _ _ rfl
             have u0 := x7.cell 0
             have u1 := x7.cell 1
             have v0 := y7.cell 0
             have v1 := y7.cell 1
             simp at u0 u1 v0 v1
             have S7 := Lib.hid ((S6.out.keepr R6.out.box k7).keep al7)
             have R7 := Lib.hid (r7.keep al7)
             have O7 := Lib.hid (O6.out.keeps kk7 (fun q hq e => by rw [e] at hq; exact O6.out.blk_ne R6.out.box (by decide) hq))
             have X7 := Lib.hid x7
             have K7 := Lib.hid (K6.out.trans kk7 (fun b hb h => Or.inr h))
             have FAR7 := Lib.hid far7
             clear r7 k7 kk7 al7 x7 y7 far7)
          | (go_at_call 12; refine (same_yes no T A6 n c6 A8 c8 _ (own_reads O7.out) (own_reads R7.out.past) (by omega)).mono ?_
             rintro e w8 ⟨rfl, k8⟩
             have S8 := Lib.hid (S7.out.keep k8)
             have R8 := Lib.hid (R7.out.keep k8)
             have O8 := Lib.hid (O7.out.keeps k8 (fun _ _ h => h))
             have X8 := Lib.hid (X7.out.keeps k8 (fun h => h))
             have K8 := Lib.hid (K7.out.trans k8 (fun _ _ h => h.elim))
             clear k8))
        go_loopw [17] (fun v wr => ∃ (i : Nat) (T' : List T6), i ≤ n ∧ v = .int .i64 i ∧ T'.length = n ∧ Own total wr wa.heap.size 41 (.slice A6 n c6) T' ∧ Blk wr w6.heap.size 38 #[.int .i64 no, .slice A6 n c6] ∧ S5 wr gx (no + 1) A7 n c7 no A n c true (zeros n) T ∧ RS wr gy n (no + 1) none 0 0 no A8 n c8 true [] (zeros n) T ∧ Keeps (fun b => b = gx ∨ b = gy) wa wr) (fun v _ => n - (intOf v).toNat)
        case atStart => exact ⟨0, T, Nat.zero_le _, rfl, O8.out.len_eq rfl, O8.out, X8.out, S8.out, R8.out, K8.out⟩
        case round =>
          clear S6 R6 O6 X6 K6 S7 R7 O7 X7 K7 S8 R8 O8 X8 K8 u0 u1 v0 v1
          obtain ⟨i, T', hi, rfl, hl, ho, hx, hs5, hr5, hk5⟩ := hrel
          have S5' := Lib.hid hs5
          have R5 := Lib.hid hr5
          have K5 := Lib.hid hk5
          have HO := Lib.hid ho
          have HX := Lib.hid hx
          have HLL := Lib.hid hl
          have z1 := hx.cell 1
          simp at z1
          clear hs5 hr5 hk5 ho hx hl
          by_cases hin : i < n
          · obtain ⟨t, ht⟩ : ∃ t, T'[i]? = some t := ⟨_, List.getElem?_eq_getElem (by rw [HLL.out]; exact hin)⟩
            obtain ⟨b6, c6', hv6, hb6, hb6l, _⟩ := HO.out.form (by rw [HLL.out]; omega)
            injection hv6 with hA6 hn6 hc6
            subst hA6
            have q5 := HO.out.at_ ht (j := 5) rfl
            simp [total] at q5
            have f5 := HO.out.frozen (i * 6 + 5)
            have hst := HO.out.store (j := 5) (y := { t with net := 88 }) (u := .int .i64 88) ht (by decide) rfl
            have HST := Lib.hid hst
            have hne : w6.heap.size ≠ b6 := fun e => by
              have := HO.out.blk_ne HX.out (by decide)
              exact this (by rw [e]; rfl)
            have hf6 := FAR6.out b6 rfl
            have hl6 : b6 < w6.heap.size := HLA6.out b6 rfl
            have hxne : gx ≠ b6 := fun e => by
              have := HO.out.blk_ne S5'.out.box (by decide)
              exact this (by rw [e]; rfl)
            have hyne : gy ≠ b6 := fun e => by
              have := HO.out.blk_ne R5.out.box (by decide)
              exact this (by rw [e]; rfl)
            have HF6 := Lib.hid hf6
            clear ht hst hn6 hc6 hf6
            go_wp2_with fail
            exact ⟨⟨i + 1, _, by omega, by go_num, by rw [List.length_set]; exact HLL.out, HST.out, HX.out.far (by show w6.heap.size ≠ b6; exact hne) _, S5'.out.far hxne HF6.out.2.1 HF6.out.2.2, R5.out.far hyne (by simp [Value.ownBlock]) (fun h => by have := FAR7.out b6 h; simp at this; omega), K5.out.setCell _ _ (fun h => by have := HF6.out.1; simp at h; omega)⟩, by simp [intOf]; omega⟩
          · have P5 : Hid (PairS wr gx gy n (k + 1)) := Lib.hid ⟨no + 1, A7, c7, none, 0, 0, no, A, A8, n, c, c8, true, [], zeros n, T, S5'.out, R5.out, by omega, by omega, Nat.zero_le _⟩
            have Q5 := Lib.hid ((QA.out.keep2 BXA.out BYA.out hzx hwy K5.out).up)
            have K55 := Lib.hid (KA.out.trans K5.out (fun b hb h => by omega))
            go_wp2_with (first
              | (go_at_call 22; clear mL; refine (pair_like P5.out (by omega)).mono ?_
                 rintro e w8 ⟨rfl, k8⟩
                 have P8 := Lib.hid (P5.out.keep k8)
                 have Q8 := Lib.hid (Q5.out.keep k8)
                 have K8 := Lib.hid (K55.out.trans k8 (fun _ _ h => h))
                 clear k8)
              | (go_at_call 22; refine (pair_like Q8.out (by omega)).mono ?_
                 rintro e w9 ⟨rfl, k9⟩
                 have P9 := Lib.hid (P8.out.keep k9)
                 have Q9 := Lib.hid (Q8.out.keep k9)
                 have K9 := Lib.hid (K8.out.trans k9 (fun _ _ h => h))
                 clear k9))
            exact ⟨⟨k + 1, gx, gy, gz, gw, by omega, by omega, by go_num, rfl, rfl, rfl, rfl, P9.out, Q9.out, hzx, hwy, hx0, hy0, hz0, hw0, K9.out⟩, by simp [intOf]; omega⟩
      · by_cases hk5 : kn = 5
        · have t4 : (kn == 4) = false := by simpa using hk4
          clear hk4 hkd
          subst hk5
          go_wp2_with (first
            | (go_at_call 19; refine (kind_any kd O1.out wa).mono ?_
               rintro e w1 ⟨rfl, hw1⟩
               rw [hw1, ← HKD.out]
               clear hw1)
            | (go_at_call 17; refine (pair_clone PA.out).mono ?_
               rintro e w4 ⟨g1, rfl, hg1, k4, p4⟩
               have P4 := Lib.hid p4
               have Q4 := Lib.hid (PA.out.keep k4)
               have K4 := Lib.hid (KA.out.trans k4 (fun _ _ h => h))
               have hz4 := k4.size
               clear k4 p4)
            | (go_at_call 18; refine (pair_refClone P4.out).mono ?_
               rintro e w5 ⟨g2, rfl, hg2, k5, p5⟩
               have P5 := Lib.hid p5.up
               have Q5 := Lib.hid (Q4.out.keep k5).up
               have K5 := Lib.hid (K4.out.trans k5 (fun _ _ h => h))
               clear k5 p5)
            | (go_at_call 22; clear mL; refine (pair_like P5.out (by omega)).mono ?_
               rintro e w8 ⟨rfl, k8⟩
               have P8 := Lib.hid (P5.out.keep k8)
               have Q8 := Lib.hid (Q5.out.keep k8)
               have K8 := Lib.hid (K5.out.trans k8 (fun _ _ h => h))
               clear k8)
            | (go_at_call 22; refine (pair_like Q8.out (by omega)).mono ?_
               rintro e w9 ⟨rfl, k9⟩
               have P9 := Lib.hid (P8.out.keep k9)
               have Q9 := Lib.hid (Q8.out.keep k9)
               have K9 := Lib.hid (K8.out.trans k9 (fun _ _ h => h))
               clear k9))
          exact ⟨⟨k + 1, g1, g2, gx, gy, by omega, by omega, by go_num, rfl, rfl, rfl, rfl, P9.out, Q9.out, by omega, by omega, by omega, by omega, hx0, hy0, K9.out⟩, by simp [intOf]; omega⟩
        · have t4 : (kn == 4) = false := by simpa using hk4
          have t5 : (kn == 5) = false := by simpa using hk5
          clear hk4 hk5 hkd
          obtain ⟨no, A, c, AL, ln, lc, no2, A2, A3, n2, c2, c3, cl, L, T, T2, hs, hr, hno, hno', hln⟩ := PA.out
          have S := Lib.hid hs
          have R := Lib.hid hr
          have HLN := Lib.hid hln
          clear hs hr hln
          go_wp2_with (first
            | (go_at_call 19; refine (kind_any kd O1.out wa).mono ?_
               rintro e w1 ⟨rfl, hw1⟩
               rw [hw1, ← HKD.out]
               clear hw1)
            | (at_builtin; refine wp_append elem34 (by rfl) (.tmp 73) (.tmp 75) (by rfl) wa.heap.size (.slice (some ⟨wa.heap.size, 0, none⟩) 0 0) [] es Ao no' co rfl rfl (own_empty _ _ _ _ _ rfl (Nat.le_refl _)) ((RO.out.keeps KA.out (fun _ _ _ h => h)).alloc _) (by simp; omega) (by simp [maxLen]; omega) (by simp) ?_
               intro v5 w5 own5 gr5 at5
               rw [List.nil_append] at own5
               obtain ⟨A5, c5, hv5, _⟩ := Own.val (n := no') own5 RO.out.1
               rw [hv5]
               rw [hv5] at own5
               have k5 := app_empty wa wa.heap.size rfl gr5
               have O5 := Lib.hid own5
               have S5' := Lib.hid (S.out.keep k5)
               have R5 := Lib.hid (R.out.keep k5)
               have K5 := Lib.hid k5
               clear own5 gr5 at5 hv5 k5)
            | (go_at_call 10; refine (count_any S5'.out es A5 no' c5 (own_reads O5.out) OKO.out (by omega)).mono ?_
               rintro e w6 ⟨rfl, ⟨A6, c6, d6⟩, k6⟩
               have k6' : Keeps (fun b => b = gx ∨ b = gy) wa w6 := (K5.out.mono (S' := fun b => b = gx ∨ b = gy) (fun _ _ h => h.elim)).trans k6 (fun b hb h => Or.inl h)
               have kw6 := KA.out.trans k6' (fun b hb h => by omega)
               have y1 := (BA.out.keeps k6' (fun h => by omega)).cell 1
               simp at y1
               have S6 := Lib.hid d6
               have R6 := Lib.hid (R5.out.keepl S5'.out.box k6)
               have K6 := Lib.hid k6'
               have KW6 := Lib.hid kw6
               clear d6 k6 k6' kw6)
            | (go_at_call 21; refine (refCount_any R6.out es Ao no' co (RO.out.keeps KW6.out (fun _ _ _ h => h)) OKO.out (by omega) (by have := bulk_le HLN.out (by omega); omega)).mono ?_
               rintro e w7 ⟨rfl, ⟨A7, ln7, c7, L7, r7, hl7⟩, k7⟩
               have k7' : Keeps (fun b => b = gx ∨ b = gy) wa w7 := K6.out.trans k7 (fun b hb h => Or.inr h)
               have P7 : Hid (PairS w7 gx gy n (k + 1)) := Lib.hid ⟨no, A6, c6, A7, ln7, c7, no2, A2, A3, n2, c2, c3, cl, L7, countT T es, T2, S6.out.keepr R6.out.box k7, r7, hno, by omega, Nat.le_trans hl7 (bulk_up HLN.out OB.out)⟩
               have Q7 := Lib.hid ((QA.out.keep2 BXA.out BYA.out hzx hwy k7').up)
               have K7 := Lib.hid (KA.out.trans k7' (fun b hb h => by omega))
               clear r7 hl7 k7 k7')
            | (go_at_call 22; clear mL; refine (pair_like P7.out (by omega)).mono ?_
               rintro e w8 ⟨rfl, k8⟩
               have P8 := Lib.hid (P7.out.keep k8)
               have Q8 := Lib.hid (Q7.out.keep k8)
               have K8 := Lib.hid (K7.out.trans k8 (fun _ _ h => h))
               clear k8)
            | (go_at_call 22; refine (pair_like Q8.out (by omega)).mono ?_
               rintro e w9 ⟨rfl, k9⟩
               have P9 := Lib.hid (P8.out.keep k9)
               have Q9 := Lib.hid (Q8.out.keep k9)
               have K9 := Lib.hid (K8.out.trans k9 (fun _ _ h => h))
               clear k9))
          exact ⟨⟨k + 1, gx, gy, gz, gw, by omega, by omega, by go_num, rfl, rfl, rfl, rfl, P9.out, Q9.out, hzx, hwy, hx0, hy0, hz0, hw0, K9.out⟩, by simp [intOf]; omega⟩
    · have KX := Lib.hid (KK.out.below (Nat.le_refl w.heap.size) (fun b hb h => h))
      rcases (show ¬ k < n0 ∨ (k < n0 ∧ ¬ k < 60) by omega) with h | ⟨h, h'⟩
      all_goals
        clear hkn
        go_wp2_with fail
        go_ret
        exact ⟨rfl, KX.out⟩
theorem plays_any (acc : Int) (ops : List OPR) (A0 : Option Addr) (n0 c0 : Nat) (w : World) (h0 : Reads opE w A0 n0 ops) (ok0 : ∀ o ∈ ops, okO w o) :
    Calls Try.prog 6 #[.int .i64 acc, .slice A0 n0 c0] w fun e w' => e = .returned (.bool true) ∧ Below w.heap.size w w' := by
  by_cases h : 1 ≤ acc ∧ acc ≤ 7
  · obtain ⟨n, rfl⟩ := Int.eq_ofNat_of_zero_le (show 0 ≤ acc by omega)
    exact plays_yes n (by omega) (by omega) ops A0 n0 c0 w h0 ok0
  · exact plays_no acc (by omega) A0 n0 c0 w
end Go.Proofs.Ytbobmilbcbileaa
