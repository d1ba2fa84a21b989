/- StandinPlays, walked. -/
import Derived.Test.YtpkmdhplbpejhaaFour
import Derived.Test.YtpkmdhplbpejhaaShown
namespace Go.Proofs.Ytpkmdhplbpejhaa
open Go.RowKit Mem
theorem Four.up {w wr : World} {n : Nat} {ls : List (Int × Int)} {Ax : Option Addr} {cx : Nat} {Ay : Option Addr} {cy g1 m1 g2 m2 g3 g4 k k' : Nat} {M1 M2 : Int → ByteArray → Int} {L1 L2 : List H3} (f : Four w wr n ls Ax cx Ay cy g1 m1 g2 m2 g3 g4 k M1 M2 L1 L2) (h : k ≤ k') : Four w wr n ls Ax cx Ay cy g1 m1 g2 m2 g3 g4 k' M1 M2 L1 L2 :=
  ⟨f.x.up h, f.z.up h, f.y.up h, f.v.up h, f.ox, f.m, f.h, f.above, f.below⟩
theorem look_nil : (fun _ _ => 0) = look [] := by
  funext i s
  simp [look]
/-- Both cells of one of the rows. -/
theorem Own.stand_set {w : World} {base g n c : Nat} {l : List (Int × Int)} (h : Own stand w base 35 (.slice (some ⟨g, 0, none⟩) n c) l) {i : Nat} {x : Int × Int} (hi : l[i]? = some x) (a b : Int) :
    Own stand ((w.setCell ⟨g, i * 2, none⟩ (.int .i64 a)).setCell ⟨g, i * 2 + 1, none⟩ (.int .i64 b)) base 35 (.slice (some ⟨g, 0, none⟩) n c) ((l.set i (a, x.2)).set i (a, b)) := by
  have h1 := h.store (i := i) (j := 0) (x := x) (y := (a, x.2)) (u := .int .i64 a) hi (by decide) rfl
  have hl := (List.getElem?_eq_some_iff.1 hi).1
  have h2 := h1.store (i := i) (j := 1) (x := (a, x.2)) (y := (a, b)) (u := .int .i64 b) (List.getElem?_set_self hl) (by decide) rfl
  exact h2
set_option maxRecDepth 100000 in
set_option maxHeartbeats 6400000 in
theorem plays_any (ls : List (Int × Int)) (A : Option Addr) (n c : Nat) (os : List Op4) (A1 : Option Addr) (n1 c1 : Nat) (w : World) (hl : Reads stand w A n ls) (ho : Reads op4 w A1 n1 os) (hok : ∀ o ∈ os, okOp o) (hn : n * 16 ≤ 140737488355328) :
    Calls Try.prog 5 #[.slice A n c, .slice A1 n1 c1] w fun e w' => e = .returned (.bool true) ∧ Below w.heap.size w w' := by
  have hln := hl.1
  have hlo := ho.1
  have HLN := Lib.hid hln
  have HLO := Lib.hid hlo
  have HL := Lib.hid hl
  have HO := Lib.hid ho
  have OK := Lib.hid hok
  clear hl ho hok hln hlo
  obtain ⟨ne, hne⟩ : ∃ ne, ne = newE ls := ⟨_, rfl⟩
  have hne' : ne = 0 ∨ (ne == 0) = false := by
    by_cases h : ne = 0
    · exact .inl h
    · exact .inr (by simpa using h)
  have NE := Lib.hid hne
  clear hne
  rcases hne' with rfl | hne'
  · go_enter Try.func5, Try.ntmps5
    go_wp2_with (first
      | (go_at_call 6; refine (shown_any _).mono ?_
         rintro e w1 ⟨rfl, hk1⟩
         have K1 := Lib.hid hk1
         clear hk1)
      | (go_at_call 7; refine (new_any ls A2 n c2 w2 R2.out).mono ?_
         rintro e w3 ⟨v, rfl, made, k0⟩
         rw [← NE.out]
         have MADE := Lib.hid made
         have K0 := Lib.hid k0
         clear made k0)
      | (at_builtin; refine wp_append elem35 (by rfl) (.tmp 19) (.tmp 20) (by rfl) w1.heap.size (.slice (some ⟨w1.heap.size, 0, none⟩) 0 0) [] ls A n c rfl rfl (own_empty _ _ _ _ _ rfl (Nat.le_refl _)) ((HL.out.keeps K1.out (fun _ _ _ h => h)).alloc _) (by simp; omega) (by simp [maxLen]; omega) (by simp) ?_
         intro v2 w2 own2 gr2 at2
         rw [List.nil_append] at own2
         obtain ⟨A2, c2, hv2, r2⟩ := Own.val own2 HLN.out
         rw [hv2]
         rw [hv2] at own2
         have O2 := Lib.hid own2
         have R2 := Lib.hid r2
         have K2 := Lib.hid (app_empty w1 w1.heap.size rfl gr2)
         clear own2 r2 gr2 at2 hv2))
    go_loopw [9] (fun i wr => ∃ (k : Nat) (l2 : List (Int × Int)), k ≤ n ∧ i = .int .i64 k ∧ Own stand wr w1.heap.size 35 (.slice A2 n c2) l2 ∧ Keeps (fun b => (Value.slice A2 n c2).ownBlock = some b) w3 wr) (fun i _ => n - (intOf i).toNat)
    case atStart => exact ⟨0, ls, Nat.zero_le _, rfl, O2.out.keeps K0.out (fun _ _ h => h), Keeps.refl _ _⟩
    case round =>
      obtain ⟨k, l2, hk, rfl, ow, kk⟩ := hrel
      by_cases hkn : k < n
      · have hlen := ow.len_eq rfl
        obtain ⟨g6, c6, hv6, _, _, _⟩ := ow.form (by omega)
        injection hv6 with hA6 hn6 hc6
        subst hA6
        obtain ⟨x, hx⟩ : ∃ x, l2[k]? = some x := ⟨_, List.getElem?_eq_getElem (by omega)⟩
        have q0 : wr.cell? ⟨g6, k * 2, none⟩ = some (.int .i64 x.1) := ow.at_ hx (j := 0) rfl
        have q1 : wr.cell? ⟨g6, k * 2 + 1, none⟩ = some (.int .i64 x.2) := ow.at_ hx (j := 1) rfl
        have f0 := ow.frozen (k * 2)
        have f1 := ow.frozen (k * 2 + 1)
        have st := Own.stand_set ow hx 549755813888 549755813888
        have kst := (kk.setCell ⟨g6, k * 2, none⟩ (.int .i64 549755813888) (fun _ => rfl)).setCell ⟨g6, k * 2 + 1, none⟩ (.int .i64 549755813888) (fun _ => rfl)
        have ST := Lib.hid st
        have KST := Lib.hid kst
        clear ow kk hx st kst hlen hn6 hc6
        go_wp2_with fail
        refine ⟨⟨k + 1, _, by omega, by go_num, ST.out, KST.out⟩, by simp [intOf]; omega⟩
      · have OW := Lib.hid ow
        have KK := Lib.hid kk
        clear ow kk
        obtain ⟨w4, hw4⟩ : ∃ w4, w4 = wr := ⟨_, rfl⟩
        subst hw4
        have hz1 := K1.out.size
        have hz2 := K2.out.size
        have hz3 := K0.out.size
        have hz4 := KK.out.size
        have hb4 : Below w.heap.size w w4 := (K1.out.below (Nat.le_refl _) (fun _ _ h => h)).trans ((K2.out.below hz1 (fun _ _ h => h)).trans ((K0.out.below (by omega) (fun _ _ h => h)).trans (KK.out.below (by omega) (fun b hb h => by have := O2.out.base_le h; omega))))
        have B4 := Lib.hid hb4
        have hl4 : Reads stand w4 A n ls := HL.out.keeps (S := fun b => w.heap.size ≤ b) ⟨hb4.os, hb4.tape, hb4.output, hb4.size, fun b hb _ => hb4.block b hb⟩ (fun ad e h0 h => by have := HL.out.lt h0 e; omega)
        have L4 := Lib.hid hl4
        clear hb4 hl4
        rcases MADE.out with ⟨h, _⟩ | ⟨_, g1, m1, cx, Ax, hv, d0, hg, hm, hA, ox⟩
        · exact absurd NE.out.symm h
        subst hv
        rw [HLN.out] at d0 ox
        have hO3 : Own stand w3 w1.heap.size 35 (.slice A2 n c2) ls := O2.out.keeps K0.out (fun _ _ h => h)
        have hax : ∀ q, (Value.slice Ax n cx).ownBlock = some q → w2.heap.size ≤ q := fun q hq => by
          cases Ax with
          | none => simp [Value.ownBlock] at hq
          | some ad => have := hA ad rfl; simp [Value.ownBlock] at hq; omega
        have d4 : Desk w4 g1 m1 0 Ax n cx ls (fun _ _ => 0) := d0.keeps KK.out (fun h => hO3.blk_ne d0.box (by decide) h) (fun h => own_ne_map (hO3.rebase 0 (fun _ _ => Nat.zero_le _)) d0.map _ h rfl) (fun ad e h0 h => by have := hA ad e; have := O2.out.lt h; omega)
        have ox4 : Own stand w4 0 35 (.slice Ax n cx) ls := ox.keeps KK.out (fun q hq h => by have := hax q hq; have := O2.out.lt h; omega)
        have D4 := Lib.hid d4
        have OX4 := Lib.hid ox4
        have AB : w.heap.size ≤ m1 := by omega
        have hne0 : newE ls = 0 := NE.out.symm
        clear d0 ox hA hax hO3 d4 ox4 hg hm
        have mark : True := trivial
        go_wp2_with (first
          | (go_at_call 12; refine (refNew_any ls A n c w4 L4.out).mono ?_
             rintro e w5 ⟨v', rfl, made', k5⟩
             rw [← NE.out]
             rcases made' with ⟨h, _⟩ | ⟨_, g3, cy, Ay, rfl, r5, hg3, hay⟩
             · exact absurd hne0 h
             rw [HLN.out] at r5
             have R5 := Lib.hid r5
             have D5 := Lib.hid (D4.out.keeps k5 (fun h => h) (fun h => h) (fun _ _ _ h => h))
             have OX5 := Lib.hid (OX4.out.keeps k5 (fun _ _ h => h))
             have B5 := Lib.hid (B4.out.trans (k5.below B4.out.size (fun _ _ h => h)))
             have hz5 := k5.size
             clear r5 k5 hay)
          | (go_at_call 13; refine (deskClone_any D5.out).mono ?_
             rintro e w6 ⟨g2, m2, rfl, d6, hg2, hm2, k6⟩
             have D6 := Lib.hid d6
             have D6x := Lib.hid (D5.out.keeps k6 (fun h => h) (fun h => h) (fun _ _ _ h => h))
             have R6 := Lib.hid (R5.out.keep k6)
             have OX6 := Lib.hid (OX5.out.keeps k6 (fun _ _ h => h))
             have B6 := Lib.hid (B5.out.trans (k6.below B5.out.size (fun _ _ h => h)))
             have hz6 := k6.size
             have hm1l := D5.out.map.lt
             have hm12 : m1 ≠ m2 := by omega
             clear d6 k6)
          | (go_at_call 14; refine (refClone_any R6.out).mono ?_
             rintro e w7 ⟨rfl, r7, k7⟩
             have hg3l := R6.out.box.lt
             have f7 : Four w w7 n ls Ax cx Ay cy g1 m1 g2 m2 g3 w6.heap.size 0 (look []) (look []) [] [] :=
               ⟨look_nil ▸ D6x.out.keeps k7 (fun h => h) (fun h => h) (fun _ _ _ h => h), look_nil ▸ D6.out.keeps k7 (fun h => h) (fun h => h) (fun _ _ _ h => h), ⟨_, _, _, Nat.le_refl _, R6.out.keep k7⟩, ⟨_, _, _, Nat.le_refl _, r7⟩, OX6.out.keeps k7 (fun _ _ h => h), hm12, by omega, ⟨AB, by omega, by omega, by omega⟩, B6.out.trans (k7.below B6.out.size (fun _ _ h => h))⟩
             have F7 := Lib.hid f7
             clear r7 k7 f7))
        go_loopw [14, 7, 12, 10, 13] (fun i vx vz vy vw wr => ∃ (k g1 m1 g2 m2 g3 g4 : Nat) (L1 L2 : List H3), k ≤ n1 ∧ k ≤ 100 ∧ i = .int .i64 k ∧ vx = .pointer (some ⟨g1, 0, none⟩) ∧ vz = .pointer (some ⟨g2, 0, none⟩) ∧ vy = .pointer (some ⟨g3, 0, none⟩) ∧ vw = .pointer (some ⟨g4, 0, none⟩) ∧ Four w wr n ls Ax cx Ay cy g1 m1 g2 m2 g3 g4 k (look L1) (look L2) L1 L2) (fun i _ _ _ _ _ => n1 - (intOf i).toNat)
        case atStart => exact ⟨0, g1, m1, g2, m2, g3, _, [], [], Nat.zero_le _, Nat.zero_le _, rfl, rfl, rfl, rfl, rfl, F7.out⟩
        case round =>
          obtain ⟨k, g1, m1, g2, m2, g3, g4, L1, L2, hk, hk', rfl, rfl, rfl, rfl, rfl, f⟩ := hrel
          have F := Lib.hid f
          have hbw := f.below
          have BW := Lib.hid hbw
          clear f hbw
          by_cases hkn : k < n1 ∧ k < 100
          · obtain ⟨o, hoo⟩ : ∃ o, os[k]? = some o := ⟨_, List.getElem?_eq_getElem (by have := HLO.out; omega)⟩
            obtain ⟨ad, hA1, hc⟩ := (HO.out.below (w1 := wr) ⟨BW.out.os, BW.out.tape, BW.out.output, BW.out.size, BW.out.block⟩).at_ hoo
            subst hA1
            obtain ⟨o1, o2, o3, o4⟩ := OK.out o (List.mem_of_getElem? hoo)
            have q0 := hc 0 _ rfl
            have q1 := hc 1 _ rfl
            have q2 := hc 2 _ rfl
            have q3 := hc 3 _ rfl
            simp [op4] at q0 q1 q2 q3
            rw [← add_add, add_pos _ (by decide : 0 < 1)] at q1
            rw [← add_add, add_pos _ (by decide : 0 < 2)] at q2
            rw [← add_add, add_pos _ (by decide : 0 < 3)] at q3
            clear hc hoo
            obtain ⟨hk1, hk2⟩ := hkn
            have fb := F.out.keep ((Keeps.refl (fun _ => False) wr).alloc (.cells #[.int .i64 o.kind, .int .i64 o.member, .int .i64 o.amount, .string o.pan] 30))
            have hbb : Blk (wr.alloc (.cells #[.int .i64 o.kind, .int .i64 o.member, .int .i64 o.amount, .string o.pan] 30)) wr.heap.size 30 #[.int .i64 o.kind, .int .i64 o.member, .int .i64 o.amount, .string o.pan] := Blk.new wr 30 _ _ rfl
            have hm1l := F.out.x.map.lt
            have hg3l : g3 < wr.heap.size := by obtain ⟨_, _, _, _, h⟩ := F.out.y; exact h.box.lt
            have FB := Lib.hid fb
            have HBB := Lib.hid hbb
            obtain ⟨aL, nL, cL, hnL, hyd⟩ := F.out.y
            clear fb hbb hyd
            go_wp2_with (first
              | (go_at_call 8; refine (kind_any o.kind o1 _).mono ?_
                 rintro e w5 ⟨kd, hkd0, hkd1, rfl, hw5⟩
                 subst hw5)
              | (go_at_call 9; refine (reset_any FB.out.x).mono ?_
                 rintro e w8 ⟨rfl, d8, k8⟩
                 have f8 := FB.out.xs k8 (d8.up (Nat.zero_le k)) (Nat.le_refl _)
                 rw [look_nil] at f8
                 have hb8 := HBB.out.keeps k8 (fun h => by omega)
                 have F8 := Lib.hid f8
                 have HB8 := Lib.hid hb8
                 obtain ⟨aY, nY, cY, hnY, hY⟩ := f8.y
                 have RY := Lib.hid hY
                 clear d8 k8 f8 hb8 hY)
              | (go_at_call 15; refine (refReset_any RY.out).mono ?_
                 rintro e w9 ⟨rfl, r9, k9⟩
                 have f9 := (F8.out.ys k9 ⟨_, _, _, Nat.zero_le k, r9⟩ (Nat.le_refl _)).up (Nat.le_succ k)
                 have hb9 := HB8.out.keeps k9 (fun h => by omega)
                 have e0 := hb9.cell 0
                 have e1 := hb9.cell 1
                 have e2 := hb9.cell 2
                 have e3 := hb9.cell 3
                 simp at e0 e1 e2 e3
                 have F9 := Lib.hid f9
                 clear r9 k9 f9 hb9)
              | (go_at_call 13; refine (deskClone_any FB.out.x).mono ?_
                 rintro e w8 ⟨g5, m5, rfl, d8, hg5, hm5, k8⟩
                 have f8 := FB.out.xc k8 d8 hm5
                 have hb8 := HBB.out.keeps k8 (fun h => h)
                 have F8 := Lib.hid f8
                 have HB8 := Lib.hid hb8
                 obtain ⟨aY, nY, cY, hnY, hY⟩ := f8.y
                 have RY := Lib.hid hY
                 clear d8 k8 f8 hb8 hY)
              | (go_at_call 14; refine (refClone_any RY.out).mono ?_
                 rintro e w9 ⟨rfl, r9, k9⟩
                 have f9 := (F8.out.yc k9 ⟨_, _, _, hnY, r9⟩ (Nat.le_refl _)).up (Nat.le_succ k)
                 have hb9 := HB8.out.keeps k9 (fun h => h)
                 have e0 := hb9.cell 0
                 have e1 := hb9.cell 1
                 have e2 := hb9.cell 2
                 have e3 := hb9.cell 3
                 simp at e0 e1 e2 e3
                 have F9 := Lib.hid f9
                 clear r9 k9 f9 hb9)
              | (go_at_call 11; refine (ask_any FB.out.x o.member o.pan o.amount o2 o4 o3 (by omega)).mono ?_
                 rintro e w8 ⟨rfl, d8, k8⟩
                 rw [← look_ask] at d8
                 have f8 := FB.out.xs k8 d8 (Nat.le_succ k)
                 have hb8 := HBB.out.keeps k8 (fun h => by omega)
                 have e0 := hb8.cell 0
                 have e1 := hb8.cell 1
                 have e2 := hb8.cell 2
                 have e3 := hb8.cell 3
                 simp at e0 e1 e2 e3
                 have F8 := Lib.hid f8
                 have HB8 := Lib.hid hb8
                 have hY8 : RDup w8 g3 Ay n cy ls k L1 := RDup.keepm FB.out.y FB.out.x.map k8
                 obtain ⟨aZ, nZ, cZ, hnZ, hZ⟩ := hY8
                 have RZ := Lib.hid hZ
                 clear d8 k8 f8 hb8 hZ)
              | (go_at_call 16; refine (refAsk_any RZ.out o.member o.pan o.amount o2 o3 (by omega)).mono ?_
                 rintro e w9 ⟨rfl, r9, k9⟩
                 have r9' : RDup w9 g3 Ay n cy ls (k + 1) (askL ls L1 o.member o.pan o.amount) := r9.up (by omega)
                 have f9 := F8.out.ys k9 r9' (Nat.le_refl _)
                 have hb9 := HB8.out.keeps k9 (fun h => by omega)
                 have e0 := hb9.cell 0
                 have e1 := hb9.cell 1
                 have e2 := hb9.cell 2
                 have e3 := hb9.cell 3
                 simp at e0 e1 e2 e3
                 have F9 := Lib.hid f9
                 clear r9 k9 f9 hb9 r9'))
            all_goals
              have FQ := fun q => F9.out.keep ((Keeps.refl (fun _ => False) w9).drewN q)
              have FQH := Lib.hid FQ
              have hy1 := F9.out.y
              have hy2 := F9.out.v
              obtain ⟨b1, b2, b3, b4, b5⟩ := hy1
              obtain ⟨b6, b7, b8, b9, b10⟩ := hy2
              have Y1 := Lib.hid (fun q => b5.keep ((Keeps.refl (fun _ => False) w9).drewN q))
              have Y2 := Lib.hid (fun q => b10.keep ((Keeps.refl (fun _ => False) w9).drewN q))
              clear FQ b5 b10
              go_quiet (first
                | (go_at_call 10; with_reducible exact Calls.quiet_of_same (had_any (FQH.out _).x _ _ o2 o4))
                | (go_at_call 10; with_reducible exact Calls.quiet_of_same (had_any (FQH.out _).z _ _ o2 o4))
                | (go_at_call 17; with_reducible exact Calls.quiet_of_same (refHad_any (Y1.out _) _ _ (by omega)))
                | (go_at_call 17; with_reducible exact Calls.quiet_of_same (refHad_any (Y2.out _) _ _ (by omega))))
              go_wp2_with fail
              refine ⟨⟨k + 1, _, _, _, _, _, _, _, _, by omega, by omega, by go_num, rfl, rfl, rfl, rfl, FQH.out _⟩, by simp [intOf]; omega⟩
          · rcases (show ¬ k < n1 ∨ (k < n1 ∧ ¬ k < 100) by omega) with h | ⟨h, h'⟩
            all_goals
              clear hkn
              go_wp2_with fail
              go_ret
              exact ⟨rfl, BW.out⟩
  · go_enter Try.func5, Try.ntmps5
    go_wp2_with (first
      | (go_at_call 6; refine (shown_any _).mono ?_
         rintro e w1 ⟨rfl, hk1⟩
         have K1 := Lib.hid hk1
         clear hk1)
      | (go_at_call 7; refine (new_any ls A2 n c2 w2 R2.out).mono ?_
         rintro e w3 ⟨v, rfl, made, k0⟩
         rw [← NE.out]
         have MADE := Lib.hid made
         have K0 := Lib.hid k0
         clear made k0)
      | (at_builtin; refine wp_append elem35 (by rfl) (.tmp 19) (.tmp 20) (by rfl) w1.heap.size (.slice (some ⟨w1.heap.size, 0, none⟩) 0 0) [] ls A n c rfl rfl (own_empty _ _ _ _ _ rfl (Nat.le_refl _)) ((HL.out.keeps K1.out (fun _ _ _ h => h)).alloc _) (by simp; omega) (by simp [maxLen]; omega) (by simp) ?_
         intro v2 w2 own2 gr2 at2
         rw [List.nil_append] at own2
         obtain ⟨A2, c2, hv2, r2⟩ := Own.val own2 HLN.out
         rw [hv2]
         rw [hv2] at own2
         have O2 := Lib.hid own2
         have R2 := Lib.hid r2
         have K2 := Lib.hid (app_empty w1 w1.heap.size rfl gr2)
         clear own2 r2 gr2 at2 hv2))
    go_loopw [9] (fun i wr => ∃ (k : Nat) (l2 : List (Int × Int)), k ≤ n ∧ i = .int .i64 k ∧ Own stand wr w1.heap.size 35 (.slice A2 n c2) l2 ∧ Keeps (fun b => (Value.slice A2 n c2).ownBlock = some b) w3 wr) (fun i _ => n - (intOf i).toNat)
    case atStart => exact ⟨0, ls, Nat.zero_le _, rfl, O2.out.keeps K0.out (fun _ _ h => h), Keeps.refl _ _⟩
    case round =>
      obtain ⟨k, l2, hk, rfl, ow, kk⟩ := hrel
      by_cases hkn : k < n
      · have hlen := ow.len_eq rfl
        obtain ⟨g6, c6, hv6, _, _, _⟩ := ow.form (by omega)
        injection hv6 with hA6 hn6 hc6
        subst hA6
        obtain ⟨x, hx⟩ : ∃ x, l2[k]? = some x := ⟨_, List.getElem?_eq_getElem (by omega)⟩
        have q0 : wr.cell? ⟨g6, k * 2, none⟩ = some (.int .i64 x.1) := ow.at_ hx (j := 0) rfl
        have q1 : wr.cell? ⟨g6, k * 2 + 1, none⟩ = some (.int .i64 x.2) := ow.at_ hx (j := 1) rfl
        have f0 := ow.frozen (k * 2)
        have f1 := ow.frozen (k * 2 + 1)
        have st := Own.stand_set ow hx 549755813888 549755813888
        have kst := (kk.setCell ⟨g6, k * 2, none⟩ (.int .i64 549755813888) (fun _ => rfl)).setCell ⟨g6, k * 2 + 1, none⟩ (.int .i64 549755813888) (fun _ => rfl)
        have ST := Lib.hid st
        have KST := Lib.hid kst
        clear ow kk hx st kst hlen hn6 hc6
        go_wp2_with fail
        refine ⟨⟨k + 1, _, by omega, by go_num, ST.out, KST.out⟩, by simp [intOf]; omega⟩
      · have OW := Lib.hid ow
        have KK := Lib.hid kk
        clear ow kk
        obtain ⟨w4, hw4⟩ : ∃ w4, w4 = wr := ⟨_, rfl⟩
        subst hw4
        have hz1 := K1.out.size
        have hz2 := K2.out.size
        have hz3 := K0.out.size
        have hz4 := KK.out.size
        have hb4 : Below w.heap.size w w4 := (K1.out.below (Nat.le_refl _) (fun _ _ h => h)).trans ((K2.out.below hz1 (fun _ _ h => h)).trans ((K0.out.below (by omega) (fun _ _ h => h)).trans (KK.out.below (by omega) (fun b hb h => by have := O2.out.base_le h; omega))))
        have B4 := Lib.hid hb4
        have hl4 : Reads stand w4 A n ls := HL.out.keeps (S := fun b => w.heap.size ≤ b) ⟨hb4.os, hb4.tape, hb4.output, hb4.size, fun b hb _ => hb4.block b hb⟩ (fun ad e h0 h => by have := HL.out.lt h0 e; omega)
        have L4 := Lib.hid hl4
        clear hb4 hl4
        have hv : v = .pointer none := by
          rcases MADE.out with ⟨_, h⟩ | ⟨h, _⟩
          · exact h
          · rw [← NE.out] at h; rw [h] at hne'; exact absurd hne' (by decide)
        subst hv
        go_wp2_with (go_at_call 12; refine (refNew_any ls A n c w4 L4.out).mono ?_
                     rintro e w5 ⟨v', rfl, made', k5⟩
                     rw [← NE.out]
                     have hv' : v' = .pointer none := by
                       rcases made' with ⟨_, h⟩ | ⟨h, _⟩
                       · exact h
                       · rw [← NE.out] at h; rw [h] at hne'; exact absurd hne' (by decide)
                     subst hv'
                     have K5 := Lib.hid k5
                     clear k5 made')
        go_ret
        exact ⟨rfl, B4.out.trans (K5.out.below B4.out.size (fun _ _ h => h))⟩
end Go.Proofs.Ytpkmdhplbpejhaa
