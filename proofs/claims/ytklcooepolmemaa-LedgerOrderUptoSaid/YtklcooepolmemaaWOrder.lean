/- LedgerOrder, walked. -/
import Derived.Test.YtklcooepolmemaaWApart
namespace Go.Proofs.Ytklcooepolmemaa
open Go.RowKit Mem
theorem tot_reverse (es : List (Int × Int)) : tot es.reverse = tot es := by
  induction es with
  | nil => rfl
  | cons e es ih => rw [List.reverse_cons, tot_append, ih]; simp [tot]; omega
theorem ofA_reverse (i : Nat) (es : List (Int × Int)) : ofA i es.reverse = ofA i es := by
  induction es with
  | nil => rfl
  | cons e es ih => rw [List.reverse_cons, ofA_append, ih]; simp [ofA]; omega
theorem nb_reverse (bs : List Int) (es : List (Int × Int)) : nb bs es.reverse = nb bs es := by
  unfold nb
  congr 1
  funext i b
  rw [ofA_reverse]
theorem nb_append (bs : List Int) (a b : List (Int × Int)) : nb bs (a ++ b) = nb (nb bs a) b := by
  apply List.ext_getElem?
  intro i
  rw [nb_get, nb_get, nb_get]
  cases bs[i]? with
  | none => rfl
  | some x => simp [ofA_append]; omega
theorem order_key {bs : List Int} {a b : List (Int × Int)} (h1 : postE bs a = 0) (h2 : postE (postB bs a) b = 0) : postE bs (a ++ b).reverse = 0 ∧ postB bs (a ++ b).reverse = postB (postB bs a) b := by
  have e1 := postB_ok h1
  rw [postB_ok h2, e1]
  rw [e1] at h2
  obtain ⟨a1, a2, _⟩ := postE_zero.1 h1
  obtain ⟨b1, b2, b3⟩ := postE_zero.1 h2
  rw [nb_length] at b1
  have h : postE bs (a ++ b).reverse = 0 := by
    refine postE_zero.2 ⟨fun e he => ?_, ?_, ?_⟩
    · rw [List.mem_reverse, List.mem_append] at he
      rcases he with he | he
      · exact a1 e he
      · exact b1 e he
    · rw [tot_reverse, tot_append]; omega
    · rw [nb_reverse, nb_append]; exact b3
  exact ⟨h, by rw [postB_ok h, nb_reverse, nb_append]⟩
theorem drop_reverse {α : Type} {l : List α} {i : Nat} {x : α} (h : l[i]? = some x) : (l.drop i).reverse = (l.drop (i + 1)).reverse ++ [x] := by
  obtain ⟨hlt, hg⟩ := List.getElem?_eq_some_iff.1 h
  rw [List.drop_eq_getElem_cons hlt, hg, List.reverse_cons]
set_option maxRecDepth 100000 in
set_option maxHeartbeats 6400000 in
theorem order_any (fs : List (Int × Int)) (A0 : Option Addr) (n0 c0 : Nat) (es : List (Int × Int)) (A1 : Option Addr) (n1 c1 : Nat) (w : World) (h0 : Reads entry w A0 n0 fs) (hok0 : ∀ e ∈ fs, okE e) (hn0 : n0 ≤ 1048576) (h1 : Reads entry w A1 n1 es) (hok1 : ∀ e ∈ es, okE e) (hn1 : n1 ≤ 1048576) :
    Calls Try.prog 3 #[.slice A0 n0 c0, .slice A1 n1 c1] w fun e w' => e = .returned (.bool true) ∧ Below w.heap.size w w' := by
  have HL0 := Lib.hid h0.1
  have HL := Lib.hid h1.1
  have R0 := Lib.hid h0
  have R1 := Lib.hid h1
  have OK0 := Lib.hid hok0
  have OK1 := Lib.hid hok1
  clear h0 hok0 h1 hok1
  obtain ⟨bs1, hbs1⟩ : ∃ bs1, bs1 = postB (List.replicate 4 0) fs := ⟨_, rfl⟩
  obtain ⟨bs2, hbs2⟩ : ∃ bs2, bs2 = postB bs1 es := ⟨_, rfl⟩
  obtain ⟨E1, hE1⟩ : ∃ E1, E1 = postE (List.replicate 4 0) fs := ⟨_, rfl⟩
  obtain ⟨E2, hE2⟩ : ∃ E2, E2 = postE bs1 es := ⟨_, rfl⟩
  have hl2 : bs2.length = 4 := by rw [hbs2, postB_length, hbs1, postB_length]; rfl
  have B1 := Lib.hid hbs1
  have B2 := Lib.hid hbs2
  have E1H := Lib.hid hE1
  have E2H := Lib.hid hE2
  have L2 := Lib.hid hl2
  clear hbs1 hbs2 hE1 hE2 hl2
  by_cases hz : E1 = 0 ∧ E2 = 0
  · obtain ⟨rfl, rfl⟩ := hz
    have hkey := order_key (bs := List.replicate 4 0) (a := fs) (b := es) E1H.out.symm (by rw [← B1.out]; exact E2H.out.symm)
    rw [← B1.out, ← B2.out] at hkey
    obtain ⟨all, hall⟩ : ∃ all, all = fs ++ es := ⟨_, rfl⟩
    rw [← hall] at hkey
    obtain ⟨N, hN⟩ : ∃ N, N = n0 + n1 := ⟨_, rfl⟩
    have hlen : all.length = N := by rw [hall, List.length_append, HL0.out, HL.out, hN]
    have hoka : ∀ e ∈ all.reverse, okE e := by
      intro e he
      rw [List.mem_reverse, hall, List.mem_append] at he
      rcases he with he | he
      · exact OK0.out e he
      · exact OK1.out e he
    have HK := Lib.hid hkey
    have HA := Lib.hid hall
    have HLEN := Lib.hid hlen
    have OKA := Lib.hid hoka
    have HNN := Lib.hid hN
    have hNb : N ≤ 2097152 := by omega
    clear hkey hall hlen hoka hN
    have m0 : True := trivial
    have m1 : True := trivial
    have m2 : True := trivial
    have m3 : True := trivial
    go_enter Try.func3, Try.ntmps3
    go_wp2_with (first
      | (go_at_call 8; refine (shown_any w).mono ?_
         rintro e w1 ⟨rfl, k1⟩
         have K1 := Lib.hid k1
         clear k1)
      | (go_at_call 9; clear m0; refine (new_any 4 w1 (by omega) (by omega)).mono ?_
         rintro e w2 ⟨g, A2, c2, rfl, d2, hg, k2⟩
         have D2 := Lib.hid d2
         have hz := K1.out.size
         have hgl2 := d2.box.lt
         have K2 := Lib.hid (K1.out.trans k2 (fun _ _ h => h))
         clear d2 k2)
      | (go_at_call 9; refine (new_any 4 w2 (by omega) (by omega)).mono ?_
         rintro e w3 ⟨g', A3, c3, rfl, d3, hg', k3⟩
         have D3 := Lib.hid (D2.out.keep k3)
         have Y3 := Lib.hid d3
         have hne : g' ≠ g := by omega
         have hgl3 := d3.box.lt
         have hz3 := K2.out.size
         have K3 := Lib.hid (K2.out.trans k3 (fun _ _ h => h))
         clear d3 k3)
      | (go_at_call 10; clear m1; refine (post_any D3.out fs A0 n0 c0 (R0.out.keeps K3.out (fun _ _ _ h => h)) OK0.out (by omega)).mono ?_
         rintro e w4 ⟨rfl, ⟨A4, c4, d4⟩, k4⟩
         rw [← E1H.out]
         rw [← B1.out] at d4
         have D4 := Lib.hid d4
         have Y4 := Lib.hid (Y3.out.keepg D3.out.box hne k4)
         have hz4 := k4.size
         have K4 := Lib.hid (K3.out.trans k4 (fun b hb h => by omega))
         clear d4 k4)
      | (go_at_call 10; clear m2; refine (post_any D4.out es A1 n1 c1 (R1.out.keeps K4.out (fun _ _ _ h => h)) OK1.out (by omega)).mono ?_
         rintro e w5 ⟨rfl, ⟨A5, c5, d5⟩, k5⟩
         rw [← E2H.out]
         rw [← B2.out] at d5
         have D5 := Lib.hid d5
         have Y5 := Lib.hid (Y4.out.keepg D4.out.box hne k5)
         have hz5 := k5.size
         have K5 := Lib.hid (K4.out.trans k5 (fun b hb h => by omega))
         have R05 := Lib.hid (R0.out.keeps K5.out (fun _ _ _ h => h))
         have R15 := Lib.hid (R1.out.keeps K5.out (fun _ _ _ h => h))
         clear d5 k5)
      | (at_builtin; clear m3; refine wp_append elem30 (by rfl) (.tmp 60) (.tmp 61) (by rfl) w5.heap.size (.slice (some ⟨w5.heap.size, 0, none⟩) 0 0) [] fs A0 n0 c0 rfl rfl (own_empty _ _ _ _ _ rfl (Nat.le_refl _)) (R05.out.alloc _) (by simp; omega) (by simp [maxLen]; omega) (by simp) ?_
         intro v6 w6 own6 gr6 at6
         rw [List.nil_append] at own6
         obtain ⟨A6, c6, hv6, _⟩ := Own.val own6 HL0.out
         rw [hv6]
         rw [hv6] at own6
         have k6 := app_empty w5 w5.heap.size rfl gr6
         have O6 := Lib.hid own6
         have R16 := Lib.hid (R15.out.keeps k6 (fun _ _ _ h => h))
         have KK6 := Lib.hid k6
         clear own6 gr6 at6 hv6 k6)
      | (at_builtin; refine wp_append elem30 (by rfl) (.tmp 62) (.tmp 63) (by rfl) w5.heap.size (.slice A6 n0 c6) fs es A1 n1 c1 rfl rfl O6.out R16.out (by rw [HL0.out]; omega) (by rw [HL0.out]; simp [maxLen]; omega) KK6.out.size ?_
         intro v7 w7 own7 gr7 at7
         rw [← HA.out] at own7
         obtain ⟨A7, c7, hv7, _⟩ := Own.val own7 HLEN.out
         rw [hv7]
         rw [hv7] at own7
         have O7 := Lib.hid own7
         have KK7 := Lib.hid (own_grow KK6.out gr7 (fun q hq => O6.out.base_le hq))
         clear own7 gr7 at7 hv7))
    obtain ⟨wb, hwb⟩ : ∃ wb, wb = w7.alloc (.cells #[] 30) := ⟨_, rfl⟩
    rw [← hwb]
    have O8 := Lib.hid (show Own entry wb w7.heap.size 30 (.slice (some ⟨w7.heap.size, 0, none⟩) 0 0) (all.drop N).reverse by
      rw [hwb, List.drop_of_length_le (by rw [HLEN.out]; exact Nat.le_refl _)]
      exact own_empty entry w7 30 _ _ rfl (Nat.le_refl _))
    have K8 := Lib.hid (show Keeps (fun _ => False) w7 wb by rw [hwb]; exact (Keeps.refl _ w7).alloc _)
    have hz7 := KK7.out.size
    have A7R := Lib.hid (own_reads O7.out)
    have D7 := Lib.hid (D5.out.keep KK7.out)
    have Y7 := Lib.hid (Y5.out.keep KK7.out)
    have K7 := Lib.hid (K5.out.trans KK7.out (fun _ _ h => h))
    clear hwb
    go_wp2_with fail
    go_loopw [13, 14] (fun u v wr => ∃ (j : Nat) (q : Int), j ≤ N ∧ q ≤ (j : Int) - 1 ∧ (j : Int) - 1 ≤ q ∧ v = .int .i64 q ∧ Own entry wr w7.heap.size 30 u (all.drop j).reverse ∧ Keeps (fun _ => False) w7 wr) (fun _ v _ => (intOf v + 1).toNat)
    case atStart => exact ⟨N, _, Nat.le_refl _, Int.le_refl _, Int.le_refl _, rfl, O8.out, K8.out⟩
    case round =>
      obtain ⟨j, q, hj, hq1, hq2, rfl, ho, kk⟩ := hrel
      obtain ⟨M, hM⟩ : ∃ M, M = N - j := ⟨_, rfl⟩
      have hln : (all.drop j).reverse.length = M := by rw [List.length_reverse, List.length_drop, HLEN.out, hM]
      obtain ⟨A9, c9, hv, _⟩ := Own.val ho hln
      subst hv
      have hMb : M ≤ 2097152 := by omega
      have HO := Lib.hid ho
      have KK := Lib.hid kk
      have HMM := Lib.hid hM
      have HLN := Lib.hid hln
      clear ho kk hM hln
      cases j with
      | succ i =>
        obtain rfl : q = (i : Int) := by omega
        obtain ⟨⟨x, y⟩, he⟩ : ∃ e, all[i]? = some e := ⟨_, List.getElem?_eq_getElem (by rw [HLEN.out]; omega)⟩
        obtain ⟨ad, hA, hc⟩ := (A7R.out.keeps KK.out (fun _ _ _ h => h)).at_ he
        subst hA
        have p0 := hc 0 _ rfl
        have p1 := hc 1 _ rfl
        simp [entry] at p0 p1
        rw [← add_add, add_pos _ (by decide : 0 < 1)] at p1
        have hdr := drop_reverse he
        have HDR := Lib.hid hdr
        have hzz := KK.out.size
        have hiN : i < N := by omega
        clear hc he hdr hq1 hq2
        go_wp2_with (at_builtin; refine wp_append elem30 (by rfl) (.tmp 73) (.tmp 78) (by rfl) w7.heap.size (.slice A9 M c9) (all.drop (i + 1)).reverse [(x, y)] (some ⟨wr.heap.size, 0, none⟩) 1 1 rfl rfl (HO.out.alloc _) ((Blk.new wr 30 _ _ rfl).reads _ rfl rfl) (by rw [HLN.out]; omega) (by rw [HLN.out]; simp [maxLen]; omega) (by simp; omega) ?_
                     intro v8 w8 own8 gr8 at8
                     rw [← HDR.out] at own8
                     have k8 := own_grow (KK.out.alloc _) gr8 (fun q hq => HO.out.base_le hq)
                     have K9 := Lib.hid k8
                     have O9 := Lib.hid own8
                     clear own8 gr8 at8 k8)
        refine ⟨⟨i, (i : Int) - 1, by omega, Int.le_refl _, Int.le_refl _, rfl, O9.out, K9.out⟩, by simp [intOf]⟩
      | zero =>
        obtain rfl : q = -1 := by omega
        have ho := HO.out
        rw [List.drop_zero] at ho
        have HO2 := Lib.hid ho
        have hzz := KK.out.size
        clear ho hq1 hq2
        go_wp2_with (go_at_call 10; refine (post_any (Y7.out.keep KK.out) all.reverse A9 M c9 (own_reads HO2.out) OKA.out (by omega)).mono ?_
                     rintro e w8 ⟨rfl, ⟨A10, c10, d8⟩, k8⟩
                     rw [HK.out.1]
                     rw [HK.out.2] at d8
                     have Y8 := Lib.hid d8
                     have D8 := Lib.hid ((D7.out.keep KK.out).keepg (Y7.out.keep KK.out).box (fun h => hne h.symm) k8)
                     have K8 := Lib.hid ((K7.out.trans KK.out (fun _ _ h => h)).trans k8 (fun b hb h => by omega))
                     clear d8 k8)
        go_loop [16] (fun v => ∃ a : Nat, a ≤ 4 ∧ v = .int .i64 a) (fun v => 4 - (intOf v).toNat)
        case atStart => exact ⟨0, by omega, rfl⟩
        case round =>
          obtain ⟨a, ha, rfl⟩ := hrel
          by_cases ha5 : a < 4
          · obtain ⟨m, hm⟩ : ∃ m, bs2[a]? = some m := ⟨_, List.getElem?_eq_getElem (by rw [L2.out]; exact ha5)⟩
            have HM := Lib.hid hm
            have mk : True := trivial
            clear hm
            go_wp2_with (first
              | (go_at_call 11; clear mk; refine (balance_in D8.out a m HM.out).mono ?_
                 rintro e w6 ⟨rfl, hw6⟩
                 rw [hw6]
                 clear hw6)
              | (go_at_call 11; refine (balance_in Y8.out a m HM.out).mono ?_
                 rintro e w6 ⟨rfl, hw6⟩
                 rw [hw6]
                 clear hw6))
            exact ⟨⟨a + 1, by omega, by go_num⟩, by simp [intOf]; omega⟩
          · go_wp2_with fail
            go_ret
            exact ⟨rfl, K8.out.below (Nat.le_refl _) (fun _ _ h => h)⟩
  · have hcase : (E1 == 0) = false ∨ ((E1 == 0) = true ∧ (E2 == 0) = false) := by
      by_cases h1 : E1 = 0
      · right; exact ⟨by simpa using h1, by simp; exact fun h2 => hz ⟨h1, h2⟩⟩
      · left; simpa using h1
    clear hz
    rcases hcase with t1 | ⟨t1, t2⟩
    all_goals
      have m0 : True := trivial
      have m1 : True := trivial
      have m2 : True := trivial
      have m3 : True := trivial
      go_enter Try.func3, Try.ntmps3
      go_wp2_with (first
        | (go_at_call 8; refine (shown_any w).mono ?_
           rintro e w1 ⟨rfl, k1⟩
           have K1 := Lib.hid k1
           clear k1)
        | (go_at_call 9; clear m0; refine (new_any 4 w1 (by omega) (by omega)).mono ?_
           rintro e w2 ⟨g, A2, c2, rfl, d2, hg, k2⟩
           have D2 := Lib.hid d2
           have hz := K1.out.size
           have hgl2 := d2.box.lt
           have K2 := Lib.hid (K1.out.trans k2 (fun _ _ h => h))
           clear d2 k2)
        | (go_at_call 9; refine (new_any 4 w2 (by omega) (by omega)).mono ?_
           rintro e w3 ⟨g', A3, c3, rfl, d3, hg', k3⟩
           have D3 := Lib.hid (D2.out.keep k3)
           have Y3 := Lib.hid d3
           have hne : g' ≠ g := by omega
           have hgl3 := d3.box.lt
           have hz3 := K2.out.size
           have K3 := Lib.hid (K2.out.trans k3 (fun _ _ h => h))
           clear d3 k3)
        | (go_at_call 10; clear m1; refine (post_any D3.out fs A0 n0 c0 (R0.out.keeps K3.out (fun _ _ _ h => h)) OK0.out (by omega)).mono ?_
           rintro e w4 ⟨rfl, ⟨A4, c4, d4⟩, k4⟩
           rw [← E1H.out]
           rw [← B1.out] at d4
           have D4 := Lib.hid d4
           have Y4 := Lib.hid (Y3.out.keepg D3.out.box hne k4)
           have hz4 := k4.size
           have K4 := Lib.hid (K3.out.trans k4 (fun b hb h => by omega))
           clear d4 k4)
        | (go_at_call 10; clear m2; refine (post_any D4.out es A1 n1 c1 (R1.out.keeps K4.out (fun _ _ _ h => h)) OK1.out (by omega)).mono ?_
           rintro e w5 ⟨rfl, ⟨A5, c5, d5⟩, k5⟩
           rw [← E2H.out]
           rw [← B2.out] at d5
           have D5 := Lib.hid d5
           have Y5 := Lib.hid (Y4.out.keepg D4.out.box hne k5)
           have hz5 := k5.size
           have K5 := Lib.hid (K4.out.trans k5 (fun b hb h => by omega))
           have R05 := Lib.hid (R0.out.keeps K5.out (fun _ _ _ h => h))
           have R15 := Lib.hid (R1.out.keeps K5.out (fun _ _ _ h => h))
           clear d5 k5))
      all_goals
        go_ret
        exact ⟨rfl, K5.out.below (Nat.le_refl _) (fun _ _ h => h)⟩
end Go.Proofs.Ytklcooepolmemaa
