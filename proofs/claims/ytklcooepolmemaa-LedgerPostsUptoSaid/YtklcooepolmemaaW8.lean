/- The document's payment: walked. -/
import Derived.Test.YtklcooepolmemaaW7
namespace Go.Proofs.Ytklcooepolmemaa
open Go.RowKit Mem
def sixL (n : Nat) (a i x N1 N2 : Int) : List (Int × Int) := [(i, -x), (a, x), (a, -N1), (i, N1), (a, -N2), (n, N2)]
def live (es : List (Int × Int)) : List (Int × Int) := es.filter (fun e => e.2 != 0)
theorem live_succ {es : List (Int × Int)} {k : Nat} {e : Int × Int} (h : es[k]? = some e) : live (es.take (k + 1)) = live (es.take k) ++ (if e.2 = 0 then [] else [e]) := by
  unfold live
  rw [List.take_add_one, h, List.filter_append]
  congr 1
  by_cases he : e.2 = 0 <;> simp [he]
theorem live_six (n : Nat) (a i x N1 N2 : Int) : live (sixL n a i x N1 N2) = mv i a x ++ mv a i N1 ++ mv a n N2 := by
  unfold live sixL mv
  by_cases h1 : x = 0 <;> by_cases h2 : N1 = 0 <;> by_cases h3 : N2 = 0 <;> simp [h1, h2, h3]
theorem live_len (es : List (Int × Int)) : (live es).length ≤ es.length := List.length_filter_le _ _
set_option maxRecDepth 100000 in
set_option maxHeartbeats 6400000 in
theorem refPayment_any (A1 : Option Addr) (n c : Nat) (A2 : Option Addr) (n2 c2 : Nat) (r1 r2 : RateT) (u1 u2 u3 a i x : Int) (w : World) (_hn : n ≤ 9223372036854775807) :
    Calls Try.prog 18 #[cfgV A1 n c A2 n2 c2 r1 r2 u1 u2 u3, .int .i64 a, .int .i64 i, .int .i64 x] w fun e w' => ∃ A' n' c', e = .returned (.tuple #[.slice A' n' c', .int .i64 (payE n r1 r2 a i x)]) ∧ Own entry w' w.heap.size 30 (.slice A' n' c') (payL n r1 r2 a i x) ∧ Keeps (fun _ => False) w w' := by
  rcases two_cases n a i with ⟨h, t1, t2, t3, t4⟩ | ⟨h, t1 | ⟨t1, t2⟩ | ⟨t1, t2, t3⟩ | ⟨t1, t2, t3, t4⟩⟩
  · obtain ⟨E1, hE1⟩ : ∃ E, E = feeE r1 x := ⟨_, rfl⟩
    obtain ⟨E2, hE2⟩ : ∃ E, E = feeE r2 x := ⟨_, rfl⟩
    obtain ⟨N1, hN1⟩ : ∃ N, N = feeN r1 x := ⟨_, rfl⟩
    obtain ⟨N2, hN2⟩ : ∃ N, N = feeN r2 x := ⟨_, rfl⟩
    have f1 := refFee_any r1.p r1.l r1.m x
    have f2 := refFee_any r2.p r2.l r2.m x
    have F1 : ∀ w, Calls Try.prog 30 #[.agg #[.int .i64 r1.p, .int .i64 r1.l, .int .i64 r1.m], .int .i64 x] w fun e w' => e = .returned (.tuple #[.int .i64 N1, .int .i64 E1]) ∧ Keeps (fun _ => False) w w' := by rw [hN1, hE1]; exact f1
    have F2 : ∀ w, Calls Try.prog 30 #[.agg #[.int .i64 r2.p, .int .i64 r2.l, .int .i64 r2.m], .int .i64 x] w fun e w' => e = .returned (.tuple #[.int .i64 N2, .int .i64 E2]) ∧ Keeps (fun _ => False) w w' := by rw [hN2, hE2]; exact f2
    have HF1 := Lib.hid F1
    have HF2 := Lib.hid F2
    clear f1 f2 F1 F2
    have bb : Blk (w.alloc (.cells #[.slice A1 n c, .slice A2 n2 c2, .int .i64 r1.p, .int .i64 r1.l, .int .i64 r1.m, .int .i64 r2.p, .int .i64 r2.l, .int .i64 r2.m, .int .i64 u1, .int .i64 u2, .int .i64 u3] 49)) w.heap.size 49 #[.slice A1 n c, .slice A2 n2 c2, .int .i64 r1.p, .int .i64 r1.l, .int .i64 r1.m, .int .i64 r2.p, .int .i64 r2.l, .int .i64 r2.m, .int .i64 u1, .int .i64 u2, .int .i64 u3] := Blk.new w 49 _ _ rfl
    have BB := Lib.hid bb
    clear bb
    by_cases z1 : E1 = 0
    · have s1 : feeE r1 x = 0 := by rw [← hE1, z1]
      have hp := payE_two (r2 := r2) h s1
      rw [← hE2] at hp
      by_cases z2 : E2 = 0
      · have b1 := feeAll_zero (p := r1.p) (l := r1.l) (m := r1.m) (a := x) s1
        have b2 := feeAll_zero (p := r2.p) (l := r2.l) (m := r2.m) (a := x) (show feeE r2 x = 0 by rw [← hE2, z2])
        have b3 : 0 ≤ N1 ∧ N1 ≤ x := by rw [hN1]; exact b1.2.2
        have b4 : 0 ≤ N2 ∧ N2 ≤ x := by rw [hN2]; exact b2.2.2
        have hx0 := b1.1
        have hx1 := b1.2.1
        rw [z2] at hp
        have hl := payL_yes hp
        rw [← hN1, ← hN2, ← live_six] at hl
        obtain ⟨ES, hES⟩ : ∃ ES, ES = sixL n a i x N1 N2 := ⟨_, rfl⟩
        rw [← hES] at hl
        have hlen : ES.length = 6 := by rw [hES]; rfl
        subst z1 z2
        unfold inTwo at h
        have HP := Lib.hid hp
        have HL := Lib.hid hl
        have HES := Lib.hid hES
        have HLEN := Lib.hid hlen
        have m0 : True := trivial
        clear hp hl b1 b2 s1 hE1 hE2 hN1 hN2 hES hlen
        unfold cfgV
        go_enter Try.func18, Try.ntmps18
        go_wp2_with (first
          | (go_at_call 30; clear m0; refine (HF1.out _).mono ?_
             rintro e w2 ⟨rfl, k2⟩
             have b2 := BB.out.keeps k2 (fun h => h)
             have c5 := b2.cell 5
             have c6 := b2.cell 6
             have c7 := b2.cell 7
             simp at c5 c6 c7
             have K2 := Lib.hid (((Keeps.refl (fun _ => False) w).alloc _).trans k2 (fun _ _ h => h))
             clear k2 b2)
          | (go_at_call 30; refine (HF2.out _).mono ?_
             rintro e w3 ⟨rfl, k3⟩
             have K3 := Lib.hid (K2.out.trans k3 (fun _ _ h => h))
             have hz3 := K3.out.size
             clear k3))
        have b4 : Blk (w3.alloc (.cells #[.int .i64 i, .int .i64 (-x), .int .i64 a, .int .i64 x, .int .i64 a, .int .i64 (-N1), .int .i64 i, .int .i64 N1, .int .i64 a, .int .i64 (-N2), .int .i64 n, .int .i64 N2] 30)) w3.heap.size 30 #[.int .i64 i, .int .i64 (-x), .int .i64 a, .int .i64 x, .int .i64 a, .int .i64 (-N1), .int .i64 i, .int .i64 N1, .int .i64 a, .int .i64 (-N2), .int .i64 n, .int .i64 N2] := Blk.new w3 30 _ _ rfl
        obtain ⟨w4, hw4⟩ : ∃ w4, w4 = w3.alloc (.cells #[.int .i64 i, .int .i64 (-x), .int .i64 a, .int .i64 x, .int .i64 a, .int .i64 (-N1), .int .i64 i, .int .i64 N1, .int .i64 a, .int .i64 (-N2), .int .i64 n, .int .i64 N2] 30) := ⟨_, rfl⟩
        rw [← hw4] at b4 ⊢
        have R4 := Lib.hid (b4.reads (E := entry) ES (by rw [HES.out]; rfl) HLEN.out)
        have K4 := Lib.hid (show Keeps (fun _ => False) w w4 by rw [hw4]; exact K3.out.alloc _)
        clear hw4 b4
        go_loopw [15, 16] (fun u v wr => ∃ k : Nat, k ≤ 6 ∧ v = .int .i64 k ∧ Own entry wr w4.heap.size 30 u (live (ES.take k)) ∧ Keeps (fun _ => False) w4 wr) (fun _ v _ => 6 - (intOf v).toNat)
        case atStart => exact ⟨0, Nat.zero_le _, rfl, Own.nil _ _ _ _, Keeps.refl _ _⟩
        case round =>
          obtain ⟨k, hk, rfl, ho, kk⟩ := hrel
          have hlk : (live (ES.take k)).length ≤ 6 := Nat.le_trans (live_len _) (by simp; omega)
          obtain ⟨q, hq⟩ : ∃ q, q = (live (ES.take k)).length := ⟨_, rfl⟩
          obtain ⟨A5, c5', hv, _⟩ := Own.val ho hq.symm
          subst hv
          rw [← hq] at hlk
          have HQ := Lib.hid hq
          have HO := Lib.hid ho
          have KK := Lib.hid kk
          have hz4 := K4.out.size
          have hz5 := kk.size
          clear ho kk hq
          by_cases hkn : k < 6
          · obtain ⟨⟨f, b⟩, he⟩ : ∃ e, ES[k]? = some e := ⟨_, List.getElem?_eq_getElem (by rw [HLEN.out]; exact hkn)⟩
            obtain ⟨ad, hAd, hc⟩ := (R4.out.keeps KK.out (fun _ _ _ h => h)).at_ he
            injection hAd with hAd
            subst hAd
            have p0 := hc 0 _ rfl
            have p1 := hc 1 _ rfl
            simp only [add_at] at p0 p1
            simp [entry] at p0 p1
            have HE := Lib.hid he
            have hl2 := live_succ he
            have HL2 := Lib.hid hl2
            clear hc he hl2
            by_cases hb : b = 0
            · subst hb
              go_wp2_with fail
              refine ⟨⟨k + 1, by omega, by go_num, ?_, KK.out⟩, by simp [intOf]; omega⟩
              rw [HL2.out, if_pos rfl, List.append_nil]
              exact HO.out
            · have tb : (b == 0) = false := by simpa using hb
              go_wp2_with (at_builtin; refine wp_append elem30 (by rfl) (.tmp 90) (.tmp 95) (by rfl) w4.heap.size (.slice A5 q c5') (live (ES.take k)) [(f, b)] (some ⟨wr.heap.size, 0, none⟩) 1 1 rfl rfl (HO.out.alloc _) ((Blk.new wr 30 _ _ rfl).reads _ rfl rfl) (by rw [← HQ.out]; omega) (by rw [← HQ.out]; simp [maxLen]; omega) (by simp; omega) ?_
                           intro v6 w6 own6 gr6 at6
                           have k6 := own_grow (KK.out.alloc _) gr6 (fun q hq => HO.out.base_le hq)
                           have K6 := Lib.hid k6
                           have O6 := Lib.hid own6
                           clear own6 gr6 at6 k6)
              refine ⟨⟨k + 1, by omega, by go_num, ?_, ?_⟩, by simp [intOf]; omega⟩
              · rw [HL2.out, if_neg hb]
                exact O6.out
              · exact K6.out
          · have ho := HO.out
            rw [List.take_of_length_le (by rw [HLEN.out]; omega)] at ho
            have HO2 := Lib.hid ho
            clear ho
            go_wp2_with fail
            go_ret2
            rw [HP.out, HL.out]
            exact ⟨_, _, _, rfl, HO2.out.rebase _ (fun q hq => by have := HO2.out.base_le hq; omega), K4.out.trans KK.out (fun _ _ h => h)⟩
      · have ht : (E2 == 0) = false := by simpa using z2
        have hl := payL_no (r1 := r1) (r2 := r2) (a := a) (i := i) (x := x) (n := n) (by rw [hp]; exact z2)
        subst z1
        have HP := Lib.hid hp
        have HL := Lib.hid hl
        have m0 : True := trivial
        clear hp hl s1 hE1 hE2 hN1 hN2 z2 h
        unfold cfgV
        go_enter Try.func18, Try.ntmps18
        go_wp2_with (first
          | (go_at_call 30; clear m0; refine (HF1.out _).mono ?_
             rintro e w2 ⟨rfl, k2⟩
             have b2 := BB.out.keeps k2 (fun h => h)
             have c5 := b2.cell 5
             have c6 := b2.cell 6
             have c7 := b2.cell 7
             simp at c5 c6 c7
             have K2 := Lib.hid (((Keeps.refl (fun _ => False) w).alloc _).trans k2 (fun _ _ h => h))
             clear k2 b2)
          | (go_at_call 30; refine (HF2.out _).mono ?_
             rintro e w3 ⟨rfl, k3⟩
             have K3 := Lib.hid (K2.out.trans k3 (fun _ _ h => h))
             clear k3))
        go_ret2
        rw [HP.out, HL.out]
        exact ⟨none, 0, 0, rfl, Own.nil _ _ _ _, K3.out⟩
    · have ht : (E1 == 0) = false := by simpa using z1
      have hp := payE_one (r2 := r2) (n := n) (a := a) (i := i) h (by rw [← hE1]; exact z1)
      rw [← hE1] at hp
      have HP := Lib.hid hp
      clear hp hE1 hE2 hN1 hN2 z1 h
      unfold cfgV
      go_enter Try.func18, Try.ntmps18
      go_wp2_with (go_at_call 30; refine (HF1.out _).mono ?_
                   rintro e w2 ⟨rfl, k2⟩
                   have K2 := Lib.hid (((Keeps.refl (fun _ => False) w).alloc _).trans k2 (fun _ _ h => h))
                   clear k2)
      go_ret2
      rw [HP.out.1, HP.out.2]
      exact ⟨none, 0, 0, rfl, Own.nil _ _ _ _, K2.out⟩
  all_goals
    have HP := Lib.hid (payE_out (r1 := r1) (r2 := r2) (x := x) h)
    clear h
    unfold cfgV
    go_enter Try.func18, Try.ntmps18
    go_wp2_with fail
    go_ret2
    rw [HP.out.1, HP.out.2]
    exact ⟨none, 0, 0, rfl, Own.nil _ _ _ _, (Keeps.refl (fun _ => False) w).alloc _⟩
end Go.Proofs.Ytklcooepolmemaa
