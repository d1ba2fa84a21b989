/- LedgerNought, walked. -/
import Derived.Test.YtklcooepolmemaaWN
import Derived.Test.YtklcooepolmemaaWPosts
namespace Go.Proofs.Ytklcooepolmemaa
open Go.RowKit Mem
theorem neg_okE {es : List (Int × Int)} (h : okT es) (hok : ∀ e ∈ es, okE e) : ∀ e ∈ es.map neg1, okE e := by
  intro e he
  obtain ⟨y, hy, rfl⟩ := List.mem_map.1 he
  have h1 := hok y hy
  have h2 := h y hy
  unfold okE isInt at *
  unfold neg1
  simp only
  omega
theorem own_ad {α : Type} {E : Enc α} {w : World} {base : Nat} {e : TypeId} {A : Option Addr} {n c : Nat} {l : List α} (h : Own E w base e (.slice A n c) l) {ad : Addr} (hA : A = some ad) : base ≤ ad.block := by
  subst hA
  rcases h.2 with ⟨h', _⟩ | ⟨g, cap, cur, h', hb, _⟩
  · cases h'
  · injection h' with h1 _ _
    injection h1 with h1
    subst h1
    exact hb
set_option maxRecDepth 100000 in
set_option maxHeartbeats 6400000 in
theorem nought_no (A1 : Option Addr) (n c : Nat) (A2 : Option Addr) (n2 c2 : Nat) (r1 r2 : RateT) (u1 u2 u3 a i x : Int) (hn : 7 ≤ n) (hn' : n ≤ 9223372036854775807) (A0 : Option Addr) (n0 c0 : Nat) (w : World) :
    Calls Try.prog 7 #[cfgV A1 n c A2 n2 c2 r1 r2 u1 u2 u3, .slice A0 n0 c0, .agg #[.int .i64 a, .int .i64 i, .int .i64 x]] w fun e w' => e = .returned (.bool true) ∧ Below w.heap.size w w' := by
  obtain ⟨w0, hw0⟩ : ∃ w0, w0 = (w.alloc (.cells #[.slice A1 n c, .slice A2 n2 c2, .int .i64 r1.p, .int .i64 r1.l, .int .i64 r1.m, .int .i64 r2.p, .int .i64 r2.l, .int .i64 r2.m, .int .i64 u1, .int .i64 u2, .int .i64 u3] 49)).alloc (.cells #[.int .i64 a, .int .i64 i, .int .i64 x] 50) := ⟨_, rfl⟩
  have BC := Lib.hid (show Blk w0 w.heap.size 49 #[.slice A1 n c, .slice A2 n2 c2, .int .i64 r1.p, .int .i64 r1.l, .int .i64 r1.m, .int .i64 r2.p, .int .i64 r2.l, .int .i64 r2.m, .int .i64 u1, .int .i64 u2, .int .i64 u3] by rw [hw0]; exact (Blk.new w 49 _ _ rfl).alloc _)
  have K0 := Lib.hid (show Keeps (fun _ => False) w w0 by rw [hw0]; exact ((Keeps.refl _ w).alloc _).alloc _)
  have HW0 := Lib.hid hw0
  clear hw0
  unfold cfgV
  go_enter Try.func7, Try.ntmps7
  go_wp2_with fail
  rw [← HW0.out]
  go_wp2_with (first
    | (go_at_call 8; refine (shown_any w0).mono ?_
       rintro e w1 ⟨rfl, k1⟩
       have x0 := (BC.out.keeps k1 (fun h => h)).cell 0
       simp at x0
       have K1 := Lib.hid (K0.out.trans k1 (fun _ _ h => h))
       clear k1)
    | (go_at_call 9; refine (new_no (wrap64 ((n : Int) + 1)) w1 (by unfold wrap64; omega)).mono ?_
       rintro e w2 ⟨rfl, hw2⟩
       rw [hw2]
       clear hw2))
  go_ret
  exact ⟨rfl, K1.out.below (Nat.le_refl _) (fun _ _ h => h)⟩
set_option maxRecDepth 100000 in
set_option maxHeartbeats 12800000 in
theorem nought_yes (A1 : Option Addr) (n c : Nat) (A2 : Option Addr) (n2 c2 : Nat) (r1 r2 : RateT) (u1 u2 u3 a i x : Int) (hn : n ≤ 6) (rs : List ER) (A0 : Option Addr) (n0 c0 : Nat) (w : World) (h0 : Reads rowE w A0 n0 rs) (ok0 : ∀ r ∈ rs, okR 9223372036854775807 w r) :
    Calls Try.prog 7 #[cfgV A1 n c A2 n2 c2 r1 r2 u1 u2 u3, .slice A0 n0 c0, .agg #[.int .i64 a, .int .i64 i, .int .i64 x]] w fun e w' => e = .returned (.bool true) ∧ Below w.heap.size w w' := by
  have R0 := Lib.hid h0
  have OK0 := Lib.hid ok0
  have LA := Lib.hid h0.1
  clear h0 ok0
  obtain ⟨w0, hw0⟩ : ∃ w0, w0 = (w.alloc (.cells #[.slice A1 n c, .slice A2 n2 c2, .int .i64 r1.p, .int .i64 r1.l, .int .i64 r1.m, .int .i64 r2.p, .int .i64 r2.l, .int .i64 r2.m, .int .i64 u1, .int .i64 u2, .int .i64 u3] 49)).alloc (.cells #[.int .i64 a, .int .i64 i, .int .i64 x] 50) := ⟨_, rfl⟩
  have BC := Lib.hid (show Blk w0 w.heap.size 49 #[.slice A1 n c, .slice A2 n2 c2, .int .i64 r1.p, .int .i64 r1.l, .int .i64 r1.m, .int .i64 r2.p, .int .i64 r2.l, .int .i64 r2.m, .int .i64 u1, .int .i64 u2, .int .i64 u3] by rw [hw0]; exact (Blk.new w 49 _ _ rfl).alloc _)
  have BN := Lib.hid (show Blk w0 (w.heap.size + 1) 50 #[.int .i64 a, .int .i64 i, .int .i64 x] by rw [hw0]; exact Blk.new _ 50 _ _ (by simp))
  have K0 := Lib.hid (show Keeps (fun _ => False) w w0 by rw [hw0]; exact ((Keeps.refl _ w).alloc _).alloc _)
  have HW0 := Lib.hid hw0
  clear hw0
  obtain ⟨N, hN⟩ : ∃ N, N = n + 1 := ⟨_, rfl⟩
  have hNi : (n : Int) + 1 = (N : Int) := by omega
  have HNI := Lib.hid hNi
  have hN7 : N ≤ 7 := by omega
  have HN := Lib.hid hN
  clear hN hNi
  unfold cfgV
  go_enter Try.func7, Try.ntmps7
  go_wp2_with fail
  rw [← HW0.out]
  go_wp2_with (first
    | (go_at_call 8; refine (shown_any w0).mono ?_
       rintro e w1 ⟨rfl, k1⟩
       have x0 := (BC.out.keeps k1 (fun h => h)).cell 0
       simp at x0
       have BC1 := Lib.hid (BC.out.keeps k1 (fun h => h))
       have BN1 := Lib.hid (BN.out.keeps k1 (fun h => h))
       have K1 := Lib.hid (K0.out.trans k1 (fun _ _ h => h))
       have hz1 := K1.out.size
       clear k1)
    | (go_at_call 9; rw [HNI.out]; refine (new_any N w1 (by have := HN.out; omega) hN7).mono ?_
       rintro e w2 ⟨g, A3, c3, rfl, d2, hg, k2⟩
       have D2 := Lib.hid d2
       have BC2 := Lib.hid (BC1.out.keeps k2 (fun h => h))
       have BN2 := Lib.hid (BN1.out.keeps k2 (fun h => h))
       have K2 := Lib.hid (K1.out.trans k2 (fun _ _ h => h))
       have hcg : w.heap.size ≠ g := by have := (BC1.out.lt); omega
       have hng : w.heap.size + 1 ≠ g := by have := (BN1.out.lt); omega
       have hgw : w.heap.size ≤ g := by omega
       clear d2 k2))
  go_loopw [10] (fun v wr => ∃ (k : Nat) (Ax : Option Addr) (cx : Nat) (bs : List Int), k ≤ n0 ∧ k ≤ 60 ∧ v = .int .i64 k ∧ Led wr g Ax N cx bs ∧ total bs = 0 ∧ Blk wr w.heap.size 49 #[.slice A1 n c, .slice A2 n2 c2, .int .i64 r1.p, .int .i64 r1.l, .int .i64 r1.m, .int .i64 r2.p, .int .i64 r2.l, .int .i64 r2.m, .int .i64 u1, .int .i64 u2, .int .i64 u3] ∧ Blk wr (w.heap.size + 1) 50 #[.int .i64 a, .int .i64 i, .int .i64 x] ∧ Keeps (fun _ => False) w wr) (fun v _ => n0 - (intOf v).toNat)
  case atStart => exact ⟨0, _, _, _, Nat.zero_le _, Nat.zero_le _, rfl, D2.out, total_zeros N, BC2.out, BN2.out, K2.out⟩
  case round =>
    clear BC BN BC1 BN1 D2 BC2 BN2 K2
    obtain ⟨k, Ax, cx, bs, hk, hk', rfl, d, ht, bc, bn, kk⟩ := hrel
    have D := Lib.hid d
    have HT := Lib.hid ht
    have BC := Lib.hid bc
    have BN := Lib.hid bn
    have KK := Lib.hid kk
    clear d ht bc bn kk
    by_cases hkn : k < n0 ∧ k < 60
    · obtain ⟨r, hr⟩ : ∃ r, rs[k]? = some r := ⟨_, List.getElem?_eq_getElem (by rw [LA.out]; exact hkn.1)⟩
      obtain ⟨ad, hA, hc⟩ := R0.out.at_ hr
      subst hA
      have q := hc 0 _ rfl
      simp [rowE] at q
      have q0 := KK.out.cell (fun h => h) q
      have ROK := Lib.hid (OK0.out r (List.mem_of_getElem? hr))
      obtain ⟨hk1, hk2⟩ := hkn
      clear hc hr q
      go_wp2_with (go_at_call 10; refine (post_any D.out r.es r.A r.n r.c (ROK.out.1.keeps KK.out (fun _ _ _ h => h)) ROK.out.2.1 ROK.out.2.2).mono ?_
                   rintro e w3 ⟨rfl, ⟨A4, c4, d4⟩, k4⟩
                   have D4 := Lib.hid d4
                   have BC4 := Lib.hid (BC.out.keeps k4 hcg)
                   have BN4 := Lib.hid (BN.out.keeps k4 hng)
                   have K4 := Lib.hid (KK.out.trans k4 (fun b hb h => by omega))
                   clear d4 k4)
      exact ⟨⟨k + 1, _, _, _, by omega, by omega, by go_num, D4.out, total_post HT.out, BC4.out, BN4.out, K4.out⟩, by simp [intOf]; omega⟩
    · obtain ⟨wo, hwo⟩ : ∃ wo : World, wo = wr := ⟨_, rfl⟩
      subst hwo
      have hlb : bs.length = N := D.out.row.len_eq rfl
      have LB := Lib.hid hlb
      have hls := rl_sum bs
      have hhs := rh_sum D.out.ints
      rw [hlb] at hls hhs
      have hnt := nought_tests HT.out
      have HNT := Lib.hid hnt
      have HLS := Lib.hid hls
      have HHS := Lib.hid hhs
      have hzk := KK.out.size
      clear hlb hnt hls hhs
      rcases (show ¬ k < n0 ∨ (k < n0 ∧ ¬ k < 60) by omega) with h | ⟨h, h'⟩
      all_goals
        clear hkn
        go_wp2_with fail
        obtain ⟨w4, hw4⟩ : ∃ w4, w4 = wo.alloc (.cells #[] 3) := ⟨_, rfl⟩
        rw [← hw4]
        have K4 := Lib.hid (show Keeps (fun _ => False) wo w4 by rw [hw4]; exact (Keeps.refl _ wo).alloc _)
        have O4 := Lib.hid (show Own (num .i64) w4 wo.heap.size 3 (.slice (some ⟨wo.heap.size, 0, none⟩) 0 0) (bs.take 0) by
          rw [hw4, List.take_zero]
          exact own_empty (num .i64) wo 3 wo.heap.size _ rfl (Nat.le_refl _))
        clear hw4
        go_wp2_with fail
        go_loopw [11, 12, 13, 14] (fun u l m v wt => ∃ j : Nat, j ≤ N ∧ v = .int .i64 j ∧ l = .int .i64 (sumI rl (bs.take j)) ∧ m = .int .i64 (sumI rh (bs.take j)) ∧ Own (num .i64) wt wo.heap.size 3 u (bs.take j) ∧ Keeps (fun _ => False) wo wt) (fun _ _ _ v _ => N - (intOf v).toNat)
        case atStart => exact ⟨0, Nat.zero_le _, rfl, rfl, rfl, O4.out, K4.out⟩
        case round =>
          clear K4 O4
          obtain ⟨j, hj, rfl, rfl, rfl, ho, kk⟩ := hrel
          have hlj : (bs.take j).length = j := by rw [List.length_take, LB.out]; omega
          obtain ⟨Aw, cw, hv, _⟩ := Own.val ho hlj
          subst hv
          have O5 := Lib.hid ho
          have K5 := Lib.hid kk
          have LJ := Lib.hid hlj
          have hzk5 := kk.size
          have hls := rl_sum (bs.take j)
          have hhs := rh_sum (l := bs.take j) (fun y hy => D.out.ints y (List.mem_of_mem_take hy))
          rw [hlj] at hls hhs
          clear ho kk hlj
          by_cases hjN : j < N
          · obtain ⟨b, hb⟩ : ∃ b, bs[j]? = some b := ⟨_, List.getElem?_eq_getElem (by rw [LB.out]; exact hjN)⟩
            have hbi := D.out.ints b (List.mem_of_getElem? hb)
            unfold isInt at hbi
            have sl := sumI_succ (f := rl) hb
            have sh := sumI_succ (f := rh) hb
            have SL := Lib.hid sl
            have SH := Lib.hid sh
            obtain ⟨L, hL⟩ : ∃ L, L = sumI rl (bs.take j) := ⟨_, rfl⟩
            obtain ⟨M, hM⟩ : ∃ M, M = sumI rh (bs.take j) := ⟨_, rfl⟩
            rw [← hL] at hls
            rw [← hM] at hhs
            rw [← hL, ← hM]
            have HLL := Lib.hid hL
            have HMM := Lib.hid hM
            obtain ⟨bl, hbl⟩ : ∃ bl, bl = b % 4294967296 := ⟨_, rfl⟩
            obtain ⟨bh, hbh⟩ : ∃ bh, bh = b / 4294967296 := ⟨_, rfl⟩
            have ea := and32 b
            rw [← hbl] at ea
            have hbl1 : 0 ≤ bl ∧ bl < 4294967296 := by omega
            have hbh1 : -2147483648 ≤ bh ∧ bh ≤ 2147483647 := by omega
            have HBL := Lib.hid hbl
            have HBH := Lib.hid hbh
            have eh : b / 4294967296 = bh := hbh.symm
            have HB := Lib.hid hb
            clear sl sh hL hM hbl hbh hb
            go_wp2_with (first
              | (go_at_call 21; refine (len_any (D.out.keep K5.out)).mono ?_
                 rintro e wa ⟨rfl, hwa⟩
                 rw [hwa]
                 clear hwa)
              | (go_at_call 11; refine (balance_in (D.out.keep K5.out) j b HB.out).mono ?_
                 rintro e wa ⟨rfl, hwa⟩
                 rw [hwa]
                 clear hwa)
              | (at_builtin; refine wp_append elem3 (by rfl) (.tmp 77) (.tmp 79) (by rfl) wo.heap.size (.slice Aw j cw) (bs.take j) [b] (some ⟨wr.heap.size, 0, none⟩) 1 1 rfl rfl (O5.out.alloc _) ((Blk.new wr 3 _ _ rfl).reads _ rfl rfl) (by rw [LJ.out]; omega) (by rw [LJ.out]; simp [maxLen]; omega) (by simp; omega) ?_
                 intro v8 w8 own8 gr8 at8
                 have K8 := Lib.hid (own_grow (K5.out.alloc _) gr8 (fun q hq => O5.out.base_le hq))
                 have O8 := Lib.hid own8
                 clear own8 gr8 at8))
            refine ⟨⟨j + 1, by omega, by go_num, ?_, ?_, ?_, K8.out⟩, by simp [intOf]; omega⟩
            · rw [SL.out, ← HLL.out]
              show Value.int .i64 (L + bl) = .int .i64 (L + b % 4294967296)
              rw [HBL.out]
            · rw [SH.out, ← HMM.out]
              show Value.int .i64 (M + bh) = .int .i64 (M + b / 4294967296)
              rw [HBH.out]
            · rw [List.take_add_one, HB.out]
              exact O8.out
          · obtain rfl : N = j := by omega
            clear hls hhs
            rw [List.take_of_length_le (by rw [LB.out]; exact Nat.le_refl _)]
            have ho := O5.out
            rw [List.take_of_length_le (by rw [LB.out]; exact Nat.le_refl _)] at ho
            have WAS := Lib.hid (own_reads ho)
            have hgo := D.out.box.lt
            have WNE : Hid (∀ ad : Addr, Aw = some ad → ¬ ad.block = g) := Lib.hid (fun ad e h => by have := own_ad ho e; omega)
            obtain ⟨L, hL⟩ : ∃ L, L = sumI rl bs := ⟨_, rfl⟩
            obtain ⟨M, hM⟩ : ∃ M, M = sumI rh bs := ⟨_, rfl⟩
            rw [← hL, ← hM]
            have hnt := HNT.out
            have hls := HLS.out
            have hhs := HHS.out
            rw [← hL] at hnt hls
            rw [← hM] at hnt hhs
            obtain ⟨q, hq⟩ : ∃ q, q = L / 4294967296 := ⟨_, rfl⟩
            have ea := and32 L
            rw [hnt.2] at ea
            have hmq : M = -q := by omega
            have eq1 : L / 4294967296 = q := hq.symm
            have hqb : 0 ≤ q ∧ q ≤ 7 := by omega
            subst hmq
            clear ho hnt hhs hq hL hM
            have D5 := Lib.hid (D.out.keep K5.out)
            have b9 := BC.out.keeps K5.out (fun h => h)
            have n9 := BN.out.keeps K5.out (fun h => h)
            have x0 := b9.cell 0
            have x1 := b9.cell 1
            have x2 := b9.cell 2
            have x3 := b9.cell 3
            have x4 := b9.cell 4
            have x5 := b9.cell 5
            have x6 := b9.cell 6
            have x7 := b9.cell 7
            have x8 := b9.cell 8
            have x9 := b9.cell 9
            have x10 := b9.cell 10
            have y0 := n9.cell 0
            have y1 := n9.cell 1
            have y2 := n9.cell 2
            simp at x0 x1 x2 x3 x4 x5 x6 x7 x8 x9 x10 y0 y1 y2
            have KW := Lib.hid (KK.out.trans K5.out (fun _ _ h => h))
            clear b9 n9
            obtain ⟨E, hE⟩ : ∃ E, E = payE n r1 r2 a i x := ⟨_, rfl⟩
            obtain ⟨P, hP⟩ : ∃ P, P = payL n r1 r2 a i x := ⟨_, rfl⟩
            have HE := Lib.hid hE
            have HP := Lib.hid hP
            by_cases hz : E = 0
            · subst hz
              have hk := pay_key hn hE.symm
              have hpp := pay_post (bs := bs) hn (by rw [LB.out, HN.out]) hE.symm
              rw [← hP, ← HN.out] at hk
              rw [← hP] at hpp
              have PK := Lib.hid hk
              have hPl := hk.2.2.2.2
              have ht0 : turnE P = 0 ∧ turnL P = P.map neg1 := turnE_yes hk.2.2.1
              have HT0 := Lib.hid ht0
              have m1 : True := trivial
              clear hE hP hk ht0
              obtain ⟨E3, hE3⟩ : ∃ E3, E3 = postE bs P := ⟨_, rfl⟩
              rw [← hE3] at hpp
              have HE3 := Lib.hid hE3
              clear hE3
              rcases hpp with hpp | hpp
              · subst hpp
                have hbk := back_key D.out.ints HE3.out.symm
                have HBK := Lib.hid hbk
                have hnb := postB_ok HE3.out.symm
                have HNB := Lib.hid hnb
                clear hbk hnb
                go_wp2_with (first
                  | (go_at_call 21; refine (len_any D5.out).mono ?_
                     rintro e wa ⟨rfl, hwa⟩
                     rw [hwa]
                     clear hwa)
                  | (go_at_call 17; refine (payment_any A1 n c A2 n2 c2 r1 r2 u1 u2 u3 a i x _ (by omega)).mono ?_
                     rintro e w6 ⟨A6, n6, c6, rfl, o6, k6⟩
                     rw [← HE.out]
                     rw [← HP.out] at o6
                     have D6 := Lib.hid (D5.out.keep k6)
                     have W6 := Lib.hid (WAS.out.keeps k6 (fun _ _ _ h => h))
                     have O6 := Lib.hid o6
                     have hn6 : n6 = P.length := (o6.len_eq rfl).symm
                     have hn6' : n6 ≤ 6 := by omega
                     have K6 := Lib.hid (KW.out.trans k6 (fun _ _ h => h))
                     clear o6 k6 hn6)
                  | (go_at_call 19; refine (turned_any P A6 n6 c6 w6 (own_reads O6.out) (own_none O6.out) (by omega) PK.out.2.2.2.1).mono ?_
                     rintro e w7 ⟨A7, n7, c7, rfl, o7, k7⟩
                     rw [HT0.out.1]
                     rw [HT0.out.2] at o7
                     have D7 := Lib.hid (D6.out.keep k7)
                     have W7 := Lib.hid (W6.out.keeps k7 (fun _ _ _ h => h))
                     have P7 := Lib.hid ((own_reads O6.out).keeps k7 (fun _ _ _ h => h))
                     have T7 := Lib.hid o7
                     have hn7 : n7 = (P.map neg1).length := (o7.len_eq rfl).symm
                     have hn7' : n7 ≤ 6 := by rw [hn7]; simp; omega
                     have K7 := Lib.hid (K6.out.trans k7 (fun _ _ h => h))
                     clear o7 k7 hn7)
                  | (go_at_call 10; clear m1; refine (post_any D7.out P A6 n6 c6 P7.out PK.out.2.2.2.1 (by omega)).mono ?_
                     rintro e w8 ⟨rfl, ⟨A8, c8, d8⟩, k8⟩
                     rw [← HE3.out]
                     rw [HNB.out] at d8
                     have D8 := Lib.hid d8
                     have W8 := Lib.hid (W7.out.keeps k8 (fun ad e _ h => WNE.out ad e h))
                     have T8 := Lib.hid (T7.out.keeps k8 (fun q hq e => by rw [e] at hq; exact T7.out.blk_ne D7.out.box (by decide) hq))
                     have K8 := Lib.hid (K7.out.trans k8 (fun b hb h => by omega))
                     clear d8 k8)
                  | (go_at_call 10; refine (post_any D8.out (P.map neg1) A7 n7 c7 (own_reads T8.out) (neg_okE PK.out.2.2.1 PK.out.2.2.2.1) (by omega)).mono ?_
                     rintro e w9 ⟨rfl, ⟨A9, c9, d9⟩, k9⟩
                     rw [HBK.out.1]
                     rw [HBK.out.2] at d9
                     have D9 := Lib.hid d9
                     have W9 := Lib.hid (W8.out.keeps k9 (fun ad e _ h => WNE.out ad e h))
                     have K9 := Lib.hid (K8.out.trans k9 (fun b hb h => by omega))
                     clear d9 k9))
                go_loop [23] (fun v => ∃ j : Nat, j ≤ N ∧ v = .int .i64 j) (fun v => N - (intOf v).toNat)
                case atStart => exact ⟨0, Nat.zero_le _, rfl⟩
                case round =>
                  obtain ⟨j, hj, rfl⟩ := hrel
                  by_cases hjN : j < N
                  · obtain ⟨b, hb⟩ : ∃ b, bs[j]? = some b := ⟨_, List.getElem?_eq_getElem (by rw [LB.out]; exact hjN)⟩
                    obtain ⟨aw, hA, hc⟩ := W9.out.at_ hb
                    subst hA
                    have q := hc 0 _ rfl
                    simp [num] at q
                    have HB := Lib.hid hb
                    clear hc hb
                    go_wp2_with (first
                      | (go_at_call 21; refine (len_any D9.out).mono ?_
                         rintro e wa ⟨rfl, hwa⟩
                         rw [hwa]
                         clear hwa)
                      | (go_at_call 11; refine (balance_in D9.out j b HB.out).mono ?_
                         rintro e wa ⟨rfl, hwa⟩
                         rw [hwa]
                         clear hwa))
                    exact ⟨⟨j + 1, by omega, by go_num⟩, by simp [intOf]; omega⟩
                  · obtain rfl : N = j := by omega
                    go_wp2_with (go_at_call 21; refine (len_any D9.out).mono ?_
                                 rintro e wa ⟨rfl, hwa⟩
                                 rw [hwa]
                                 clear hwa)
                    go_ret
                    exact ⟨rfl, K9.out.below (Nat.le_refl _) (fun _ _ h => h)⟩
              · subst hpp
                have hnb := postB_no (bs := bs) (es := P) (by rw [← HE3.out]; decide)
                have HNB := Lib.hid hnb
                clear hnb
                go_wp2_with (first
                  | (go_at_call 21; refine (len_any D5.out).mono ?_
                     rintro e wa ⟨rfl, hwa⟩
                     rw [hwa]
                     clear hwa)
                  | (go_at_call 17; refine (payment_any A1 n c A2 n2 c2 r1 r2 u1 u2 u3 a i x _ (by omega)).mono ?_
                     rintro e w6 ⟨A6, n6, c6, rfl, o6, k6⟩
                     rw [← HE.out]
                     rw [← HP.out] at o6
                     have D6 := Lib.hid (D5.out.keep k6)
                     have W6 := Lib.hid (WAS.out.keeps k6 (fun _ _ _ h => h))
                     have O6 := Lib.hid o6
                     have hn6 : n6 = P.length := (o6.len_eq rfl).symm
                     have hn6' : n6 ≤ 6 := by omega
                     have K6 := Lib.hid (KW.out.trans k6 (fun _ _ h => h))
                     clear o6 k6 hn6)
                  | (go_at_call 19; refine (turned_any P A6 n6 c6 w6 (own_reads O6.out) (own_none O6.out) (by omega) PK.out.2.2.2.1).mono ?_
                     rintro e w7 ⟨A7, n7, c7, rfl, o7, k7⟩
                     rw [HT0.out.1]
                     have D7 := Lib.hid (D6.out.keep k7)
                     have W7 := Lib.hid (W6.out.keeps k7 (fun _ _ _ h => h))
                     have P7 := Lib.hid ((own_reads O6.out).keeps k7 (fun _ _ _ h => h))
                     have K7 := Lib.hid (K6.out.trans k7 (fun _ _ h => h))
                     clear o7 k7)
                  | (go_at_call 10; clear m1; refine (post_any D7.out P A6 n6 c6 P7.out PK.out.2.2.2.1 (by omega)).mono ?_
                     rintro e w8 ⟨rfl, ⟨A8, c8, d8⟩, k8⟩
                     rw [← HE3.out]
                     rw [HNB.out] at d8
                     have D8 := Lib.hid d8
                     have W8 := Lib.hid (W7.out.keeps k8 (fun ad e _ h => WNE.out ad e h))
                     have K8 := Lib.hid (K7.out.trans k8 (fun b hb h => by omega))
                     clear d8 k8))
                go_loop [23] (fun v => ∃ j : Nat, j ≤ N ∧ v = .int .i64 j) (fun v => N - (intOf v).toNat)
                case atStart => exact ⟨0, Nat.zero_le _, rfl⟩
                case round =>
                  obtain ⟨j, hj, rfl⟩ := hrel
                  by_cases hjN : j < N
                  · obtain ⟨b, hb⟩ : ∃ b, bs[j]? = some b := ⟨_, List.getElem?_eq_getElem (by rw [LB.out]; exact hjN)⟩
                    obtain ⟨aw, hA, hc⟩ := W8.out.at_ hb
                    subst hA
                    have q := hc 0 _ rfl
                    simp [num] at q
                    have HB := Lib.hid hb
                    clear hc hb
                    go_wp2_with (first
                      | (go_at_call 21; refine (len_any D8.out).mono ?_
                         rintro e wa ⟨rfl, hwa⟩
                         rw [hwa]
                         clear hwa)
                      | (go_at_call 11; refine (balance_in D8.out j b HB.out).mono ?_
                         rintro e wa ⟨rfl, hwa⟩
                         rw [hwa]
                         clear hwa))
                    exact ⟨⟨j + 1, by omega, by go_num⟩, by simp [intOf]; omega⟩
                  · obtain rfl : N = j := by omega
                    go_wp2_with (go_at_call 21; refine (len_any D8.out).mono ?_
                                 rintro e wa ⟨rfl, hwa⟩
                                 rw [hwa]
                                 clear hwa)
                    go_ret
                    exact ⟨rfl, K8.out.below (Nat.le_refl _) (fun _ _ h => h)⟩
            · have te : (E == 0) = false := by simpa using hz
              clear hz hE hP
              go_wp2_with (first
                | (go_at_call 21; refine (len_any D5.out).mono ?_
                   rintro e wa ⟨rfl, hwa⟩
                   rw [hwa]
                   clear hwa)
                | (go_at_call 17; refine (payment_any A1 n c A2 n2 c2 r1 r2 u1 u2 u3 a i x _ (by omega)).mono ?_
                   rintro e w6 ⟨A6, n6, c6, rfl, o6, k6⟩
                   rw [← HE.out]
                   have K6 := Lib.hid (KW.out.trans k6 (fun _ _ h => h))
                   clear o6 k6))
              go_ret
              exact ⟨rfl, K6.out.below (Nat.le_refl _) (fun _ _ h => h)⟩
theorem nought_any (A1 : Option Addr) (n c : Nat) (A2 : Option Addr) (n2 c2 : Nat) (r1 r2 : RateT) (u1 u2 u3 a i x : Int) (hn : n ≤ 9223372036854775807) (rs : List ER) (A0 : Option Addr) (n0 c0 : Nat) (w : World) (h0 : Reads rowE w A0 n0 rs) (ok0 : ∀ r ∈ rs, okR 9223372036854775807 w r) :
    Calls Try.prog 7 #[cfgV A1 n c A2 n2 c2 r1 r2 u1 u2 u3, .slice A0 n0 c0, .agg #[.int .i64 a, .int .i64 i, .int .i64 x]] w fun e w' => e = .returned (.bool true) ∧ Below w.heap.size w w' := by
  by_cases h : n ≤ 6
  · exact nought_yes A1 n c A2 n2 c2 r1 r2 u1 u2 u3 a i x h rs A0 n0 c0 w h0 ok0
  · exact nought_no A1 n c A2 n2 c2 r1 r2 u1 u2 u3 a i x (by omega) hn A0 n0 c0 w
end Go.Proofs.Ytklcooepolmemaa
