/- SettleNought, walked. -/
import Derived.Test.YtbobmilbcbileaaNoughtP
import Derived.StillTailTactics
import Derived.Deep.Cut
namespace Go.Proofs.Ytbobmilbcbileaa
open Go.RowKit Mem
/-- A move, in cells. -/
structure MV where
  f : Int
  t : Int
  a : Int
  c : Bool
def moveE : Enc MV where
  enc := fun m => [.int .i64 m.f, .int .i64 m.t, .int .i64 m.a, .bool m.c]
  size := 4
  len := fun _ => rfl
  one := fun x u h => by
    simp at h
    rcases h with rfl | rfl | rfl | rfl <;> rfl
  pos := by decide
def okM (m : MV) : Prop := isInt m.f ∧ isInt m.t ∧ isInt m.a
def amo (c : Int) : Nat := ((if c < 0 then -(c + 1) else c) % 4).toNat
theorem amo_lt (c : Int) : amo c < 4 := by unfold amo; omega
theorem among_any (c : Int) (hc : isInt c) (w : World) : Calls Try.prog 9 #[.int .i64 c] w fun e w' => e = .returned (.int .i64 (amo c)) ∧ w' = w := by
  unfold isInt at hc
  have e : ((amo c : Nat) : Int) = (if c < 0 then -(c + 1) else c) % 4 := by unfold amo; omega
  rw [e]
  by_cases h : c < 0
  · rw [if_pos h]
    have h2 : 0 ≤ -(c + 1) := by omega
    have h3 : (-(c + 1)).tmod 4 = (-(c + 1)) % 4 := Int.tmod_eq_emod_of_nonneg h2
    obtain ⟨r, hr⟩ : ∃ r, r = (-(c + 1)) % 4 := ⟨_, rfl⟩
    rw [← hr] at h3 ⊢
    have hr1 : 0 ≤ r ∧ r < 4 := by omega
    clear hr
    go_enter Try.func9, Try.ntmps9
    go_wp2_with fail
    go_ret
    exact ⟨rfl, rfl⟩
  · rw [if_neg h]
    have h3 : c.tmod 4 = c % 4 := Int.tmod_eq_emod_of_nonneg (by omega)
    obtain ⟨r, hr⟩ : ∃ r, r = c % 4 := ⟨_, rfl⟩
    rw [← hr] at h3 ⊢
    have hr1 : 0 ≤ r ∧ r < 4 := by omega
    clear hr
    go_enter Try.func9, Try.ntmps9
    go_wp2_with fail
    go_ret
    exact ⟨rfl, rfl⟩
theorem tmod_small (a : Int) : -1099511627776 < a.tmod 1099511627776 ∧ a.tmod 1099511627776 < 1099511627776 := by
  rcases Int.le_total 0 a with h | h
  · rw [Int.tmod_eq_emod_of_nonneg h]; omega
  · obtain ⟨b, rfl⟩ : ∃ b, a = -b := ⟨-a, by omega⟩
    rw [Int.neg_tmod, Int.tmod_eq_emod_of_nonneg (by omega)]
    omega
theorem inv_cd {k : Nat} {s : Int} {T : List T6} {Nl Ml : List Int} {cnt n : Int} (h : Inv k s T Nl Ml cnt n) : 0 ≤ sumT cd T := by
  have : ∀ l : List T6, (∀ t ∈ l, 0 ≤ cd t) → 0 ≤ sumT cd l := by
    intro l hl
    induction l with
    | nil => exact Int.le_refl _
    | cons t l ih =>
      have h1 := ih (fun x hx => hl x (List.mem_cons_of_mem _ hx))
      have h2 := hl t (List.mem_cons_self ..)
      show 0 ≤ cd t + sumT cd l
      omega
  refine this T (fun t ht => ?_)
  obtain ⟨i, hi⟩ := List.mem_iff_getElem?.1 ht
  obtain ⟨_, _, _, _, _, _, e1, _, f1, _⟩ := h.one i t hi
  unfold cd
  omega
theorem eq28 (a b c d : Int) (w : World) : (Op.equalIn 10000 28 (.agg #[.int .i64 a, .int .i64 b, .int .i64 c, .int .i64 d]) (.agg #[.int .i64 a, .int .i64 b, .int .i64 c, .int .i64 d])).run Try.prog w = .ok true w := by
  rw [show (10000 : Nat) = 9999 + 1 from rfl, Op.equalIn]
  simp only [Sem.run_bind, run_underlying Try.underlying28, Result.andThen_ok]
  simp only [Std.Legacy.Range.forIn_eq_forIn_range', Std.Legacy.Range.size, Nat.sub_zero, Nat.add_sub_cancel, Nat.div_one, List.range'_succ, List.range'_zero, List.forIn_cons, List.forIn_nil]
  go_simp
/-- Numbers in cells. -/
def arr (l : List Int) : Array Value := (l.map (Value.int .i64)).toArray
theorem arr_get (l : List Int) (i : Nat) : (arr l)[i]? = l[i]?.map (Value.int .i64) := by simp [arr]
theorem arr_set (l : List Int) (i : Nat) (x : Int) : (arr l).setIfInBounds i (.int .i64 x) = arr (l.set i x) := by simp [arr]
theorem arr_cell {w : World} {g : Nat} {t : TypeId} {l : List Int} (h : Blk w g t (arr l)) {i : Nat} {x : Int} (hi : l[i]? = some x) : w.cell? ⟨g, i, none⟩ = some (.int .i64 x) := by
  rw [h.cell, arr_get, hi]
  rfl
theorem S5.keepb {w w' : World} {g : Nat} {no : Int} {A : Option Addr} {n c : Nat} {no2 : Int} {A2 : Option Addr} {n2 c2 : Nat} {cl : Bool} {T T2 : List T6} (h : S5 w g no A n c no2 A2 n2 c2 cl T T2) {g' : Nat} {cs : Array Value} (hb : Blk w g' 28 cs) (K : Keeps (fun b => b = g') w w') : S5 w' g no A n c no2 A2 n2 c2 cl T T2 :=
  ⟨h.box.keeps K (h.box.ne_ hb (by decide)), h.row.keeps K (fun k hk e => by rw [e] at hk; exact h.row.blk_ne hb (by decide) hk), h.last.keeps K (fun k hk e => by rw [e] at hk; exact h.last.blk_ne hb (by decide) hk), h.ts, h.few, h.few2⟩
set_option maxRecDepth 100000 in
set_option maxHeartbeats 12800000 in
theorem nought_any (ms : List MV) (A0 : Option Addr) (n0 c0 : Nat) (w : World) (h0 : Reads moveE w A0 n0 ms) (hok : ∀ m ∈ ms, okM m) (hn0 : n0 ≤ 9223372036854775807) :
    Calls Try.prog 3 #[.slice A0 n0 c0] w fun e w' => e = .returned (.bool true) ∧ Below w.heap.size w w' := by
  have LA := Lib.hid h0.1
  have R0 := Lib.hid h0
  have OK := Lib.hid hok
  clear h0 hok
  go_enter Try.func3, Try.ntmps3
  go_wp2_with (first
    | (go_at_call 7; refine (shown_any w).mono ?_
       rintro e w1 ⟨rfl, k1⟩
       have K1 := Lib.hid k1
       have hz1 := k1.size
       clear k1)
    | (go_at_call 8; refine (new_any 4 w1 (by omega) (by omega)).mono ?_
       rintro e w2 ⟨g, A2, c2, rfl, d2, hg, k2⟩
       have D2 := Lib.hid d2
       have K2 := Lib.hid (K1.out.trans k2 (fun _ _ h => h))
       have hgl := d2.box.lt
       clear d2 k2))
  obtain ⟨w3, hw3⟩ : ∃ w3, w3 = (w2.alloc (.cells #[.int .i64 0, .int .i64 0, .int .i64 0, .int .i64 0] 28)).alloc (.cells #[.int .i64 0, .int .i64 0, .int .i64 0, .int .i64 0] 28) := ⟨_, rfl⟩
  rw [← hw3]
  obtain ⟨gN, hgN⟩ : ∃ gN, gN = w2.heap.size := ⟨_, rfl⟩
  rw [← hgN]
  have K3 := Lib.hid (show Keeps (fun _ => False) w w3 by rw [hw3]; exact (K2.out.alloc _).alloc _)
  have D3 := Lib.hid (show S5 w3 g 1 A2 4 c2 0 none 0 0 false (zeros 4) [] by rw [hw3]; exact D2.out.keep (((Keeps.refl _ w2).alloc _).alloc _))
  have N3 := Lib.hid (show Blk w3 gN 28 (arr [0, 0, 0, 0]) by rw [hw3, hgN]; exact (Blk.new w2 28 _ _ rfl).alloc _)
  have M3 := Lib.hid (show Blk w3 (gN + 1) 28 (arr [0, 0, 0, 0]) by rw [hw3, hgN]; exact Blk.new _ 28 _ _ (by simp))
  have hwN : w.heap.size ≤ gN := by have := K2.out.size; omega
  have hwg : w.heap.size ≤ g := by omega
  clear hw3 hgN
  go_wp2_with fail
  go_loopw [8, 9, 10] (fun u8 u9 v wr => ∃ (k : Nat) (no : Int) (A : Option Addr) (c : Nat) (no2 : Int) (B : Option Addr) (n2 c2 : Nat) (cl : Bool) (T T2 : List T6) (Nl Ml : List Int) (cnt n : Int), k ≤ n0 ∧ k ≤ 100 ∧ u8 = .int .i64 cnt ∧ u9 = .int .i64 n ∧ v = .int .i64 k ∧ 0 ≤ no ∧ no ≤ (k : Int) + 1 ∧ S5 wr g no A 4 c no2 B n2 c2 cl T T2 ∧ Blk wr gN 28 (arr Nl) ∧ Blk wr (gN + 1) 28 (arr Ml) ∧ Inv (2 * k) 0 T Nl Ml cnt n ∧ ((k = 0 ∨ k = n0 ∨ k = 100) → Nl = Ml ∧ cnt = n) ∧ Keeps (fun _ => False) w wr) (fun _ _ v _ => n0 - (intOf v).toNat)
  case atStart => exact ⟨0, 1, _, _, _, _, _, _, _, _, _, _, _, _, _, Nat.zero_le _, Nat.zero_le _, rfl, rfl, rfl, by omega, by omega, D3.out, N3.out, M3.out, inv_start, fun _ => ⟨rfl, rfl⟩, K3.out⟩
  case round =>
    clear D3 N3 M3 K3 D2
    obtain ⟨k, no, A, c, no2, B, n2, c2', cl, T, T2, Nl, Ml, cnt, n, hk, hk', rfl, rfl, rfl, hno, hno', d, bn, bm, inv, fin, kk⟩ := hrel
    have D := Lib.hid d
    have BN := Lib.hid bn
    have BM := Lib.hid bm
    have INV := Lib.hid inv
    have FIN := Lib.hid fin
    have KK := Lib.hid kk
    have hgl := d.box.lt
    have hNl := bn.lt
    have hMl := bm.lt
    clear d bn bm inv fin kk
    by_cases hkn : k < n0 ∧ k < 100
    · obtain ⟨hk1, hk2⟩ := hkn
      obtain ⟨⟨mf, mt, ma, mc⟩, hm⟩ : ∃ m, ms[k]? = some m := ⟨_, List.getElem?_eq_getElem (by rw [LA.out]; exact hk1)⟩
      obtain ⟨ad, hA, hc⟩ := (R0.out.keeps KK.out (fun _ _ _ h => h)).at_ hm
      subst hA
      have hom := OK.out _ (List.mem_of_getElem? hm)
      have q0 := hc 0 _ rfl
      have q1 := hc 1 _ rfl
      have q2 := hc 2 _ rfl
      have q3 := hc 3 _ rfl
      simp [moveE] at q0 q1 q2 q3
      rw [← add_add, add_pos _ (by decide : 0 < 1)] at q1
      rw [← add_add, add_pos _ (by decide : 0 < 2)] at q2
      rw [← add_add, add_pos _ (by decide : 0 < 3)] at q3
      obtain ⟨wa, hwa⟩ : ∃ wa, wa = wr.alloc (.cells #[.int .i64 mf, .int .i64 mt, .int .i64 ma, .bool mc] 30) := ⟨_, rfl⟩
      have ba : Blk wa wr.heap.size 30 #[.int .i64 mf, .int .i64 mt, .int .i64 ma, .bool mc] := by rw [hwa]; exact Blk.new wr 30 _ _ rfl
      have ka : Keeps (fun _ => False) wr wa := by rw [hwa]; exact (Keeps.refl _ wr).alloc _
      have x0 := ba.cell 0
      have x1 := ba.cell 1
      have x2 := ba.cell 2
      simp at x0 x1 x2
      obtain ⟨am, ham⟩ : ∃ am, am = ma.tmod 1099511627776 := ⟨_, rfl⟩
      have hom3 := hom.2.2
      unfold isInt at hom3
      have hab : -1099511627776 < am ∧ am < 1099511627776 := by rw [ham]; exact tmod_small ma
      have hrem : ma.tmod 1099511627776 = am := ham.symm
      obtain ⟨f, hf⟩ : ∃ f, f = amo mf := ⟨_, rfl⟩
      obtain ⟨t, ht⟩ : ∃ t, t = amo mt := ⟨_, rfl⟩
      have hf4 : f < 4 := by rw [hf]; exact amo_lt _
      have ht4 : t < 4 := by rw [ht]; exact amo_lt _
      obtain ⟨hE, b, b', hb, hb', inv'⟩ := INV.out.move (by omega) hf4 ht4 hab.1 hab.2
      have BA := Lib.hid ba
      have KA := Lib.hid ka
      have HWA := Lib.hid hwa
      have HOM := Lib.hid hom
      have HF := Lib.hid hf
      have HT := Lib.hid ht
      have HE := Lib.hid hE
      have HB := Lib.hid hb
      have HB' := Lib.hid hb'
      have INV' := Lib.hid inv'
      clear hc hm ba ka hom ham hf ht hE hb hb' inv' hom3
      go_upto_region 14 with fail
      rw [← HWA.out]
      clear HWA q0 q1 q2 q3
      go_quiet ((go_at_call 9; exact Calls.quiet_of_same (among_any _ (by first | exact HOM.out.1 | exact HOM.out.2.1) _)))
      rw [← HF.out, ← HT.out]
      obtain ⟨wq, hwq⟩ : ∃ wq, wq = wa.drewN nq := ⟨_, rfl⟩
      rw [← hwq]
      have KQ := Lib.hid (show Keeps (fun _ => False) wr wq by rw [hwq]; exact KA.out.drewN nq)
      have BAQ := Lib.hid (show Blk wq wr.heap.size 30 #[.int .i64 mf, .int .i64 mt, .int .i64 ma, .bool mc] by rw [hwq]; exact BA.out.drewN nq)
      clear hwq x0 x1 x2
      have hokE : ∀ e ∈ [((f : Int), -am), ((t : Int), am)], okE e := by
        intro e he
        simp at he
        unfold okE isInt
        rcases he with rfl | rfl <;> simp only <;> omega
      have HOKE := Lib.hid hokE
      obtain ⟨T', hT'⟩ : ∃ T', T' = countT T [((f : Int), -am), ((t : Int), am)] := ⟨_, rfl⟩
      have inv2 := INV'.out
      rw [← hT'] at inv2
      obtain ⟨M', hM'⟩ : ∃ M', M' = (Ml.set f (b - am)).set t (b' + am) := ⟨_, rfl⟩
      rw [← hM'] at inv2
      have hbb := INV.out.bM f b HB.out
      have hbb' : -(300 * 1099511627776) ≤ b' ∧ b' ≤ 300 * 1099511627776 := by
        by_cases e : f = t
        · have h1 := HB'.out
          rw [e, List.getElem?_set_self (by rw [INV.out.lenM]; exact ht4)] at h1
          have h1 := Option.some.inj h1
          omega
        · have h1 := HB'.out
          rw [List.getElem?_set_ne e] at h1
          have := INV.out.bM t b' h1
          omega
      have hnk := INV.out.nk
      have htl := INV.out.tl
      have hc00 := INV.out.cnt0
      have hnl0 : cnt ≤ n := by
        have h1 := INV.out.cut.tl
        have h2 : sumT cd (zeros 4) = 0 := by decide +kernel
        have h3 := inv_cd INV.out
        omega
      have HT' := Lib.hid hT'
      have HM' := Lib.hid hM'
      have INV2 := Lib.hid inv2
      clear hokE hT' inv2 hM' htl
      go_upto_region 19 with (go_at_call 10; refine (count_any (D.out.keep (KQ.out.alloc (.cells #[.int .i64 f, .int .i64 (-am), .int .i64 t, .int .i64 am] 34))) [((f : Int), -am), ((t : Int), am)] (some ⟨wq.heap.size, 0, none⟩) 2 2 ((Blk.new wq 34 _ _ rfl).reads _ rfl rfl) HOKE.out (by omega)).mono ?_
                              rintro e w4 ⟨rfl, ⟨A4, c4, d4⟩, k4⟩
                              rw [HE.out]
                              rw [← HT'.out] at d4
                              have k4' := (KQ.out.mono (S' := fun b => b = g) (fun _ _ h => h.elim)).trans (((Keeps.refl (fun b => b = g) wq).alloc (.cells #[.int .i64 f, .int .i64 (-am), .int .i64 t, .int .i64 am] 34)).trans k4 (fun _ _ h => h)) (fun _ _ h => h)
                              have BN4 := Lib.hid (BN.out.keeps k4' (fun e => BN.out.ne_ D.out.box (by decide) e))
                              have bm4 := BM.out.keeps k4' (fun e => BM.out.ne_ D.out.box (by decide) e)
                              have BA4 := Lib.hid (((BAQ.out.alloc (.cells #[.int .i64 f, .int .i64 (-am), .int .i64 t, .int .i64 am] 34)).keeps k4 (fun e => by omega)))
                              have mcell := arr_cell bm4 HB.out
                              have mfroz := bm4.frozen f
                              have BM4 := Lib.hid bm4
                              have D4 := Lib.hid d4
                              have K4 := Lib.hid (KK.out.trans k4' (fun b hb h => by omega))
                              clear d4 k4 k4' bm4)
      obtain ⟨w5, hw5⟩ : ∃ w5, w5 = w4.setCell ⟨gN + 1, f, none⟩ (.int .i64 (b - am)) := ⟨_, rfl⟩
      rw [← hw5]
      have k5 : Keeps (fun b => b = gN + 1) w4 w5 := by rw [hw5]; exact (Keeps.refl _ w4).setCell _ _ (fun _ => rfl)
      have bm5 : Blk w5 (gN + 1) 28 (arr (Ml.set f (b - am))) := by rw [hw5, ← arr_set]; exact BM4.out.set f _
      have BN5 := Lib.hid (BN4.out.keeps k5 (fun e => by omega))
      have BA5 := Lib.hid (BA4.out.keeps k5 (fun e => BA4.out.ne_ BM4.out (by decide) e))
      have D5 := Lib.hid (D4.out.keepb BM4.out k5)
      have K5 := Lib.hid (K4.out.trans k5 (fun b hb h => by omega))
      have mcell5 := arr_cell bm5 HB'.out
      have mfroz5 := bm5.frozen t
      have BM5 := Lib.hid bm5
      clear hw5 k5 bm5 mcell mfroz
      go_upto_region 20 with fail
      obtain ⟨w7, hw7⟩ : ∃ w7, w7 = w5.setCell ⟨gN + 1, t, none⟩ (.int .i64 (b' + am)) := ⟨_, rfl⟩
      rw [← hw7]
      have k7 : Keeps (fun b => b = gN + 1) w5 w7 := by rw [hw7]; exact (Keeps.refl _ w5).setCell _ _ (fun _ => rfl)
      have BM7 := Lib.hid (show Blk w7 (gN + 1) 28 (arr M') by rw [hw7, HM'.out, ← arr_set]; exact BM5.out.set t _)
      have BN7 := Lib.hid (BN5.out.keeps k7 (fun e => by omega))
      have ba7 := BA5.out.keeps k7 (fun e => BA5.out.ne_ BM5.out (by decide) e)
      have D7 := Lib.hid (D5.out.keepb BM5.out k7)
      have K7 := Lib.hid (K5.out.trans k7 (fun b hb h => by omega))
      have z3 := ba7.cell 3
      simp at z3
      have hxl := ba7.lt
      clear hw7 k7 ba7 mcell5 mfroz5
      obtain ⟨A7, hA7⟩ : ∃ A7, A7 = A4 := ⟨_, rfl⟩
      obtain ⟨c7, hc7⟩ : ∃ c7, c7 = c4 := ⟨_, rfl⟩
      rw [← hA7, ← hc7] at D7
      clear hA7 hc7
      have hcut : mc = true ∨ (mc = false ∧ ((k : Int) == (n0 : Int) - 1) = true) ∨ (mc = false ∧ ((k : Int) == (n0 : Int) - 1) = false ∧ ((k : Int) == 99) = true) ∨ (mc = false ∧ ((k : Int) == (n0 : Int) - 1) = false ∧ ((k : Int) == 99) = false) := by
        cases mc with
        | true => left; rfl
        | false =>
          right
          by_cases h1 : (k : Int) = (n0 : Int) - 1
          · left; exact ⟨rfl, by simpa using h1⟩
          · right
            by_cases h2 : (k : Int) = 99
            · left; exact ⟨rfl, by simpa using h1, by simpa using h2⟩
            · right; exact ⟨rfl, by simpa using h1, by simpa using h2⟩
      have hn2 : n + 2 ≤ 1000 := by omega
      have hin : (am = 0 ∧ (am == 0) = true ∧ n + (if am = 0 then 0 else 2) = n) ∨ (¬ am = 0 ∧ (am == 0) = false ∧ n + (if am = 0 then 0 else 2) = n + 2) := by
        by_cases h : am = 0
        · left; exact ⟨h, by simpa using h, by rw [if_pos h]; omega⟩
        · right; exact ⟨h, by simpa using h, by rw [if_neg h]⟩
      rcases hin with ⟨_, ta, hin⟩ | ⟨_, ta, hin⟩ <;> rw [hin] at INV2 <;> clear hin
      all_goals
        rcases hcut with rfl | ⟨rfl, tc1⟩ | ⟨rfl, tc1, tc2⟩ | ⟨rfl, tc1, tc2⟩
        case inr.inr.inr =>
          go_wp2_with fail
          refine ⟨⟨k + 1, no, _, _, _, _, _, _, _, _, _, _, _, _, _, by omega, by omega, rfl, rfl, by go_num, by omega, by omega, D7.out, BN7.out, BM7.out, INV2.out, fun h => ?_, K7.out⟩, by simp [intOf]; omega⟩
          simp at tc1 tc2
          omega
        all_goals
          go_wp2_with (go_at_call 11; refine (cut_any D7.out hno (by omega)).mono ?_
                       rintro e w8 ⟨A8, c8, A9, c9, rfl, o8, d8, k8⟩
                       have BN8 := Lib.hid (BN7.out.keeps k8 (fun e => BN7.out.ne_ D7.out.box (by decide) e))
                       have BM8 := Lib.hid (BM7.out.keeps k8 (fun e => BM7.out.ne_ D7.out.box (by decide) e))
                       have K8 := Lib.hid (K7.out.trans k8 (fun b hb h => by omega))
                       have D8 := Lib.hid d8
                       have O8 := Lib.hid (o8.rebase 0 (fun _ _ => Nat.zero_le _))
                       clear o8 d8 k8)
          obtain ⟨w9, hw9⟩ : ∃ w9, w9 = w8.alloc (.cells #[.int .i64 no, .slice A8 4 c8] 38) := ⟨_, rfl⟩
          rw [← hw9]
          have k9 : Keeps (fun _ => False) w8 w9 := by rw [hw9]; exact (Keeps.refl _ w8).alloc _
          have X9 := Lib.hid (show Blk w9 w8.heap.size 38 #[.int .i64 no, .slice A8 4 c8] by rw [hw9]; exact Blk.new w8 38 _ _ rfl)
          have BN9 := Lib.hid (BN8.out.keeps k9 (fun h => h))
          have BM9 := Lib.hid (BM8.out.keeps k9 (fun h => h))
          have K9 := Lib.hid (K8.out.trans k9 (fun _ _ h => h))
          have D9 := Lib.hid (D8.out.keep k9)
          have O9 := Lib.hid (O8.out.keeps k9 (fun _ _ h => h))
          clear hw9 k9
          go_wp2_with fail
          go_loopw [8, 17, 18] (fun u8 u17 v wt => ∃ j : Nat, j ≤ 4 ∧ v = .int .i64 j ∧ u17 = .int .i64 (sumT (fun t : T6 => t.net) (T'.take j)) ∧ u8 = .int .i64 (cnt + sumT cd (T'.take j)) ∧ Blk wt gN 28 (arr (M'.take j ++ Nl.drop j)) ∧ Blk wt (gN + 1) 28 (arr M') ∧ Blk wt w8.heap.size 38 #[.int .i64 no, .slice A8 4 c8] ∧ Own total wt 0 41 (.slice A8 4 c8) T' ∧ S5 wt g (no + 1) A9 4 c9 no A7 4 c7 true (zeros 4) T' ∧ Keeps (fun _ => False) w wt) (fun _ _ v _ => 4 - (intOf v).toNat)
          case atStart => exact ⟨0, Nat.zero_le _, rfl, rfl, by rw [List.take_zero]; simp [sumT], by simpa using BN9.out, BM9.out, X9.out, O9.out, D9.out, K9.out⟩
          case round =>
            clear X9 BN9 BM9 K9 D9 O9 BN8 BM8 K8 D8 O8
            obtain ⟨j, hj, rfl, rfl, rfl, bn, bm, xx, oo, dd, kk⟩ := hrel
            have BNt := Lib.hid bn
            have BMt := Lib.hid bm
            have XT := Lib.hid xx
            have OT := Lib.hid oo
            have DT := Lib.hid dd
            have KT := Lib.hid kk
            have e1 := xx.cell 1
            simp at e1
            have hxl := xx.lt
            have hnl := bn.lt
            clear bn bm xx oo dd kk
            by_cases hj4 : j < 4
            · obtain ⟨⟨tm, cr, de, cs, ds, nt⟩, htj⟩ : ∃ t, T'[j]? = some t := ⟨_, List.getElem?_eq_getElem (by rw [INV2.out.len]; exact hj4)⟩
              obtain ⟨nx, hnx⟩ : ∃ x, Nl[j]? = some x := ⟨_, List.getElem?_eq_getElem (by rw [INV2.out.lenN]; exact hj4)⟩
              obtain ⟨mx, hmx⟩ : ∃ x, M'[j]? = some x := ⟨_, List.getElem?_eq_getElem (by rw [INV2.out.lenM]; exact hj4)⟩
              have hone := INV2.out.one j _ htj
              have hbal := INV2.out.bal j _ nx mx htj hnx hmx
              have hbm := INV2.out.bM j mx hmx
              obtain ⟨h1, h2, h3, h4, h5, h6, h7, h8, h9, h10⟩ := hone
              simp only at h1 h2 h3 h4 h5 h6 h7 h8 h9 h10 hbal
              subst h1 h2
              obtain ⟨b6, c6, hv6, hb6, hb6l, _⟩ := OT.out.form (by rw [INV2.out.len]; decide)
              injection hv6 with hA6 hn6 hc6
              subst hA6
              have r0 := OT.out.at_ htj (j := 0) rfl
              have r1 := OT.out.at_ htj (j := 1) rfl
              have r2 := OT.out.at_ htj (j := 2) rfl
              have r3 := OT.out.at_ htj (j := 3) rfl
              have r4 := OT.out.at_ htj (j := 4) rfl
              have r5 := OT.out.at_ htj (j := 5) rfl
              simp [total] at r0 r1 r2 r3 r4 r5
              have hnj : (M'.take j ++ Nl.drop j)[j]? = some nx := by
                have hlm : (M'.take j).length = j := by rw [List.length_take, INV2.out.lenM]; omega
                rw [List.getElem?_append_right (by omega), hlm, Nat.sub_self, List.getElem?_drop, Nat.add_zero]
                exact hnx
              have hset : (M'.take j ++ Nl.drop j).set j mx = M'.take (j + 1) ++ Nl.drop (j + 1) := by
                have hlm : (M'.take j).length = j := by rw [List.length_take, INV2.out.lenM]; omega
                have hd : Nl.drop j = nx :: Nl.drop (j + 1) := by
                  obtain ⟨hlt, hgx⟩ := List.getElem?_eq_some_iff.1 hnx
                  rw [← hgx]
                  exact List.drop_eq_getElem_cons hlt
                rw [List.set_append_right _ _ (by omega), hlm, Nat.sub_self, List.take_add_one, hmx, hd]
                simp
              have n0c := arr_cell BNt.out hnj
              have n0f := BNt.out.frozen j
              have hsn := sumT_succ (f := fun t : T6 => t.net) htj
              have hsc := sumT_succ (f := cd) htj
              have hsb := sumT_le (l := T'.take j) (f := fun t : T6 => t.net) (b := 300 * 1099511627776) (fun t ht => by
                obtain ⟨i, hi⟩ := List.mem_iff_getElem?.1 (List.mem_of_mem_take ht)
                have := (INV2.out.one i t hi).2
                unfold okN at this
                omega)
              have hcb := sumT_le (l := T'.take j) (f := cd) (b := 600) (fun t ht => by
                obtain ⟨i, hi⟩ := List.mem_iff_getElem?.1 (List.mem_of_mem_take ht)
                have := (INV2.out.one i t hi).2
                unfold okN at this
                unfold cd
                omega)
              have hlj : (T'.take j).length = j := by rw [List.length_take, INV2.out.len]; omega
              rw [hlj] at hsb hcb
              simp only at hsn
              have hsc' : sumT cd (T'.take (j + 1)) = sumT cd (T'.take j) + (cr + de) := hsc
              obtain ⟨S, hS⟩ : ∃ S, S = sumT (fun t : T6 => t.net) (T'.take j) := ⟨_, rfl⟩
              obtain ⟨C, hC⟩ : ∃ C, C = cnt + sumT cd (T'.take j) := ⟨_, rfl⟩
              rw [← hS] at hsb hsn
              rw [← hS, ← hC]
              have hCb : -3000 ≤ C ∧ C ≤ 3000 := by omega
              have hSb : -1319413953331200 ≤ S ∧ S ≤ 1319413953331200 := by omega
              have hCn : cnt + sumT cd (T'.take (j + 1)) = C + cr + de := by rw [hsc', hC]; omega
              have hmx' : nx + (cs - ds) = mx := hbal
              have hnxb : -1099511627776000 ≤ nx ∧ nx ≤ 1099511627776000 := by omega
              have HSET := Lib.hid hset
              have HSN := Lib.hid hsn
              have HCN := Lib.hid hCn
              have HMX := Lib.hid hmx'
              have hb64 : b6 < wr.heap.size := hb6l
              clear hn6 hc6 htj hnx hmx hset hsn hsc hsc' hCn hmx' hbal hS hC hsb hcb hnj hbm hlj
              go_upto_region 32 with fail
              obtain ⟨wt, hwt⟩ : ∃ wt, wt = wr.alloc (.cells #[.int .i64 j, .int .i64 cr, .int .i64 de, .int .i64 cs, .int .i64 ds, .int .i64 (cs - ds)] 41) := ⟨_, rfl⟩
              rw [← hwt]
              have kt : Keeps (fun _ => False) wr wt := by rw [hwt]; exact (Keeps.refl _ wr).alloc _
              have bt : Blk wt wr.heap.size 41 #[.int .i64 j, .int .i64 cr, .int .i64 de, .int .i64 cs, .int .i64 ds, .int .i64 (cs - ds)] := by rw [hwt]; exact Blk.new wr 41 _ _ rfl
              have y1 := bt.cell 1
              have y2 := bt.cell 2
              have y5 := bt.cell 5
              simp at y1 y2 y5
              have nbt := BNt.out.keeps kt (fun h => h)
              have n0c' := kt.cell (fun h => h) n0c
              have n0f' := nbt.frozen j
              have hbl := bt.lt
              have hne : wr.heap.size ≠ gN := by omega
              have BT := Lib.hid bt
              have NBT := Lib.hid nbt
              have KKT := Lib.hid kt
              clear hwt bt nbt kt r0 r1 r2 r3 r4 r5 n0c n0f e1
              go_still_tail 8, (by kernel_rfl)
              go_wp2_with fail
              refine ⟨⟨j + 1, by omega, by go_num, by rw [HSN.out], by rw [HCN.out], ?_, (BMt.out.keeps KKT.out (fun h => h)).drew.far (by show gN + 1 ≠ gN; omega) _, (XT.out.keeps KKT.out (fun h => h)).drew.far (XT.out.ne_ BNt.out (by decide)) _, ((OT.out.keeps KKT.out (fun _ _ h => h)).drew).setCell _ _ (fun q hq e => OT.out.blk_ne BNt.out (by decide) (by rw [hq, e])), (DT.out.keep (KKT.out.drew)).keepb (NBT.out.drew) ((Keeps.refl (fun b => b = gN) _).setCell _ _ (fun _ => rfl)), (KT.out.trans KKT.out.drew (fun _ _ h => h)).setCell _ _ (fun h => by simp at h; omega)⟩, by simp [intOf]; omega⟩
              rw [← HSET.out, ← arr_set, ← HMX.out]
              exact (NBT.out.drew).set j _
            · obtain rfl : j = 4 := by omega
              have s0 := INV2.out.sum
              rw [List.take_of_length_le (by rw [INV2.out.len]; exact Nat.le_refl _)]
              have s0' : sumT (fun t : T6 => t.net) T' = 0 := s0
              rw [s0']
              have BNf : Hid (Blk wr gN 28 (arr M')) := by
                have h := BNt.out
                rw [List.take_of_length_le (by rw [INV2.out.lenM]; exact Nat.le_refl _), List.drop_of_length_le (by rw [INV2.out.lenN]; exact Nat.le_refl _), List.append_nil] at h
                exact Lib.hid h
              have hfin := INV2.out.cut
              have HCUT := Lib.hid hfin
              have hfc := hfin.tl
              rw [show sumT cd (zeros 4) = 0 by decide +kernel, Int.add_zero] at hfc
              have HFC := Lib.hid hfc
              clear s0 s0' hfin hfc BNt
              go_wp2_with fail
              refine ⟨⟨k + 1, no + 1, _, _, _, _, _, _, _, _, _, _, _, _, _, by omega, by omega, rfl, rfl, by go_num, by omega, by omega, DT.out, BNf.out, BMt.out, HCUT.out, fun _ => ⟨rfl, HFC.out⟩, KT.out⟩, by simp [intOf]; omega⟩
    · have hkk : k = 0 ∨ k = n0 ∨ k = 100 := by omega
      obtain ⟨hNM, hcn⟩ := FIN.out hkk
      subst hNM hcn
      obtain ⟨a0, a1, a2, a3, hNl⟩ : ∃ a0 a1 a2 a3, Nl = [a0, a1, a2, a3] := by
        have h := INV.out.lenN
        match Nl, h with
        | [a0, a1, a2, a3], _ => exact ⟨a0, a1, a2, a3, rfl⟩
      subst hNl
      have u0 := arr_cell BN.out (i := 0) rfl
      have u1 := arr_cell BN.out (i := 1) rfl
      have u2 := arr_cell BN.out (i := 2) rfl
      have u3 := arr_cell BN.out (i := 3) rfl
      have v0 := arr_cell BM.out (i := 0) rfl
      have v1 := arr_cell BM.out (i := 1) rfl
      have v2 := arr_cell BM.out (i := 2) rfl
      have v3 := arr_cell BM.out (i := 3) rfl
      have heq := eq28 a0 a1 a2 a3
      rcases (show ¬ k < n0 ∨ (k < n0 ∧ ¬ k < 100) by omega) with h | ⟨h, h'⟩
      all_goals
        clear hkn hkk
        go_wp2_with fail
        go_ret
        exact ⟨rfl, KK.out.below (Nat.le_refl _) (fun _ _ h => h)⟩
end Go.Proofs.Ytbobmilbcbileaa
