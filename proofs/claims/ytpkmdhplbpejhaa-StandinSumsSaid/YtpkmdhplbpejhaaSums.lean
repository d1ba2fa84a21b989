/- StandinSums, walked. -/
import Derived.Test.YtpkmdhplbpejhaaShown
namespace Go.Proofs.Ytpkmdhplbpejhaa
open Go.RowKit Mem
def s4 : ByteArray := ⟨#[52]⟩
theorem isInt0 : isInt 0 := by unfold isInt; omega
theorem isStr4 : isStr s4 := by unfold isStr s4; decide
set_option maxHeartbeats 3200000 in
theorem sums_any (p : Int × Int) (Z : List Int) (A : Option Addr) (n c : Nat) (w : World) (hz : Reads (num .i64) w A n Z) (hwz : ∀ z ∈ Z, (Lit.int .i64 z).wf = true) :
    Calls Try.prog 4 #[.agg #[.int .i64 p.1, .int .i64 p.2], .slice A n c] w fun e w' => e = .returned (.bool true) ∧ Below w.heap.size w w' := by
  have HZ := Lib.hid hz
  have WZ := Lib.hid hwz
  clear hz hwz
  obtain ⟨ne, hne⟩ : ∃ ne, ne = newE [p] := ⟨_, rfl⟩
  have hne' : ne = 0 ∨ ne = 150 := by
    rw [hne]
    unfold newE
    rw [if_neg (by simp)]
    split
    · exact .inl rfl
    · exact .inr rfl
  have NE := Lib.hid hne
  clear hne
  rcases hne' with rfl | rfl
  · have hgood : goodP p := by
      have h := NE.out
      unfold newE at h
      rw [if_neg (by simp)] at h
      split at h
      · next h' => exact h' p (by simp)
      · cases h
    unfold goodP at hgood
    obtain ⟨⟨hp1, hp2⟩, hp3, hp4⟩ := hgood
    go_enter Try.func4, Try.ntmps4
    go_wp2_with (first
      | (go_at_call 6; refine (shown_any _).mono ?_
         rintro e w1 ⟨rfl, hk1⟩
         have hb1 : Blk w1 w.heap.size 35 #[.int .i64 p.1, .int .i64 p.2] := (Blk.new w 35 _ _ rfl).keeps hk1 (fun h => h)
         have kk1 := ((Keeps.refl (fun _ => False) w).alloc _).trans hk1 (fun _ _ h => h)
         have hc0 := hb1.cell 0
         have hc1 := hb1.cell 1
         simp at hc0 hc1
         have B1 := Lib.hid hb1
         have K1 := Lib.hid kk1
         clear hb1 hk1 kk1)
      | (go_at_call 7; refine (new_any [p] (some ⟨w1.heap.size, 0, none⟩) 1 1 (w1.alloc (.cells #[.int .i64 p.1, .int .i64 p.2] 35)) ((Blk.new w1 35 _ _ rfl).reads _ rfl rfl)).mono ?_
         rintro e w3 ⟨v, rfl, made, k0⟩
         rw [← NE.out]
         rcases made with ⟨h, _⟩ | ⟨_, g, m, c', A', rfl, d0, hg, hm, hA⟩
         · exact absurd NE.out.symm h
         have K0 := Lib.hid (((Keeps.refl (fun _ => False) w1).alloc _).trans k0 (fun _ _ h => h))
         have D0 := Lib.hid d0
         have HM : w1.heap.size < m := by simp at hm; omega
         have HG : w1.heap.size < g := by simp at hg; omega
         clear k0 d0 hm hA hg))
    have hz1 := K1.out.size
    have hz3 := K0.out.size
    have hb3 := B1.out.keeps K0.out (fun h => h)
    have B3 := Lib.hid hb3
    have hlt1 := B1.out.lt
    clear hb3 hc0 hc1
    go_loopw [9, 8] (fun i s wr => ∃ (k : Nat) (M : Int → ByteArray → Int), k ≤ n ∧ k ≤ 100 ∧ i = .int .i64 k ∧ s = .int .i64 (M 0 s4) ∧ M 0 s4 ≤ p.2 ∧ Desk wr g m k A' 1 c' [p] M ∧ Keeps (fun b => b = m) w3 wr) (fun i _ _ => n - (intOf i).toNat)
    case atStart => exact ⟨0, fun _ _ => 0, Nat.zero_le _, Nat.zero_le _, rfl, rfl, hp3, D0.out, Keeps.refl _ _⟩
    case round =>
      obtain ⟨k, M, hk, hk', rfl, rfl, hMp, d, kk⟩ := hrel
      have hM := d.had 0 s4
      have hb := B3.out.keeps kk (fun h => by omega)
      have hc0 := hb.cell 0
      have hc1 := hb.cell 1
      simp at hc0 hc1
      have D := Lib.hid d
      have KK := Lib.hid kk
      clear d kk hb
      by_cases hkn : k < n ∧ k < 100
      · obtain ⟨z, hz⟩ : ∃ z, Z[k]? = some z := ⟨_, List.getElem?_eq_getElem (by have := HZ.out.1; omega)⟩
        obtain ⟨ad, hA1, hc⟩ := HZ.out.at_ hz
        subst hA1
        have hzi : isInt z := int_wf (WZ.out z (List.mem_of_getElem? hz))
        have h0 := hc 0 _ rfl
        rw [show k * (num .i64).size + 0 = k from Nat.mul_one k] at h0
        have hbw : Below w.heap.size w wr := ((Below.refl _ _).trans ((K1.out.below (Nat.le_refl _) (fun _ _ h => h)))).trans ((K0.out.below hz1 (fun _ _ h => h)).trans (KK.out.below (by omega) (fun b hb h => by omega)))
        have hzw : wr.cell? (ad.add k) = some (.int .i64 z) := (hbw.cell (World.block_lt_of_cell? _ _ h0)).trans h0
        clear hz hc h0
        have hzi' := hzi
        unfold isInt at hzi'
        obtain ⟨er, her⟩ : ∃ er, er = askE [p] M 0 s4 z := ⟨_, rfl⟩
        have he : askE [p] M 0 s4 z = if ¬ (0 ≤ z ∧ z ≤ 999999999999) then 100 else if p.1 < z ∨ p.2 < M 0 s4 + z then 150 else 0 := by
          unfold askE
          rw [if_neg (by simp)]
          rfl
        have ER := Lib.hid her
        obtain ⟨hk1, hk2⟩ := hkn
        by_cases hmay : 0 ≤ z ∧ z ≤ p.1 ∧ z ≤ p.2 - M 0 s4
        · have her0 : er = 0 := by
            rw [her, he, if_neg (by omega), if_neg (by omega)]
          have hM' : askM [p] M 0 s4 z = upd M 0 s4 (M 0 s4 + z) := askM_yes (by rw [← her]; exact her0)
          have hMn : upd M 0 s4 (M 0 s4 + z) 0 s4 = M 0 s4 + z := by unfold upd; simp
          have HM' := Lib.hid hM'
          have HMN := Lib.hid hMn
          obtain ⟨M', hMM⟩ : ∃ M', M' = askM [p] M 0 s4 z := ⟨_, rfl⟩
          have hM0 : M' 0 s4 = M 0 s4 + z := by rw [hMM, hM']; exact hMn
          have MM := Lib.hid hMM
          subst her0
          obtain ⟨h1, h2, h3⟩ := hmay
          clear her he hM' hMn hMM
          obtain ⟨x, hx⟩ : ∃ x, x = M 0 s4 := ⟨_, rfl⟩
          have HX := Lib.hid hx
          rw [← hx] at hM hMp h3 hM0 ⊢
          have HM0 := Lib.hid hM0
          clear hx hM0
          go_wp2_with (first
            | (go_at_call 11; refine (ask_any D.out 0 s4 z isInt0 isStr4 hzi (by omega)).mono ?_
               rintro e w5 ⟨rfl, d5, k5⟩
               rw [← ER.out]
               rw [← MM.out] at d5
               have hb5 := (B3.out.keeps KK.out (fun h => by omega)).keeps k5 (fun h => by omega)
               have hd0 := hb5.cell 0
               have hd1 := hb5.cell 1
               simp at hd0 hd1
               have D5 := Lib.hid d5
               have K5 := Lib.hid k5
               clear d5 k5 hb5)
            | (go_at_call 10; refine (had_any D5.out 0 s4 isInt0 isStr4).mono ?_
               rintro e w6 ⟨rfl, hw6⟩
               rw [HM0.out]
               subst hw6))
          refine ⟨⟨k + 1, M', by omega, by omega, by go_num, ?_, by rw [HM0.out]; omega, D5.out, KK.out.trans K5.out (fun _ _ h => h)⟩, by simp [intOf]; omega⟩
          rw [HM0.out]
        · have her0 : er = 100 ∨ er = 150 := by
            rw [her, he]
            by_cases h1 : ¬ (0 ≤ z ∧ z ≤ 999999999999)
            · rw [if_pos h1]; exact .inl rfl
            · rw [if_neg h1, if_pos (by omega)]; exact .inr rfl
          have hM' : askM [p] M 0 s4 z = M := askM_no (by rw [← her]; omega)
          have HM' := Lib.hid hM'
          have t1 : (er == 0) = false := by simp; omega
          clear her he hM'
          obtain ⟨x, hx⟩ : ∃ x, x = M 0 s4 := ⟨_, rfl⟩
          have HX := Lib.hid hx
          rw [← hx] at hM hMp hmay ⊢
          clear hx
          have HR := Lib.hid her0
          clear her0
          rcases (show z < 0 ∨ (0 ≤ z ∧ ¬ z ≤ p.1) ∨ (0 ≤ z ∧ z ≤ p.1 ∧ ¬ z ≤ p.2 - x) by omega) with h1 | ⟨h1, h2⟩ | ⟨h1, h2, h3⟩
          all_goals
            clear hmay
            go_wp2_with (first
              | (go_at_call 11; refine (ask_any D.out 0 s4 z isInt0 isStr4 hzi (by omega)).mono ?_
                 rintro e w5 ⟨rfl, d5, k5⟩
                 rw [← ER.out]
                 rw [HM'.out] at d5
                 have hb5 := (B3.out.keeps KK.out (fun h => by omega)).keeps k5 (fun h => by omega)
                 have hd0 := hb5.cell 0
                 have hd1 := hb5.cell 1
                 simp at hd0 hd1
                 have D5 := Lib.hid d5
                 have K5 := Lib.hid k5
                 clear d5 k5 hb5)
              | (go_at_call 10; refine (had_any D5.out 0 s4 isInt0 isStr4).mono ?_
                 rintro e w6 ⟨rfl, hw6⟩
                 rw [← HX.out]
                 subst hw6))
            refine ⟨⟨k + 1, M, by omega, by omega, by go_num, by rw [HX.out], by rw [← HX.out]; omega, D5.out, KK.out.trans K5.out (fun _ _ h => h)⟩, by simp [intOf]; omega⟩
      · have hbw : Below w.heap.size w wr := ((Below.refl _ _).trans ((K1.out.below (Nat.le_refl _) (fun _ _ h => h)))).trans ((K0.out.below hz1 (fun _ _ h => h)).trans (KK.out.below (by omega) (fun b hb h => by omega)))
        have BW := Lib.hid hbw
        clear hbw
        rcases (show ¬ k < n ∨ (k < n ∧ ¬ k < 100) by omega) with h | ⟨h, h'⟩
        all_goals
          clear hkn
          go_wp2_with fail
          go_ret
          exact ⟨rfl, BW.out⟩
  · go_enter Try.func4, Try.ntmps4
    go_wp2_with (first
      | (go_at_call 6; refine (shown_any _).mono ?_
         rintro e w1 ⟨rfl, hk1⟩
         have hb1 : Blk w1 w.heap.size 35 #[.int .i64 p.1, .int .i64 p.2] := (Blk.new w 35 _ _ rfl).keeps hk1 (fun h => h)
         have kk1 := ((Keeps.refl (fun _ => False) w).alloc _).trans hk1 (fun _ _ h => h)
         have hc0 := hb1.cell 0
         have hc1 := hb1.cell 1
         simp at hc0 hc1
         have K1 := Lib.hid kk1
         clear hb1 hk1 kk1)
      | (go_at_call 7; refine (new_any [p] (some ⟨w1.heap.size, 0, none⟩) 1 1 (w1.alloc (.cells #[.int .i64 p.1, .int .i64 p.2] 35)) ((Blk.new w1 35 _ _ rfl).reads _ rfl rfl)).mono ?_
         rintro e w3 ⟨v, rfl, made, k0⟩
         rw [← NE.out]
         have hv : v = .pointer none := by
           rcases made with ⟨_, h⟩ | ⟨h, _⟩
           · exact h
           · exact absurd (NE.out.trans h) (by decide)
         subst hv
         have K0 := Lib.hid (((Keeps.refl (fun _ => False) w1).alloc _).trans k0 (fun _ _ h => h))
         clear k0))
    go_ret
    exact ⟨rfl, (K1.out.trans K0.out (fun _ _ h => h)).below (Nat.le_refl _) (fun _ _ h => h)⟩
end Go.Proofs.Ytpkmdhplbpejhaa
