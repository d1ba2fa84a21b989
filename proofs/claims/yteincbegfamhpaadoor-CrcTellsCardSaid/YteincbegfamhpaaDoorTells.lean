/- The law CrcTells, walked: up to 32 bits turned side by side turn the sum. -/
import Derived.Test.YteincbegfamhpaaDoorMem
import Derived.StillTailTactics
namespace Go.Proofs.YteincbegfamhpaaDoor
open Go.RowKit
theorem vals_some (X : List Nat) {j : Nat} (h : j < X.length) : (vals X)[j]? = some (.int .u8 (at_ X j)) := by
  unfold vals at_
  rw [List.getElem?_map, List.getElem?_eq_getElem h, List.getD_eq_getElem?_getD, List.getElem?_eq_getElem h]
  rfl
theorem below_drew {B : Nat} {w W : World} (h : Below B w W) : Below B w W.drew := ⟨h.os, h.tape, h.output, h.size, h.block⟩
theorem vals_set (X : List Nat) (j x : Nat) : (vals X).set j (.int .u8 x) = vals (X.set j x) := by
  unfold vals
  rw [List.map_set]
theorem flip_int {X : List Nat} (hX : ∀ c ∈ X, c < 256) {j r : Nat} : bits .xor .u8 (at_ X j) (2 ^ (r % 8) % 256) = ((X.getD j 0 ^^^ 2 ^ (r % 8) : Nat) : Int) := by
  have h2 : 2 ^ (r % 8) < 2 ^ 8 := Nat.pow_lt_pow_right (by decide) (Nat.mod_lt _ (by decide))
  have e : (2 : Int) ^ (r % 8) % 256 = ((2 ^ (r % 8) : Nat) : Int) := by
    have : (2 : Int) ^ (r % 8) = ((2 ^ (r % 8) : Nat) : Int) := by rw [Int.natCast_pow]; rfl
    rw [this]
    generalize 2 ^ (r % 8) = y at h2
    omega
  rw [e]
  unfold at_
  exact u8_xor_nat _ _ (getD_lt hX j) (by simpa using h2)
theorem tells_of (L : List Nat) (hL : ∀ c ∈ L, c < 256) (p b : Nat) (hp : p < 8 * L.length) : (more 0 L = more 0 (Math.flip L p b 32)) ↔ Math.fl L.length p b 32 = 0 := by
  unfold more
  rw [← Math.flip_reg (turn 0) L hL p b hp]
  constructor
  · intro h
    have := congrArg turn h
    rw [turn_turn, turn_turn] at this
    exact this.symm
  · intro h
    rw [h]
theorem tells_ne (L : List Nat) (hL : ∀ c ∈ L, c < 256) (p b : Nat) (hp : p < 8 * L.length) : (((more 0 L : Nat) : Int) != ((more 0 (Math.flip L p b 32) : Nat) : Int)) = decide (Math.fl L.length p b 32 ≠ 0) := by
  have h := tells_of L hL p b hp
  by_cases h0 : Math.fl L.length p b 32 = 0
  · rw [h.2 h0]
    simp [h0]
  · have : more 0 L ≠ more 0 (Math.flip L p b 32) := fun e => h0 (h.1 e)
    rw [decide_eq_true h0, bne_iff_ne]
    omega
set_option maxRecDepth 100000 in
set_option maxHeartbeats 800000 in
theorem tells_any (A : Option Addr) (n c : Nat) (L : List Nat) (z : Int) (hz1 : -9223372036854775808 ≤ z) (hz2 : z ≤ 9223372036854775807) (b : Nat) (hb32 : b < 4294967296) (w : World) (ht : Tab w) (h0 : 0 < w.heap.size) (hr : Bytes w A n L) (hn : n ≤ 140737488351232) :
    Calls Tryd.prog 5 #[.slice A n c, .int .i64 z, .int .u32 b] w fun e w' => e = .returned (.bool true) ∧ Below w.heap.size w w' := by
  have HT := Lib.hid ht
  have HR := Lib.hid hr
  clear ht hr
  by_cases hn0 : n = 0
  · have t1 : ((n : Int) == 0) = true := by simp [hn0]
    have HN := Lib.hid hn0
    clear hn0
    go_enter Tryd.func5, Tryd.ntmps5
    go_wp2_with fail
    refine (shown_any _ HT.out h0).mono ?_
    rintro e w1 ⟨rfl, hb⟩
    have HB := Lib.hid hb
    clear hb
    go_wp2_with fail
    go_ret
    exact ⟨rfl, HB.out⟩
  by_cases hb0 : b = 0
  · have t1 : ((n : Int) == 0) = false := by simp [hn0]
    have t2 : ((b : Int) == 0) = true := by simp [hb0]
    have HN := Lib.hid hn0
    clear hn0
    have HN2 := Lib.hid hb0
    clear hb0
    go_enter Tryd.func5, Tryd.ntmps5
    go_wp2_with fail
    refine (shown_any _ HT.out h0).mono ?_
    rintro e w1 ⟨rfl, hb⟩
    have HB := Lib.hid hb
    clear hb
    go_wp2_with fail
    go_ret
    exact ⟨rfl, HB.out⟩
  have t1 : ((n : Int) == 0) = false := by simp [hn0]
  have t2 : ((b : Int) == 0) = false := by simp [hb0]
  have hnp : 0 < n := by omega
  clear hn0 hb0
  have hpp : (z < 0 → ∃ p : Nat, -(z + 1).tmod (8 * (n : Int)) = p ∧ p < 8 * n) ∧ (0 ≤ z → ∃ p : Nat, z % (8 * (n : Int)) = p ∧ p < 8 * n) := by
    have key : ∀ q : Int, 0 ≤ q → ∃ p : Nat, q % (8 * (n : Int)) = p ∧ p < 8 * n := fun q hq => by
      have h1 := Int.emod_nonneg q (show (8 * (n : Int)) ≠ 0 by omega)
      have h2 := Int.emod_lt_of_pos q (show (0 : Int) < 8 * (n : Int) by omega)
      exact ⟨(q % (8 * (n : Int))).toNat, by omega, by omega⟩
    refine ⟨fun h => ?_, fun h => key z h⟩
    obtain ⟨p, hp, hl⟩ := key (-(z + 1)) (by omega)
    exact ⟨p, by rw [← Int.neg_tmod, Int.tmod_eq_emod_of_nonneg (by omega)]; exact hp, hl⟩
  have HPP := Lib.hid hpp
  clear hpp
  rcases (show z < 0 ∨ 0 ≤ z by omega) with hz | hz
  all_goals
    have hpp := by first | exact HPP.out.1 hz | exact HPP.out.2 hz
    have HP := Lib.hid hpp
    clear hpp
    go_enter Tryd.func5, Tryd.ntmps5
    go_wp2_with fail
    refine (shown_any _ HT.out h0).mono ?_
    rintro e w1 ⟨rfl, hb⟩
    have HB := Lib.hid hb
    clear hb
    have HA0 := Lib.hid ((HR.out.below HB.out).below ((Below.refl _ _).alloc (Nat.le_refl _) (.cells #[] 5)))
    have HB2 := Lib.hid ((Below.refl w1.heap.size w1).alloc (Nat.le_refl _) (.cells #[] 5))
    go_wp2_with (at_builtin; refine wp_append (by rfl) (.tmp 35) (.tmp 36) (by rfl) w1.heap.size (.slice (some ⟨w1.heap.size, 0, none⟩) 0 0) [] L A n c rfl rfl (own_empty _ _ _ rfl (Nat.le_refl _)) HA0.out (by simp; omega) (by simp) ?_
                 intro v2 w2 own2 gr2 at2
                 have OWN2 := Lib.hid own2
                 have GR2 := Lib.hid gr2
                 clear own2 gr2 at2)
    obtain ⟨p, hp, hpl⟩ := HP.out
    rw [hp]
    clear hp
    have hlen := HR.out.1
    have hX0 := HR.out.2.2.1
    have hz1 := HB.out.size
    have hz2 := GR2.out.size
    have B2 := Lib.hid (HB2.out.grown GR2.out (by simp) (fun k hk => by simp [Value.ownBlock] at hk; omega))
    obtain ⟨g, cap, hv2, hgb, _⟩ := World.ownsRow.form OWN2.out (by simp; omega)
    rw [show (([] : List Nat) ++ L).length = n by simpa using hlen] at hv2
    rw [hv2]
    have own0 : w2.ownsRow w1.heap.size 5 1 (.slice (some ⟨g, 0, none⟩) n cap) n (vals L) := by
      have h := OWN2.out
      unfold Own at h
      rw [hv2, List.nil_append, hlen] at h
      exact h
    have O0 := Lib.hid own0
    have HV := Lib.hid hv2
    have HX0 := Lib.hid hX0
    have HLEN := Lib.hid hlen
    clear hv2 own0 hX0 hlen
    go_loopw [9, 10] (fun t i wr => ∃ k : Nat, k ≤ 32 ∧ i = .int .i64 k ∧ t = .bool (Math.turned n p b k) ∧ wr.ownsRow w1.heap.size 5 1 (.slice (some ⟨g, 0, none⟩) n cap) n (vals (Math.flip L p b k)) ∧ Below w1.heap.size w1 wr) (fun _ i _ => 32 - (intOf i).toNat)
    case atStart => exact ⟨0, by omega, rfl, rfl, O0.out, B2.out⟩
    case round =>
      obtain ⟨k, hk, rfl, rfl, hrow, hbel⟩ := hrel
      have HW := Lib.hid hrow
      have HE := Lib.hid hbel
      clear hrow hbel
      by_cases hk32 : k < 32
      · have q1 : (0 : Int) ≤ (k : Int) := by omega
        have q2 : (k : Int) ≤ 32 := by omega
        have hbt : (((b : Int) / 2 ^ k).tmod 2 == 1) = decide (b / 2 ^ k % 2 = 1) := by
          have e : ((b : Int) / 2 ^ k) = ((b / 2 ^ k : Nat) : Int) := by rw [Int.natCast_ediv, Int.natCast_pow]; rfl
          rw [e, Int.tmod_eq_emod_of_nonneg (Int.natCast_nonneg _)]
          by_cases h : b / 2 ^ k % 2 = 1
          · rw [decide_eq_true h, beq_iff_eq]; omega
          · rw [decide_eq_false h, beq_eq_false_iff_ne]; omega
        by_cases hin : p + k < 8 * n
        · by_cases hbit : b / 2 ^ k % 2 = 1
          · have hturn : Math.turns L.length p b k = true := by unfold Math.turns; rw [HLEN.out]; simp [hin, hbit]
            have HTU := Lib.hid hturn
            rw [decide_eq_true hbit] at hbt
            clear hbit hturn
            have hkn : (p + k) / 8 < n := by omega
            have f1 := World.ownsRow.cellAt HW.out ((p + k) / 8) (by omega)
            have f2 := World.ownsRow.frozenAt HW.out ((p + k) / 8)
            rw [vals_some (Math.flip L p b k) (by rw [Math.flip_length, HLEN.out]; exact hkn)] at f1
            have r2 : ((p : Int) + (k : Int)) / 8 < (n : Int) := by omega
            have r3 : (0 : Int) ≤ ((p : Int) + (k : Int)) / 8 := by omega
            have r4 : (0 : Int) ≤ ((p : Int) + (k : Int)) % 8 := by omega
            have r5 : ((p : Int) + (k : Int)) % 8 ≤ 8 := by omega
            go_wp2_with fail
            have E1 : IntKind.i64.wrap (((p : Int) + (k : Int)).tdiv 8) = ((p : Int) + (k : Int)) / 8 := by
              rw [Int.tdiv_eq_ediv_of_nonneg (by omega)]
              exact IntWalk.i64_in (((p : Int) + (k : Int)) / 8) (by omega)
            have E2 : ((p : Int) + (k : Int)).tmod 8 = ((p : Int) + (k : Int)) % 8 := by
              rw [Int.tmod_eq_emod_of_nonneg (by omega)]
            have E3 : (((p : Int) + (k : Int)) / 8).toNat = (p + k) / 8 := by omega
            have E4 : (((p : Int) + (k : Int)) % 8).toNat = (p + k) % 8 := by omega
            go_still_tail 13, (by kernel_rfl)
            go_wp2_with fail
            refine ⟨⟨k + 1, by omega, by go_num, ?_, ?_, below_drew (HE.out.setCell hgb _)⟩, by simp [intOf]; omega⟩
            · rw [Math.turned, if_pos (by rw [← HLEN.out]; exact HTU.out)]
            · have h := (World.ownsRow.stored HW.out ((p + k) / 8) (.int .u8 (bits .xor .u8 (at_ (Math.flip L p b k) ((p + k) / 8)) (2 ^ ((p + k) % 8) % 256)))).1
              rw [Math.flip, if_pos HTU.out, ← vals_set]
              rw [flip_int (Math.flip_lt L HX0.out p b k)] at h ⊢
              exact h
          · have hturn : ¬ Math.turns L.length p b k = true := by unfold Math.turns; simp [hbit]
            have HTU := Lib.hid hturn
            rw [decide_eq_false hbit] at hbt
            clear hbit hturn
            go_wp2_with fail
            refine ⟨⟨k + 1, by omega, by go_num, ?_, ?_, HE.out⟩, by simp [intOf]; omega⟩
            · rw [Math.turned, if_neg (by rw [← HLEN.out]; exact HTU.out)]
            · rw [Math.flip, if_neg HTU.out]; exact HW.out
        · have hturn : ¬ Math.turns L.length p b k = true := by unfold Math.turns; rw [HLEN.out]; simp [hin]
          have HTU := Lib.hid hturn
          clear hturn hbt
          go_wp2_with fail
          refine ⟨⟨k + 1, by omega, by go_num, ?_, ?_, HE.out⟩, by simp [intOf]; omega⟩
          · rw [Math.turned, if_neg (by rw [← HLEN.out]; exact HTU.out)]
          · rw [Math.flip, if_neg HTU.out]; exact HW.out
      · obtain rfl : k = 32 := by omega
        have HTr := Lib.hid ((HT.out.below h0 HB.out).below (by omega) HE.out)
        have HA := Lib.hid ((HR.out.below HB.out).below HE.out)
        have hX : Bytes wr (some ⟨g, 0, none⟩) n (Math.flip L p b 32) := by
          refine ⟨by rw [Math.flip_length, HLEN.out], by omega, Math.flip_lt L HX0.out p b 32, fun _ => ⟨_, rfl, fun j hj => ?_⟩⟩
          exact World.ownsRow.cells HW.out (g := g) rfl j _ (vals_some _ (by rw [Math.flip_length, HLEN.out]; exact hj))
        have HX := Lib.hid hX
        have hne : (((more 0 L : Nat) : Int) != ((more 0 (Math.flip L p b 32) : Nat) : Int)) = Math.turned n p b 32 := by
          rw [Math.turned_fl, ← HLEN.out]
          exact tells_ne L HX0.out p b (by rw [HLEN.out]; exact hpl)
        clear hX
        go_wp2_with fail
        refine (sum_any _ _ _ L _ HTr.out HA.out).mono ?_
        rintro e w4 ⟨rfl, rfl⟩
        go_wp2_with fail
        refine (sum_any _ _ _ _ _ HTr.out HX.out).mono ?_
        rintro e w4 ⟨rfl, rfl⟩
        go_wp2_with fail
        go_ret
        exact ⟨rfl, below_then HB.out hz1 HE.out⟩
end Go.Proofs.YteincbegfamhpaaDoor
