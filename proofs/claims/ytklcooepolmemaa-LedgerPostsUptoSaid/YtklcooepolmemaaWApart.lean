/- LedgerApart, walked. -/
import Derived.Test.YtklcooepolmemaaW9
namespace Go.Proofs.Ytklcooepolmemaa
open Go.RowKit Mem
def touchB (a : Nat) (es : List (Int × Int)) : Bool := es.any (fun e => e.1 == (a : Int))
theorem touchB_nil (a : Nat) : touchB a [] = false := rfl
theorem touchB_succ {es : List (Int × Int)} {k : Nat} {e : Int × Int} (h : es[k]? = some e) (a : Nat) : touchB a (es.take (k + 1)) = (touchB a (es.take k) || (e.1 == (a : Int))) := by
  unfold touchB
  rw [List.take_add_one, h, List.any_append]
  simp
theorem ofA_far {a : Nat} {es : List (Int × Int)} (h : touchB a es = false) : ofA a es = 0 := by
  induction es with
  | nil => rfl
  | cons e es ih =>
    unfold touchB at h
    simp only [List.any_cons, Bool.or_eq_false_iff] at h
    unfold ofA
    rw [if_neg (by have := h.1; simpa using this), ih h.2]
    rfl
theorem postB_length (bs : List Int) (es : List (Int × Int)) : (postB bs es).length = bs.length := by
  unfold postB
  split
  · exact nb_length _ _
  · rfl
theorem apart_key {bs : List Int} {es : List (Int × Int)} {a : Nat} {m n : Int} (hm : (postB bs es)[a]? = some m) (hn : bs[a]? = some n) (hne : m ≠ n) : touchB a es = true ∧ postE bs es = 0 := by
  by_cases h : postE bs es = 0
  · refine ⟨?_, h⟩
    rw [postB_ok h, nb_get, hn] at hm
    cases ht : touchB a es with
    | true => rfl
    | false =>
      rw [ofA_far ht] at hm
      simp at hm
      exact absurd hm.symm hne
  · rw [postB_no h, hn] at hm
    injection hm with hm
    exact absurd hm.symm hne
set_option maxRecDepth 100000 in
set_option maxHeartbeats 6400000 in
theorem apart_any (fs : List (Int × Int)) (A0 : Option Addr) (n0 c0 : Nat) (es : List (Int × Int)) (A1 : Option Addr) (n1 c1 : Nat) (w : World) (h0 : Reads entry w A0 n0 fs) (hok0 : ∀ e ∈ fs, okE e) (hn0 : n0 ≤ 9223372036854775807) (h1 : Reads entry w A1 n1 es) (hok1 : ∀ e ∈ es, okE e) (hn1 : n1 ≤ 9223372036854775807) :
    Calls Try.prog 4 #[.slice A0 n0 c0, .slice A1 n1 c1] w fun e w' => e = .returned (.bool true) ∧ Below w.heap.size w w' := by
  have HL := Lib.hid h1.1
  have R0 := Lib.hid h0
  have R1 := Lib.hid h1
  have OK0 := Lib.hid hok0
  have OK1 := Lib.hid hok1
  clear h0 hok0 h1 hok1
  obtain ⟨bs1, hbs1⟩ : ∃ bs1, bs1 = postB (List.replicate 5 0) fs := ⟨_, rfl⟩
  obtain ⟨bs2, hbs2⟩ : ∃ bs2, bs2 = postB bs1 es := ⟨_, rfl⟩
  obtain ⟨E2, hE2⟩ : ∃ E2, E2 = postE bs1 es := ⟨_, rfl⟩
  have hl1 : bs1.length = 5 := by rw [hbs1, postB_length]; rfl
  have hl2 : bs2.length = 5 := by rw [hbs2, postB_length, hl1]
  have B1 := Lib.hid hbs1
  have B2 := Lib.hid hbs2
  have E2H := Lib.hid hE2
  have L1 := Lib.hid hl1
  have L2 := Lib.hid hl2
  clear hbs1 hbs2 hE2 hl1 hl2
  have m0 : True := trivial
  go_enter Try.func4, Try.ntmps4
  go_wp2_with (first
    | (go_at_call 8; refine (shown_any w).mono ?_
       rintro e w1 ⟨rfl, k1⟩
       have K1 := Lib.hid k1
       clear k1)
    | (go_at_call 9; refine (new_any 5 w1 (by omega) (by omega)).mono ?_
       rintro e w2 ⟨g, A2, c2, rfl, d2, hg, k2⟩
       have D2 := Lib.hid d2
       have hz := K1.out.size
       have K2 := Lib.hid (K1.out.trans k2 (fun _ _ h => h))
       clear d2 k2)
    | (go_at_call 10; clear m0; refine (post_any D2.out fs A0 n0 c0 (R0.out.keeps K2.out (fun _ _ _ h => h)) OK0.out hn0).mono ?_
       rintro e w3 ⟨rfl, ⟨A3, c3, d3⟩, k3⟩
       rw [← B1.out] at d3
       have D3 := Lib.hid d3
       have hgl := d3.box.lt
       have K3 := Lib.hid ((K2.out.trans k3 (fun b hb h => by omega)))
       clear d3 k3)
    | (go_at_call 12; refine (clone_any D3.out).mono ?_
       rintro e w4 ⟨g', A4, c4, rfl, d4, hg', k4⟩
       have D4 := Lib.hid (D3.out.keep k4)
       have Y4 := Lib.hid d4
       have hne : g' ≠ g := by omega
       have K4 := Lib.hid (K3.out.trans k4 (fun _ _ h => h))
       clear d4 k4)
    | (go_at_call 10; refine (post_any D4.out es A1 n1 c1 (R1.out.keeps K4.out (fun _ _ _ h => h)) OK1.out hn1).mono ?_
       rintro e w5 ⟨rfl, ⟨A5, c5, d5⟩, k5⟩
       rw [← E2H.out]
       rw [← B2.out] at d5
       have D5 := Lib.hid d5
       have Y5 := Lib.hid (Y4.out.keepg D4.out.box hne k5)
       have K5 := Lib.hid (K4.out.trans k5 (fun b hb h => by omega))
       have R5 := Lib.hid (R1.out.keeps K5.out (fun _ _ _ h => h))
       clear d5 k5))
  go_loop [10] (fun v => ∃ a : Nat, a ≤ 5 ∧ v = .int .i64 a) (fun v => 5 - (intOf v).toNat)
  case atStart => exact ⟨0, by omega, rfl⟩
  case round =>
    obtain ⟨a, ha, rfl⟩ := hrel
    by_cases ha5 : a < 5
    · obtain ⟨m, hm⟩ : ∃ m, bs2[a]? = some m := ⟨_, List.getElem?_eq_getElem (by rw [L2.out]; exact ha5)⟩
      obtain ⟨n, hn⟩ : ∃ n, bs1[a]? = some n := ⟨_, List.getElem?_eq_getElem (by rw [L1.out]; exact ha5)⟩
      have HM := Lib.hid hm
      have HN := Lib.hid hn
      clear hm hn
      go_wp2_with fail
      go_loop [11, 12] (fun u v => ∃ k : Nat, k ≤ n1 ∧ v = .int .i64 k ∧ u = .bool (touchB a (es.take k))) (fun _ v => n1 - (intOf v).toNat)
      case atStart => exact ⟨0, Nat.zero_le _, rfl, rfl⟩
      case round =>
        obtain ⟨k, hk, rfl, rfl⟩ := hrel
        by_cases hkn : k < n1
        · obtain ⟨⟨x, y⟩, he⟩ : ∃ e, es[k]? = some e := ⟨_, List.getElem?_eq_getElem (by rw [HL.out]; exact hkn)⟩
          obtain ⟨ad, hA, hc⟩ := R5.out.at_ he
          subst hA
          have p0 := hc 0 _ rfl
          simp [entry] at p0
          obtain ⟨b, hb⟩ : ∃ b, touchB a (es.take k) = b := ⟨_, rfl⟩
          have hs := touchB_succ he a
          rw [hb] at hs
          have HS := Lib.hid hs
          rw [hb]
          clear hc he hs hb
          cases b with
          | true =>
            go_wp2_with fail
            go_round
            case rel => exact ⟨k + 1, by omega, by go_num, by rw [HS.out]; rfl⟩
            case measure => simp [intOf]; omega
          | false =>
            go_wp2_with fail
            go_round
            case rel => exact ⟨k + 1, by omega, by go_num, by rw [HS.out]; rfl⟩
            case measure => simp [intOf]; omega
        · rw [List.take_of_length_le (by rw [HL.out]; omega)]
          have mk : True := trivial
          by_cases hmn : m = n
          · subst hmn
            go_wp2_with (first
              | (go_at_call 11; clear mk; refine (balance_in D5.out a m HM.out).mono ?_
                 rintro e w6 ⟨rfl, hw6⟩
                 rw [hw6]
                 clear hw6)
              | (go_at_call 11; refine (balance_in Y5.out a m HN.out).mono ?_
                 rintro e w6 ⟨rfl, hw6⟩
                 rw [hw6]
                 clear hw6))
            all_goals exact ⟨⟨a + 1, by omega, by go_num⟩, by simp [intOf]; omega⟩
          · have hkey := apart_key (bs := bs1) (es := es) (by rw [← B2.out]; exact HM.out) HN.out hmn
            have hE0 : E2 = 0 := by rw [E2H.out]; exact hkey.2
            have tmn : (m == n) = false := by simpa using hmn
            rw [hkey.1]
            subst hE0
            clear hkey hmn
            go_wp2_with (first
              | (go_at_call 11; clear mk; refine (balance_in D5.out a m HM.out).mono ?_
                 rintro e w6 ⟨rfl, hw6⟩
                 rw [hw6]
                 clear hw6)
              | (go_at_call 11; refine (balance_in Y5.out a n HN.out).mono ?_
                 rintro e w6 ⟨rfl, hw6⟩
                 rw [hw6]
                 clear hw6))
            all_goals exact ⟨⟨a + 1, by omega, by go_num⟩, by simp [intOf]; omega⟩
    · go_wp2_with fail
      go_ret
      exact ⟨rfl, K5.out.below (Nat.le_refl _) (fun _ _ h => h)⟩
end Go.Proofs.Ytklcooepolmemaa
