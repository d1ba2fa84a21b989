/- SettleDays, walked. -/
import Derived.Test.YtbobmilbcbileaaJoins
namespace Go.Proofs.Ytbobmilbcbileaa
open Go.RowKit Mem
/-- A row of entries, and where it lies. -/
structure ER where
  A : Option Addr
  n : Nat
  c : Nat
  es : List (Int × Int)
def rowE : Enc ER where
  enc := fun h => [.slice h.A h.n h.c]
  size := 1
  len := fun _ => rfl
  one := fun x u h => by simp at h; subst h; rfl
  pos := by decide
def okR (w : World) (r : ER) : Prop := Reads entry w r.A r.n r.es ∧ (∀ e ∈ r.es, okE e) ∧ r.n ≤ 9223372036854775807
theorem sevenE : countE (zeros 3) [(0, 7)] = 0 := by decide +kernel
set_option maxRecDepth 10000 in
set_option maxHeartbeats 3200000 in
theorem days_any (rs : List ER) (A0 : Option Addr) (n0 c0 : Nat) (w : World) (h0 : Reads rowE w A0 n0 rs) (ok0 : ∀ r ∈ rs, okR w r) :
    Calls Try.prog 5 #[.slice A0 n0 c0] w fun e w' => e = .returned (.bool true) ∧ Below w.heap.size w w' := by
  have la := h0.1
  have R0 := Lib.hid h0
  have OK0 := Lib.hid ok0
  have LA := Lib.hid la
  clear h0 ok0 la
  go_enter Try.func5, Try.ntmps5
  go_wp2_with (first
    | (go_at_call 7; refine (shown_any w).mono ?_
       rintro e w1 ⟨rfl, k1⟩
       have K1 := Lib.hid k1
       clear k1)
    | (go_at_call 8; refine (new_any 3 w1 (by omega) (by omega)).mono ?_
       rintro e w2 ⟨g, A2, c2, rfl, d2, hg, k2⟩
       have D2 := Lib.hid d2
       have K2 := Lib.hid (K1.out.trans k2 (fun _ _ h => h))
       have hz1 := K1.out.size
       have hwg : w.heap.size ≤ g := by omega
       clear d2 k2))
  go_loopw [6] (fun v wr => ∃ (k : Nat) (A : Option Addr) (c : Nat) (no2 : Int) (B : Option Addr) (n2 c2 : Nat) (cl : Bool) (T T2 : List T6), k ≤ n0 ∧ k ≤ 40 ∧ v = .int .i64 k ∧ T.length = 3 ∧ S5 wr g ((k : Int) + 1) A 3 c no2 B n2 c2 cl T T2 ∧ Keeps (fun b => b = g) w wr) (fun v _ => n0 - (intOf v).toNat)
  case atStart => exact ⟨0, _, _, _, _, _, _, _, _, _, Nat.zero_le _, Nat.zero_le _, rfl, zeros_length 3, D2.out, K2.out.mono (fun _ _ h => h.elim)⟩
  case round =>
    obtain ⟨k, A, c, no2, B, n2, c2, cl, T, T2, hk, hk', rfl, hT, d, kk⟩ := hrel
    have D := Lib.hid d
    have KK := Lib.hid kk
    have HT := Lib.hid hT
    clear d kk hT
    by_cases hkn : k < n0 ∧ k < 40
    · obtain ⟨r, hr⟩ : ∃ r, rs[k]? = some r := ⟨_, List.getElem?_eq_getElem (by have := LA.out; omega)⟩
      obtain ⟨ad, hA, hc⟩ := (R0.out.keeps KK.out (fun ad e h0 h => by have := R0.out.lt h0 e; omega)).at_ hr
      subst hA
      have q0 : wr.cell? (ad.add k) = some (.slice r.A r.n r.c) := by
        have := hc 0 _ rfl
        simpa [rowE] using this
      obtain ⟨r1, r2, r3⟩ := OK0.out r (List.mem_of_getElem? hr)
      have rr := r1.keeps KK.out (fun ad e h0 h => by have := r1.lt h0 e; omega)
      have RR := Lib.hid rr
      clear hc hr rr r1
      obtain ⟨hk1, hk2⟩ := hkn
      have m0 : True := trivial
      have m1 : True := trivial
      have hw1 : wrap64 ((k : Int) + 1) = (k : Int) + 1 := Lem.wrap_in (by omega) (by omega)
      have hw2 : wrap64 ((k : Int) + 2) = (k : Int) + 2 := Lem.wrap_in (by omega) (by omega)
      have hw3 : (k : Int) + 1 + 1 = (k : Int) + 2 := by omega
      have HW3 := Lib.hid hw3
      clear hw3
      go_wp2_with (first
        | (go_at_call 10; clear m0; refine (count_any D.out r.es r.A r.n r.c RR.out r2 r3).mono ?_
           rintro e w4 ⟨rfl, ⟨A4, c4, d4⟩, k4⟩
           obtain ⟨T4, hT4⟩ : ∃ T4, T4 = countT T r.es := ⟨_, rfl⟩
           rw [← hT4] at d4
           have D4 := Lib.hid d4
           have K4 := Lib.hid (KK.out.trans k4 (fun _ _ h => h))
           clear d4 k4 hT4)
        | (go_at_call 13; refine (open_any D4.out).mono ?_
           rintro e w5 ⟨A5, c5, rfl, o5, k5⟩
           have D5 := Lib.hid ((D4.out.keep k5).keep ((Keeps.refl (fun _ => False) w5).alloc (.cells #[.int .i64 ((k : Int) + 1), .slice A5 3 c5] 38)))
           have X5 := Lib.hid (Blk.new w5 38 #[.int .i64 ((k : Int) + 1), .slice A5 3 c5] _ rfl)
           have O5 := Lib.hid (o5.alloc (.cells #[.int .i64 ((k : Int) + 1), .slice A5 3 c5] 38))
           have K5 := Lib.hid ((K4.out.trans k5 (fun _ _ h => h.elim)).alloc (.cells #[.int .i64 ((k : Int) + 1), .slice A5 3 c5] 38))
           clear o5 k5)
        | (go_at_call 11; refine (cut_any D5.out (by omega) (by omega)).mono ?_
           rintro e w6 ⟨A6, c6, A7, c7, rfl, o6, d6, k6⟩
           have hgl := d6.box.lt
           have k6' := k6.alloc (.cells #[.int .i64 ((k : Int) + 1), .slice A6 3 c6] 38)
           have x5 := (X5.out.keeps k6' (fun e => X5.out.ne_ D5.out.box (by decide) e))
           have x6 : Blk (w6.alloc (.cells #[.int .i64 ((k : Int) + 1), .slice A6 3 c6] 38)) w6.heap.size 38 #[.int .i64 ((k : Int) + 1), .slice A6 3 c6] := Blk.new w6 38 _ _ rfl
           have y0 := x5.cell 0
           have y1 := x5.cell 1
           have z0 := x6.cell 0
           have z1 := x6.cell 1
           simp at y0 y1 z0 z1
           have D6 := Lib.hid (d6.keep ((Keeps.refl (fun _ => False) w6).alloc (.cells #[.int .i64 ((k : Int) + 1), .slice A6 3 c6] 38)))
           have X6 := Lib.hid x6
           have O5b := Lib.hid (O5.out.keeps k6' (fun q hq e => by subst e; exact O5.out.blk_ne D5.out.box (by decide) hq))
           have O6 := Lib.hid (o6.alloc (.cells #[.int .i64 ((k : Int) + 1), .slice A6 3 c6] 38))
           have K6 := Lib.hid (K5.out.trans k6' (fun _ _ h => h))
           clear o6 d6 k6 k6' x5 x6)
        | (go_at_call 12; clear m1; refine (same_yes ((k : Int) + 1) T4 A5 3 c5 A6 c6 _ (own_reads O5b.out) (own_reads O6.out) (by omega)).mono ?_
           rintro e w7 ⟨rfl, k7⟩
           have D7 := Lib.hid (D6.out.keep k7)
           have X7 := Lib.hid (X6.out.keeps k7 (fun h => h))
           have O7 := Lib.hid (O6.out.keeps k7 (fun _ _ h => h))
           have K7 := Lib.hid (K6.out.trans k7 (fun _ _ h => h.elim))
           clear k7)
        | (go_at_call 10; refine (count_any (D7.out.keep ((Keeps.refl (fun _ => False) w7).alloc (.cells #[.int .i64 0, .int .i64 7] 34))) [(0, 7)] (some ⟨w7.heap.size, 0, none⟩) 1 1 ((Blk.new w7 34 _ _ rfl).reads [(0, 7)] rfl rfl) (by unfold okE; decide) (by omega)).mono ?_
           rintro e w8 ⟨rfl, ⟨A8, c8, d8⟩, k8⟩
           rw [sevenE]
           have k78 := ((Keeps.refl (fun b => b = g) w7).alloc (.cells #[.int .i64 0, .int .i64 7] 34)).trans k8 (fun _ _ h => h)
           have D8 := Lib.hid d8
           have X8 := Lib.hid (X7.out.keeps k78 (fun e => X7.out.ne_ D7.out.box (by decide) e))
           have O8 := Lib.hid (O7.out.keeps k78 (fun q hq e => by subst e; exact O7.out.blk_ne D7.out.box (by decide) hq))
           have K8 := Lib.hid (K7.out.trans k78 (fun _ _ h => h))
           clear d8 k8 k78)
        | (go_at_call 14; refine (last_any D8.out).mono ?_
           rintro e w9 ⟨A9, c9, rfl, o9, k9⟩
           have k9' := k9.alloc (.cells #[.int .i64 ((k : Int) + 1), .slice A9 3 c9] 38)
           have x8 := X8.out.keeps k9' (fun h => h)
           have x9 : Blk (w9.alloc (.cells #[.int .i64 ((k : Int) + 1), .slice A9 3 c9] 38)) w9.heap.size 38 #[.int .i64 ((k : Int) + 1), .slice A9 3 c9] := Blk.new w9 38 _ _ rfl
           have y2 := x8.cell 0
           have y3 := x8.cell 1
           have z2 := x9.cell 0
           have z3 := x9.cell 1
           simp at y2 y3 z2 z3
           have D9 := Lib.hid (D8.out.keep k9')
           have X9 := Lib.hid x8
           have O8b := Lib.hid (O8.out.keeps k9' (fun _ _ h => h))
           have O9 := Lib.hid (o9.alloc (.cells #[.int .i64 ((k : Int) + 1), .slice A9 3 c9] 38))
           have K9 := Lib.hid (K8.out.trans k9' (fun _ _ h => h.elim))
           clear o9 k9 k9' x8 x9)
        | (go_at_call 12; refine (same_yes ((k : Int) + 1) T4 A9 3 c9 A6 c6 _ (own_reads O9.out) (own_reads O8b.out) (by omega)).mono ?_
           rintro e w10 ⟨rfl, k10⟩
           have x10 := X9.out.keeps k10 (fun h => h)
           have y4 := x10.cell 0
           simp at y4
           have d10 := D9.out.keep k10
           rw [HW3.out] at d10
           have D10 := Lib.hid d10
           have K10 := Lib.hid (K9.out.trans k10 (fun _ _ h => h.elim))
           clear k10 x10 d10)
        | (go_at_call 15; refine (today_any D10.out).mono ?_
           rintro e w11 ⟨rfl, hw11⟩
           subst hw11))
      have d11 := D10.out
      rw [show (k : Int) + 2 = ((k + 1 : Nat) : Int) + 1 by omega] at d11
      exact ⟨⟨k + 1, _, _, _, _, _, _, _, _, _, by omega, by omega, by go_num, by rw [countT_length]; exact zeros_length 3, d11, K10.out⟩, by simp [intOf]; omega⟩
    · have KX := Lib.hid (KK.out.below (Nat.le_refl w.heap.size) (fun b hb h => by omega))
      rcases (show ¬ k < n0 ∨ (k < n0 ∧ ¬ k < 40) by omega) with h | ⟨h, h'⟩
      all_goals
        clear hkn
        go_wp2_with fail
        go_ret
        exact ⟨rfl, KX.out⟩
end Go.Proofs.Ytbobmilbcbileaa
