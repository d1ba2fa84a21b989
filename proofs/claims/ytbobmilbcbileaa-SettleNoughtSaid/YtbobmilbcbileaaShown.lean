/- The document's examples: walked. -/
import Derived.Test.YtbobmilbcbileaaW7
namespace Go.Proofs.Ytbobmilbcbileaa
open Go.RowKit Mem
def ex1 : List (Int × Int) := [(0, 5), (1, -5), (0, -2), (1, 2)]
def exT : List T6 := [⟨0, 1, 1, 5, 2, 3⟩, ⟨1, 1, 1, 2, 5, -3⟩]
theorem ex1E : countE (zeros 2) ex1 = 0 := by decide +kernel
theorem ex1T : countT (zeros 2) ex1 = exT := by decide +kernel
theorem ex2E : countE (zeros 2) [(2, 1)] = 121 := by decide +kernel
theorem ex2T : countT (zeros 2) [(2, 1)] = zeros 2 := by decide +kernel
theorem ex3E : countE (zeros 2) [(0, -9223372036854775808)] = 100 := by decide +kernel
set_option maxRecDepth 10000 in
set_option maxHeartbeats 3200000 in
theorem shown_any (w : World) : Calls Try.prog 7 #[] w fun e w' => e = .returned (.bool true) ∧ Keeps (fun _ => False) w w' := by
  have m0 : True := trivial
  have m1 : True := trivial
  have m2 : True := trivial
  go_enter Try.func7, Try.ntmps7
  go_wp2_with (first
    | (go_at_call 8; refine (new_any 2 w (by omega) (by omega)).mono ?_
       rintro e w1 ⟨g, A, c, rfl, d1, hg, k1⟩
       have D1 := Lib.hid d1
       have K1 := Lib.hid k1
       have hgl1 := d1.box.lt
       clear d1 k1)
    | (go_at_call 10; clear m0; refine (count_any (D1.out.keep ((Keeps.refl (fun _ => False) w1).alloc (.cells #[.int .i64 0, .int .i64 5, .int .i64 1, .int .i64 (-5), .int .i64 0, .int .i64 (-2), .int .i64 1, .int .i64 2] 34))) ex1 (some ⟨w1.heap.size, 0, none⟩) 4 4 ((Blk.new w1 34 _ _ rfl).reads ex1 rfl rfl) (by unfold ex1 okE; decide) (by omega)).mono ?_
       rintro e w2 ⟨rfl, ⟨A2, c2, d2⟩, k2⟩
       rw [ex1E]
       rw [ex1T] at d2
       have D2 := Lib.hid d2
       have K2 := Lib.hid (((Keeps.refl (fun b => b = g) w1).alloc _).trans k2 (fun _ _ h => h))
       clear d2 k2)
    | (go_at_call 14; refine (last_any D2.out).mono ?_
       rintro e w3 ⟨A3, c3, rfl, o3, k3⟩
       have D3 := Lib.hid ((D2.out.keep k3).keep ((Keeps.refl (fun _ => False) w3).alloc (.cells #[.int .i64 0, .slice A3 0 c3] 38)))
       have K3 := Lib.hid (k3.alloc (.cells #[.int .i64 0, .slice A3 0 c3] 38))
       clear o3 k3)
    | (go_at_call 11; refine (cut_any D3.out (by omega) (by omega)).mono ?_
       rintro e w4 ⟨A4, c4, A5, c5, rfl, o4, d4, k4⟩
       obtain ⟨b4, c4', hv4, hb4, hb4l, _⟩ := o4.form (by decide)
       injection hv4 with hA4 hx4 hc4
       subst hA4
       have D4 := Lib.hid (d4.keep ((Keeps.refl (fun _ => False) w4).alloc (.cells #[.int .i64 1, .slice (some ⟨b4, 0, none⟩) 2 c4] 38)))
       have K4 := Lib.hid k4
       have O4 := Lib.hid (o4.alloc (.cells #[.int .i64 1, .slice (some ⟨b4, 0, none⟩) 2 c4] 38))
       have X4 := Lib.hid (Blk.new w4 38 #[.int .i64 1, .slice (some ⟨b4, 0, none⟩) 2 c4] _ rfl)
       have hz4 := k4.size
       have hbg : b4 ≠ g := fun e => o4.blk_ne d4.box (by decide) (by rw [e]; rfl)
       have hgl4 := d4.box.lt
       clear o4 d4 k4 hc4 hx4)
    | (go_at_call 10; clear m1; refine (count_any (D4.out.keep ((Keeps.refl (fun _ => False) _).alloc (.cells #[.int .i64 2, .int .i64 1] 34))) [(2, 1)] (some ⟨w4.heap.size + 1, 0, none⟩) 1 1 ((Blk.new (w4.alloc (.cells #[.int .i64 1, .slice (some ⟨b4, 0, none⟩) 2 c4] 38)) 34 #[.int .i64 2, .int .i64 1] (w4.heap.size + 1) (by simp)).reads [(2, 1)] rfl rfl) (by unfold okE; decide) (by omega)).mono ?_
       rintro e w5 ⟨rfl, ⟨A6, c6, d5⟩, k5⟩
       rw [ex2E]
       rw [ex2T] at d5
       have D5 := Lib.hid d5
       have K5 := Lib.hid (((Keeps.refl (fun b => b = g) (w4.alloc (.cells #[.int .i64 1, .slice (some ⟨b4, 0, none⟩) 2 c4] 38))).alloc _).trans k5 (fun _ _ h => h))
       clear d5 k5)
    | (go_at_call 10; clear m2; refine (count_any (D5.out.keep ((Keeps.refl (fun _ => False) w5).alloc (.cells #[.int .i64 0, .int .i64 (-9223372036854775808)] 34))) [(0, -9223372036854775808)] (some ⟨w5.heap.size, 0, none⟩) 1 1 ((Blk.new w5 34 _ _ rfl).reads [(0, -9223372036854775808)] rfl rfl) (by unfold okE; decide) (by omega)).mono ?_
       rintro e w6 ⟨rfl, ⟨A7, c7, d6⟩, k6⟩
       rw [ex3E]
       have k56 := K5.out.trans (((Keeps.refl (fun b => b = g) w5).alloc _).trans k6 (fun _ _ h => h)) (fun _ _ h => h)
       have x6 := X4.out.keeps k56 (fun e => by omega)
       have o6 := O4.out.keeps k56 (fun q hq e => hbg (by have : b4 = q := by simpa [Value.ownBlock] using hq
                                                          omega))
       have y0 := x6.cell 0
       have y1 := x6.cell 1
       have t0 := tot_at o6 (i := 0) rfl
       have t1 := tot_at o6 (i := 1) rfl
       obtain ⟨p0, p1, p2, p3, p4, p5⟩ := t0
       obtain ⟨q0, q1, q2, q3, q4, q5⟩ := t1
       simp at y0 y1 p0 p1 p2 p3 p4 p5 q0 q1 q2 q3 q4 q5
       have D6 := Lib.hid d6
       have K6 := Lib.hid k56
       clear d6 k6 k56 x6 o6)
    | (go_at_call 15; refine (today_any D6.out).mono ?_
       rintro e w7 ⟨rfl, hw7⟩
       subst hw7))
  go_ret
  have a1 := K1.out.trans K2.out (fun b hb h => by omega)
  have a2 := a1.trans K3.out (fun _ _ h => h)
  have a3 := a2.trans K4.out (fun b hb h => by omega)
  have a4 := (a3.alloc (.cells #[.int .i64 1, .slice (some ⟨b4, 0, none⟩) 2 c4] 38)).trans K6.out (fun b hb h => by omega)
  exact ⟨rfl, a4⟩
end Go.Proofs.Ytbobmilbcbileaa
