/- The document's examples, walked. -/
import Derived.Test.YtpkmdhplbpejhaaW3
namespace Go.Proofs.Ytpkmdhplbpejhaa
open Go.RowKit Mem
set_option maxHeartbeats 1600000 in
set_option maxRecDepth 10000 in
theorem shown_any (w : World) : Calls Try.prog 6 #[] w fun e w' => e = .returned (.bool true) ∧ Keeps (fun _ => False) w w' := by
  have hne : newE [(100, 150)] = 0 := by decide
  have m0 : True := trivial
  have m1 : True := trivial
  have m2 : True := trivial
  have m3 : True := trivial
  have m4 : True := trivial
  have m5 : True := trivial
  have m7 : True := trivial
  go_enter Try.func6, Try.ntmps6
  go_wp2_with (first
    | (go_at_call 7; refine (new_any [(100, 150)] (some ⟨w.heap.size, 0, none⟩) 1 1 (w.alloc (.cells #[.int .i64 100, .int .i64 150] 35)) ((Blk.new w 35 _ _ rfl).reads _ rfl rfl)).mono ?_
       rintro e w3 ⟨v, rfl, made, k0⟩
       rw [hne]
       rcases made with ⟨h, _⟩ | ⟨_, g, m, c, A, rfl, d0, hg, hm, hA⟩
       · exact absurd hne h
       have K0 := Lib.hid k0
       have D0 := Lib.hid d0
       have HM := Lib.hid hm
       clear k0 d0 hm hA)
    | (go_at_call 11; clear m0; refine (ask_any D0.out 0 ⟨#[52]⟩ 100 (by unfold isInt; omega) (by unfold isStr; decide) (by unfold isInt; omega) (by omega)).mono ?_
       rintro e w4 ⟨rfl, d0, k0⟩
       rw [show askE [(100, 150)] (fun _ _ => 0) 0 ⟨#[52]⟩ 100 = 0 by decide]
       have DD0 := Lib.hid d0
       have KK0 := Lib.hid k0
       clear d0 k0)
    | (go_at_call 11; clear m1; refine (ask_any DD0.out 0 ⟨#[52]⟩ 60 (by unfold isInt; omega) (by unfold isStr; decide) (by unfold isInt; omega) (by omega)).mono ?_
       rintro e w5 ⟨rfl, d1, k1⟩
       rw [show askE [(100, 150)] (askM [(100, 150)] (fun _ _ => 0) 0 ⟨#[52]⟩ 100) 0 ⟨#[52]⟩ 60 = 150 by decide]
       have DD1 := Lib.hid d1
       have KK1 := Lib.hid k1
       clear d1 k1)
    | (go_at_call 11; clear m2; refine (ask_any DD1.out 0 ⟨#[52]⟩ 50 (by unfold isInt; omega) (by unfold isStr; decide) (by unfold isInt; omega) (by omega)).mono ?_
       rintro e w6 ⟨rfl, d2, k2⟩
       rw [show askE [(100, 150)] (askM [(100, 150)] (askM [(100, 150)] (fun _ _ => 0) 0 ⟨#[52]⟩ 100) 0 ⟨#[52]⟩ 60) 0 ⟨#[52]⟩ 50 = 0 by decide]
       have DD2 := Lib.hid d2
       have KK2 := Lib.hid k2
       clear d2 k2)
    | (go_at_call 10; clear m3; refine (had_any DD2.out 0 ⟨#[52]⟩ (by unfold isInt; omega) (by unfold isStr; decide)).mono ?_
       rintro e w7 ⟨rfl, hw3⟩
       try rw [show (askM [(100, 150)] (askM [(100, 150)] (askM [(100, 150)] (fun _ _ => 0) 0 ⟨#[52]⟩ 100) 0 ⟨#[52]⟩ 60) 0 ⟨#[52]⟩ 50) 0 ⟨#[52]⟩ = 150 by decide]
       subst hw3)
    | (go_at_call 11; clear m4; refine (ask_any DD2.out 0 ⟨#[53]⟩ 101 (by unfold isInt; omega) (by unfold isStr; decide) (by unfold isInt; omega) (by omega)).mono ?_
       rintro e w7 ⟨rfl, d4, k4⟩
       rw [show askE [(100, 150)] (askM [(100, 150)] (askM [(100, 150)] (askM [(100, 150)] (fun _ _ => 0) 0 ⟨#[52]⟩ 100) 0 ⟨#[52]⟩ 60) 0 ⟨#[52]⟩ 50) 0 ⟨#[53]⟩ 101 = 150 by decide]
       have DD4 := Lib.hid d4
       have KK4 := Lib.hid k4
       clear d4 k4)
    | (go_at_call 11; clear m5; refine (ask_any DD4.out 1 ⟨#[53]⟩ 1 (by unfold isInt; omega) (by unfold isStr; decide) (by unfold isInt; omega) (by omega)).mono ?_
       rintro e w8 ⟨rfl, d5, k5⟩
       rw [show askE [(100, 150)] (askM [(100, 150)] (askM [(100, 150)] (askM [(100, 150)] (askM [(100, 150)] (fun _ _ => 0) 0 ⟨#[52]⟩ 100) 0 ⟨#[52]⟩ 60) 0 ⟨#[52]⟩ 50) 0 ⟨#[53]⟩ 101) 1 ⟨#[53]⟩ 1 = 130 by decide]
       have DD5 := Lib.hid d5
       have KK5 := Lib.hid k5
       clear d5 k5)
    | (go_at_call 9; refine (reset_any DD5.out).mono ?_
       rintro e w9 ⟨rfl, d6, k6⟩
       have DD6 := Lib.hid d6
       have KK6 := Lib.hid k6
       clear d6 k6)
    | (go_at_call 10; clear m7; refine (had_any DD6.out 0 ⟨#[52]⟩ (by unfold isInt; omega) (by unfold isStr; decide)).mono ?_
       rintro e w10 ⟨rfl, hw7⟩
       try rw [show (fun _ _ => 0) 0 ⟨#[52]⟩ = 0 by decide]
       subst hw7))
  go_ret
  have hk := (Keeps.refl (fun _ => False) w).alloc (.cells #[.int .i64 100, .int .i64 150] 35)
  have hk0 := hk.trans K0.out (fun _ _ h => h)
  have hml : w.heap.size < m := by have := HM.out; simp at this; omega
  have h1 := hk0.trans KK0.out (fun b hb h => by omega)
  have h2 := h1.trans KK1.out (fun b hb h => by omega)
  have h3 := h2.trans KK2.out (fun b hb h => by omega)
  have h4 := h3.trans KK4.out (fun b hb h => by omega)
  have h5 := h4.trans KK5.out (fun b hb h => by omega)
  have h6 := h5.trans KK6.out (fun b hb h => by omega)
  exact ⟨rfl, h6⟩
end Go.Proofs.Ytpkmdhplbpejhaa
