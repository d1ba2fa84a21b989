/- The document's examples: walked. -/
import Derived.Test.YtklcooepolmemaaW4
import Derived.Test.YtklcooepolmemaaW8
namespace Go.Proofs.Ytklcooepolmemaa
open Go.RowKit Mem
theorem new_no (n : Int) (w : World) (h : n < 1 ∨ 7 < n) : Calls Try.prog 9 #[.int .i64 n] w fun e w' => e = .returned (.tuple #[.pointer none, .int .i64 1]) ∧ w' = w := by
  rcases (show n < 1 ∨ (¬ n < 1 ∧ 7 < n) by omega) with h1 | ⟨h1, h2⟩
  all_goals
    clear h
    go_enter Try.func9, Try.ntmps9
    go_wp2_with fail
    go_ret2
    exact ⟨rfl, rfl⟩
set_option maxHeartbeats 1600000 in
theorem same_yes (T : List (Int × Int)) (A : Option Addr) (n c : Nat) (A' : Option Addr) (c' : Nat) (w : World) (h1 : Reads entry w A n T) (h2 : Reads entry w A' n T) (hn : n ≤ 9223372036854775807) :
    Calls Try.prog 15 #[.slice A n c, .slice A' n c'] w fun e w' => e = .returned (.bool true) ∧ Keeps (fun _ => False) w w' := by
  have HL := Lib.hid h1.1
  have R1 := Lib.hid h1
  have R2 := Lib.hid h2
  clear h1 h2
  go_enter Try.func15, Try.ntmps15
  go_wp2_with fail
  go_loopw [5] (fun v wr => ∃ k q : Nat, k ≤ n ∧ v = .int .i64 k ∧ wr = w.drewN q) (fun v _ => n - (intOf v).toNat)
  case atStart => exact ⟨0, 0, Nat.zero_le _, rfl, rfl⟩
  case round =>
    obtain ⟨k, q, hk, rfl, rfl⟩ := hrel
    by_cases hkn : k < n
    · obtain ⟨⟨x, y⟩, ht⟩ : ∃ t, T[k]? = some t := ⟨_, List.getElem?_eq_getElem (by rw [HL.out]; exact hkn)⟩
      obtain ⟨ad, hA, hc⟩ := R1.out.at_ ht
      obtain ⟨ad', hA', hc'⟩ := R2.out.at_ ht
      subst hA hA'
      have p0 := hc 0 _ rfl
      have p1 := hc 1 _ rfl
      have q0 := hc' 0 _ rfl
      have q1 := hc' 1 _ rfl
      simp [entry] at p0 p1 q0 q1
      rw [← add_add, add_pos _ (by decide : 0 < 1)] at p1 q1
      clear hc hc' ht
      go_wp2_with fail
      go_quiet (fail)
      go_wp2_with fail
      refine ⟨⟨k + 1, _, by omega, by go_num, rfl⟩, by simp [intOf]; omega⟩
    · go_wp2_with fail
      go_ret
      exact ⟨rfl, (Keeps.refl _ w).drewN q⟩
theorem make_members : ∃ cs : Array Value, ∀ W : World, (Instr.makeSlice 44 (.int .i64 2) (.int .i64 2)).run Try.prog W = .ok (.slice (some ⟨W.heap.size, 0, none⟩) 2 2) (W.alloc (.cells cs 98)) := by
  have hinf : (Try.prog.info? 98).map (fun i => (i.zero.isSome, i.size, i.bytes)) = some (true, 5, 64) := by kernel_rfl
  obtain ⟨i, hi, hz⟩ := Option.map_eq_some_iff.1 hinf
  simp only [Prod.mk.injEq] at hz
  obtain ⟨hz0, hz1, hz2⟩ := hz
  obtain ⟨z, hz0⟩ := Option.isSome_iff_exists.1 hz0
  exact ⟨_, fun W => run_makeSlice (P := Try.prog) W 44 98 i z Try.underlying44 hi hz0 .i64 .i64 2 2 (by omega) (Int.le_refl _) (by rw [hz1]; simp) (by rw [hz2]; omega) (by omega)⟩
def rInter : RateT := ⟨50, 0, 1000⟩
def rFee : RateT := ⟨10, 1, 100⟩
theorem payEx : payE 2 rInter rFee 0 1 10000 = 0 ∧ payL 2 rInter rFee 0 1 10000 = [(1, -10000), (0, 10000), (0, -50), (1, 50), (0, -10), (2, 10)] := by decide +kernel
theorem exPost : postE (List.replicate 3 0) [(0, 5), (1, -5)] = 0 ∧ postB (List.replicate 3 0) [(0, 5), (1, -5)] = [5, -5, 0] ∧ postE [5, -5, 0] [(0, 5)] = 120 ∧ postB [5, -5, 0] [(0, 5)] = [5, -5, 0] ∧ postE [5, -5, 0] [(0, 9223372036854775807), (1, -9223372036854775807)] = 100 ∧ postB [5, -5, 0] [(0, 9223372036854775807), (1, -9223372036854775807)] = [5, -5, 0] := by decide +kernel
set_option maxRecDepth 100000 in
set_option maxHeartbeats 6400000 in
theorem shown_any (w : World) : Calls Try.prog 8 #[] w fun e w' => e = .returned (.bool true) ∧ Keeps (fun _ => False) w w' := by
  obtain ⟨cm, hmk⟩ := make_members
  have m0 : True := trivial
  have m1 : True := trivial
  have m2 : True := trivial
  have X1 := Lib.hid exPost.1
  have X2 := Lib.hid exPost.2.1
  have X3 := Lib.hid exPost.2.2.1
  have X4 := Lib.hid exPost.2.2.2.1
  have X5 := Lib.hid exPost.2.2.2.2.1
  have X6 := Lib.hid exPost.2.2.2.2.2
  have X7 := Lib.hid payEx.1
  have X8 := Lib.hid payEx.2
  go_enter Try.func8, Try.ntmps8
  go_wp2_with (first
    | (go_at_call 9; clear m0; refine (new_any 3 w (by omega) (by omega)).mono ?_
       rintro e w1 ⟨g, A, c, rfl, d1, hg, k1⟩
       have D1 := Lib.hid d1
       have K1 := Lib.hid k1
       have hgl1 := d1.box.lt
       clear d1 k1)
    | (go_at_call 9; refine (new_no 8 w1 (by omega)).mono ?_
       rintro e w2 ⟨rfl, hw2⟩
       rw [hw2]
       clear hw2)
    | (go_at_call 10; clear m1; refine (post_any (D1.out.keep ((Keeps.refl (fun _ => False) w1).alloc (.cells #[.int .i64 0, .int .i64 5, .int .i64 1, .int .i64 (-5)] 30))) [(0, 5), (1, -5)] (some ⟨w1.heap.size, 0, none⟩) 2 2 ((Blk.new w1 30 _ _ rfl).reads _ rfl rfl) (by unfold okE; decide) (by omega)).mono ?_
       rintro e w3 ⟨rfl, ⟨A3, c3, d3⟩, k3⟩
       rw [X1.out]
       rw [X2.out] at d3
       have D3 := Lib.hid d3
       have K3 := Lib.hid (((K1.out.mono (S' := fun b => b = g) (fun _ _ h => h.elim)).alloc _).trans k3 (fun _ _ h => h))
       clear d3 k3)
    | (go_at_call 10; clear m2; refine (post_any (D3.out.keep ((Keeps.refl (fun _ => False) w3).alloc (.cells #[.int .i64 0, .int .i64 5] 30))) [(0, 5)] (some ⟨w3.heap.size, 0, none⟩) 1 1 ((Blk.new w3 30 _ _ rfl).reads _ rfl rfl) (by unfold okE; decide) (by omega)).mono ?_
       rintro e w4 ⟨rfl, ⟨A4, c4, d4⟩, k4⟩
       rw [X3.out]
       rw [X4.out] at d4
       have D4 := Lib.hid d4
       have K4 := Lib.hid ((K3.out.alloc _).trans k4 (fun _ _ h => h))
       clear d4 k4)
    | (go_at_call 10; refine (post_any (D4.out.keep ((Keeps.refl (fun _ => False) w4).alloc (.cells #[.int .i64 0, .int .i64 9223372036854775807, .int .i64 1, .int .i64 (-9223372036854775807)] 30))) [(0, 9223372036854775807), (1, -9223372036854775807)] (some ⟨w4.heap.size, 0, none⟩) 2 2 ((Blk.new w4 30 _ _ rfl).reads _ rfl rfl) (by unfold okE; decide) (by omega)).mono ?_
       rintro e w5 ⟨rfl, ⟨A5, c5, d5⟩, k5⟩
       rw [X5.out]
       rw [X6.out] at d5
       have D5 := Lib.hid d5
       have K5 := Lib.hid ((K4.out.alloc _).trans k5 (fun _ _ h => h))
       clear d5 k5)
    | (go_at_call 11; refine (balance_in D5.out 0 5 rfl).mono ?_
       rintro e w6 ⟨rfl, hw6⟩
       rw [hw6]
       clear hw6)
    | (go_at_call 17; refine (payment_any (some ⟨w5.heap.size, 0, none⟩) 2 2 none 0 0 rInter rFee 0 0 0 0 1 10000 _ (by omega)).mono ?_
       rintro e w7 ⟨A7, n7, c7, rfl, o7, k7⟩
       rw [X7.out]
       rw [X8.out] at o7
       have hn7 : n7 = 6 := (o7.len_eq rfl).symm
       subst hn7
       obtain ⟨b7, c7', hv7, hb7, hb7l, _⟩ := o7.form (by decide)
       injection hv7 with hA7 hx7 hc7
       subst hA7
       have t0 := o7.at_ (i := 0) (j := 0) rfl rfl
       have t1 := o7.at_ (i := 0) (j := 1) rfl rfl
       have t2 := o7.at_ (i := 5) (j := 0) rfl rfl
       have t3 := o7.at_ (i := 5) (j := 1) rfl rfl
       simp [entry] at t0 t1 t2 t3
       have K7 := Lib.hid ((K5.out.alloc _).trans k7 (fun _ _ h => h.elim))
       clear o7 k7 hc7 hx7))
  go_ret
  exact ⟨rfl, K7.out.mono (fun b hb h => by omega)⟩
end Go.Proofs.Ytklcooepolmemaa
