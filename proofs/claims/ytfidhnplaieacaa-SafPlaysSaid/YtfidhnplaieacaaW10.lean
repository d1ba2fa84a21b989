/- The examples: walked. -/
import Derived.Test.YtfidhnplaieacaaW9
namespace Go.Proofs.Ytfidhnplaieacaa
open Go.RowKit Mem
theorem hasN_nil (s : ByteArray) : hasN [] s = false := rfl
theorem hasN_cons (a : AD) (l : List AD) (s : ByteArray) : hasN (a :: l) s = ((a.name.toList == s.toList) || hasN l s) := by simp [hasN]
set_option maxRecDepth 100000 in
set_option maxHeartbeats 6400000 in
theorem shown_any (w : World) : Calls Try.prog 6 #[] w fun e w' => e = .returned (.bool true) ∧ Keeps (fun _ => False) w w' := by
  have rn : ∀ W : World, Reads fld W none 0 [] := fun W => Reads.nil _ _ _
  have ab : ((⟨#[97]⟩ : ByteArray).toList == (⟨#[98]⟩ : ByteArray).toList) = false := by rw [bytes_eq]; rfl
  have ac : ((⟨#[97]⟩ : ByteArray).toList == (⟨#[99]⟩ : ByteArray).toList) = false := by rw [bytes_eq]; rfl
  have bc : ((⟨#[98]⟩ : ByteArray).toList == (⟨#[99]⟩ : ByteArray).toList) = false := by rw [bytes_eq]; rfl
  have aa : ∀ s : ByteArray, (s.toList == s.toList) = true := fun s => by simp
  have RN := Lib.hid rn
  have AB := Lib.hid ab
  have AC := Lib.hid ac
  have BC := Lib.hid bc
  have AA := Lib.hid aa
  clear rn ab ac bc aa
  have m0 : True := trivial
  go_enter Try.func6, Try.ntmps6
  go_upto_region 14 with (first
    | (go_at_call 11; refine (sendB_yes D10.out rfl).mono ?_
       rintro e w11 ⟨A11, c11, rfl, o11, d11, k11, j11⟩
       have K11 := Lib.hid ((K10.out.trans k11 (fun _ _ h => h)).alloc (.cells #[.int .i64 a2.ty, .slice A11 a2.n c11] 32))
       have D11 := Lib.hid (d11.keep ((Keeps.refl _ w11).alloc (.cells #[.int .i64 a2.ty, .slice A11 a2.n c11] 32)))
       have x11 := ((D10.out.box_ j11 X10.out).alloc (.cells #[.int .i64 a2.ty, .slice A11 a2.n c11] 32)).cell 0
       simp at x11
       rw [HT1.out] at x11
       rw [HN2.out]
       clear o11 d11 k11 j11 D10)
    | (go_at_call 13; refine (doneB_yes D9.out rfl ⟨#[97]⟩ (by rw [HN1.out]; exact AA.out _)).mono ?_
       rintro e w10 ⟨rfl, d10, k10, j10⟩
       have K10 := Lib.hid (K9.out.trans k10 (fun _ _ h => h))
       have X10 := Lib.hid (D9.out.box_ j10 X9.out)
       have D10 := Lib.hid d10
       clear d10 k10 j10 D9)
    | (go_at_call 13; clear m0; refine (done_not D8.out.q rfl ⟨#[98]⟩ (by rw [HN1.out]; exact AB.out)).mono ?_
       rintro e w9 ⟨rfl, hw9⟩
       rw [hw9]
       clear hw9
       have K9 := K8
       have X9 := X8
       have D9 := D8
       clear D8)
    | (go_at_call 11; refine (sendB_no D7.out (.inr rfl)).mono ?_
       rintro e w8 ⟨rfl, d8, k8, j8⟩
       have K8 := Lib.hid ((K7.out.trans k8 (fun _ _ h => h)).alloc (.cells #[.int .i64 0, .slice none 0 0] 32))
       have X8 := Lib.hid ((D7.out.box_ j8 X7.out).alloc (.cells #[.int .i64 0, .slice none 0 0] 32))
       have D8 := Lib.hid (d8.keep ((Keeps.refl _ w8).alloc (.cells #[.int .i64 0, .slice none 0 0] 32)))
       clear d8 k8 j8 D7)
    | (go_at_call 11; refine (sendB_yes D6.out rfl).mono ?_
       rintro e w7 ⟨A7, c7, rfl, o7, d7, k7, j7⟩
       rw [HN1.out]
       have K7 := Lib.hid ((K6.out.trans k7 (fun _ _ h => h)).alloc (.cells #[.int .i64 a1.ty, .slice A7 a1.n c7] 32))
       have X7 := Lib.hid (Blk.new w7 32 #[.int .i64 a1.ty, .slice A7 a1.n c7] _ rfl)
       have D7 := Lib.hid (d7.keep ((Keeps.refl _ w7).alloc (.cells #[.int .i64 a1.ty, .slice A7 a1.n c7] 32)))
       clear d7 k7 o7 j7 D6)
    | (go_at_call 8; refine (putB_no D5.out ⟨#[99]⟩ 0 none 0 0 [] (RN.out _) (by omega) (x := 3) E6.out (by decide)).mono ?_
       rintro e w6 ⟨rfl, k6⟩
       have D6 := Lib.hid (D5.out.keep k6)
       have K6 := Lib.hid (K5.out.trans k6 (fun _ _ h => h.elim))
       clear k6 D5)
    | (go_at_call 8; refine (putB_ok D4.out (by have := K4.out.size; omega) ⟨#[98]⟩ 420 none 0 0 [] (RN.out _) (by omega) E5.out).mono ?_
       rintro e w5 ⟨rfl, a2, A5, c5, hn2, ht2, hf2, d5, k5, j5⟩
       have HN2 := Lib.hid hn2
       have D5 := Lib.hid d5
       have K5 := Lib.hid (K4.out.trans k5 (fun _ _ h => h))
       have E6 := Lib.hid (show putE ([] ++ [a1] ++ [a2]) (0 + 1 + 1) 2 ⟨#[99]⟩ = 3 by unfold putE; rw [List.nil_append, List.singleton_append, hasN_cons, hasN_cons, hasN_nil, HN1.out, hn2, AC.out, BC.out]; rfl)
       clear d5 k5 j5 D4 hn2 ht2 hf2)
    | (go_at_call 8; refine (putB_no D3.out ⟨#[97]⟩ 0 none 0 0 [] (RN.out _) (by omega) (x := 161) E4.out (by decide)).mono ?_
       rintro e w4 ⟨rfl, k4⟩
       have D4 := Lib.hid (D3.out.keep k4)
       have K4 := Lib.hid (K3.out.trans k4 (fun _ _ h => h.elim))
       clear k4 D3)
    | (go_at_call 8; refine (putB_ok D2.out (by have := K2.out.size; omega) ⟨#[97]⟩ 220 none 0 0 [] (RN.out _) (by omega) E3.out).mono ?_
       rintro e w3 ⟨rfl, a1, A3, c3, hn1, ht1, hf1, d3, k3, j3⟩
       have HN1 := Lib.hid hn1
       have HT1 := Lib.hid ht1
       have D3 := Lib.hid d3
       have K3 := Lib.hid ((K2.out.mono (S' := fun b => w.heap.size ≤ b) (fun _ _ h => h.elim)).trans k3 (fun _ _ h => h))
       have E4 := Lib.hid (show putE ([] ++ [a1]) (0 + 1) 2 ⟨#[97]⟩ = 161 by unfold putE; rw [List.nil_append, hasN_cons, hasN_nil, hn1, AA.out]; rfl)
       have E5 := Lib.hid (show putE ([] ++ [a1]) (0 + 1) 2 ⟨#[98]⟩ = 0 by unfold putE; rw [List.nil_append, hasN_cons, hasN_nil, hn1, AB.out]; rfl)
       clear d3 k3 j3 D2 hn1 ht1 hf1)
    | (go_at_call 7; refine (new_no 0 w1 (.inl (by omega))).mono ?_
       rintro e w2 ⟨rfl, rfl⟩
       have D2 := D1
       have K2 := K1
       have E3 := Lib.hid (show putE [] 0 2 ⟨#[97]⟩ = 0 by rfl)
       clear D1)
    | (go_at_call 7; clear m0; refine (newB (B := w.heap.size) 2 w (by omega) (by omega) (Nat.le_refl _)).mono ?_
       rintro e w1 ⟨g, rfl, d1, k1⟩
       have m0 : True := trivial
       have D1 := Lib.hid d1
       have K1 := Lib.hid k1
       clear d1 k1))
  go_wp2_with (go_at_call 16; refine (room_any D11.out.q).mono ?_
               rintro e w12 ⟨rfl, k12⟩
               have K12 := Lib.hid (K11.out.trans k12 (fun _ _ h => h.elim))
               clear k12)
  go_ret
  exact ⟨rfl, K12.out.mono (fun b hb h => by omega)⟩
end Go.Proofs.Ytfidhnplaieacaa
