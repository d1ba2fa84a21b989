/- Whether a name waits; a message put in: walked. -/
import Derived.Test.YtfidhnplaieacaaW2
namespace Go.Proofs.Ytfidhnplaieacaa
open Go.RowKit Mem
set_option maxHeartbeats 1600000 in
theorem index_any (A : Option Addr) (n c : Nat) (l : List AD) (s : ByteArray) (b : Nat) (w : World) (hr : Reads adv w A n l) (hn : n ≤ 1000) (hb : w.cell? ⟨b, 0, none⟩ = some (.string s)) :
    Calls Try.prog 35 #[.slice A n c, .func (.func 29) #[] #[.pointer (some ⟨b, 0, none⟩)]] w fun e w' => ∃ r : Int, e = .returned (.int .i64 r) ∧ decide (0 ≤ r) = hasN l s ∧ Keeps (fun _ => False) w w' := by
  have hl : l.length = n := hr.1
  have HL := Lib.hid hl
  have HR := Lib.hid hr
  have HB := Lib.hid hb
  have hbl : b < w.heap.size := World.block_lt_of_cell? w _ hb
  clear hl hr hb
  go_enter Try.func35, Try.ntmps35
  go_wp2_with fail
  go_loopw [8] (fun v wr => ∃ k : Nat, k ≤ n ∧ v = .int .i64 k ∧ Keeps (fun _ => False) w wr ∧ hasN (l.take k) s = false) (fun v _ => n - (intOf v).toNat)
  case atStart => exact ⟨0, Nat.zero_le _, rfl, Keeps.refl _ _, by simp [hasN]⟩
  case round =>
    obtain ⟨k, hk, rfl, kk, hf⟩ := hrel
    have KK := Lib.hid kk
    have HF := Lib.hid hf
    clear kk hf
    by_cases hkn : k < n
    · obtain ⟨a, ha⟩ : ∃ a, l[k]? = some a := ⟨_, List.getElem?_eq_getElem (by rw [HL.out]; exact hkn)⟩
      obtain ⟨ad, hA, hc⟩ := (HR.out.keeps KK.out (fun _ _ _ h => h)).at_ ha
      subst hA
      have q0 := hc 0 _ rfl
      have q1 := hc 1 _ rfl
      have q2 := hc 2 _ rfl
      simp [adv] at q0 q1 q2
      rw [← add_add, add_pos _ (by decide : 0 < 1)] at q1
      rw [← add_add, add_pos _ (by decide : 0 < 2)] at q2
      have ht := anyN_take (s := s) ha
      rw [HF.out, Bool.false_or] at ht
      have HT := Lib.hid ht
      have hb2 := KK.out.cell (fun h => h) HB.out
      clear hc ha ht
      by_cases hm : (a.name.toList == s.toList) = true
      · have he := hasN_take (HT.out.trans hm)
        have HE := Lib.hid he
        clear he
        go_wp2_with (go_at_call 29; refine (same_any a s b wr hb2).mono ?_
                     rintro e w2 ⟨rfl, k2⟩
                     have K2 := Lib.hid (KK.out.trans k2 (fun _ _ h => h))
                     clear k2)
        go_ret
        exact ⟨_, rfl, by rw [HE.out]; simp, K2.out⟩
      · have hm2 : (a.name.toList == s.toList) = false := by simpa using hm
        clear hm
        have HM := Lib.hid hm2
        go_wp2_with (go_at_call 29; refine (same_any a s b wr hb2).mono ?_
                     rintro e w2 ⟨rfl, k2⟩
                     have K2 := Lib.hid (KK.out.trans k2 (fun _ _ h => h))
                     clear k2)
        exact ⟨⟨k + 1, by omega, by go_num, K2.out, HT.out.trans HM.out⟩, by simp [intOf]; omega⟩
    · obtain rfl : n = k := by omega
      have e : hasN l s = false := by
        have := HF.out
        rwa [List.take_of_length_le (by rw [HL.out]; exact Nat.le_refl _)] at this
      have E := Lib.hid e
      clear e
      go_wp2_with fail
      go_ret
      exact ⟨_, rfl, by rw [E.out]; simp, KK.out⟩
theorem has_any (A : Option Addr) (n c : Nat) (l : List AD) (s : ByteArray) (b : Nat) (w : World) (hr : Reads adv w A n l) (hn : n ≤ 1000) (hb : w.cell? ⟨b, 0, none⟩ = some (.string s)) :
    Calls Try.prog 28 #[.slice A n c, .func (.func 29) #[] #[.pointer (some ⟨b, 0, none⟩)]] w fun e w' => e = .returned (.bool (hasN l s)) ∧ Keeps (fun _ => False) w w' := by
  go_enter Try.func28, Try.ntmps28
  go_wp2_with (go_at_call 35; refine (index_any A n c l s b w hr hn hb).mono ?_
               rintro e w2 ⟨r, rfl, h2, k2⟩
               have K2 := Lib.hid k2
               have H2 := Lib.hid h2
               clear k2 h2)
  go_ret
  exact ⟨by simp [H2.out.symm], K2.out⟩
end Go.Proofs.Ytfidhnplaieacaa
