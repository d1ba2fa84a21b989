/- A message put into the document's queue: walked. -/
import Derived.Test.YtfidhnplaieacaaR4
namespace Go.Proofs.Ytfidhnplaieacaa
open Go.RowKit Mem
section
variable {w w' : World} {g most : Nat} {A : Option Addr} {n c : Nat} {way : Bool} {l : List AD}
set_option maxHeartbeats 1600000 in
theorem refPut_twice (d : QR w g most A n c way l) (s : ByteArray) (ty : Int) (Am : Option Addr) (nm cm : Nat) (fs : List FD) (hr : Reads fld w Am nm fs) (hh : hasN l s = true) :
    Calls Try.prog 21 #[.pointer (some ⟨g, 0, none⟩), .string s, .agg #[.int .i64 ty, .slice Am nm cm]] w fun e w' => e = .returned (.int .i64 161) ∧ Keeps (fun _ => False) w w' := by
  have HH := Lib.hid hh
  clear hh
  obtain ⟨w0, hw0⟩ : ∃ w0, w0 = w.alloc (.cells #[.int .i64 ty, .slice Am nm cm] 32) := ⟨_, rfl⟩
  have k0 : Keeps (fun _ => False) w w0 := by rw [hw0]; exact (Keeps.refl _ w).alloc _
  have bm : Blk w0 w.heap.size 32 #[.int .i64 ty, .slice Am nm cm] := by rw [hw0]; exact Blk.new _ 32 _ _ rfl
  have dd := d.keep k0
  have e0 := dd.box.cell 0
  have e1 := dd.box.cell 1
  simp at e0 e1
  have m0 := bm.cell 0
  have m1 := bm.cell 1
  simp at m0 m1
  have hlen : l.length = n := d.row.len_eq rfl
  have hfewm := d.few
  have hroom := d.room
  have hgl := d.box.lt
  have el := elem70
  have D := Lib.hid d
  have D0 := Lib.hid dd
  have K0 := Lib.hid k0
  have BM := Lib.hid bm
  have R := Lib.hid (hr.keeps k0 (fun _ _ _ h => h))
  have HW := Lib.hid hw0
  have HL := Lib.hid hlen
  clear d dd k0 bm hr hw0 hlen
  go_enter Try.func21, Try.ntmps21
  go_upto_region 1 with fail
  rw [← HW.out]
  go_wp2_with fail
  go_loopw [7] (fun v wr => ∃ k q : Nat, k ≤ n ∧ v = .int .i64 k ∧ wr = w0.drewN q ∧ hasN (l.take k) s = false) (fun v _ => n - (intOf v).toNat)
  case atStart => exact ⟨0, 0, Nat.zero_le _, rfl, rfl, rfl⟩
  case round =>
    obtain ⟨k, q, hk, rfl, hwr, hf⟩ := hrel
    subst hwr
    have HF := Lib.hid hf
    clear hf
    by_cases hkn : k < n
    · obtain ⟨a, ha⟩ : ∃ a, l[k]? = some a := ⟨_, List.getElem?_eq_getElem (by rw [HL.out]; exact hkn)⟩
      obtain ⟨ad, hA, hc⟩ := (own_reads D0.out.row).at_ ha
      subst hA
      have q0 := hc 0 _ rfl
      simp [adv] at q0
      have ht := anyN_take (s := s) ha
      rw [HF.out, Bool.false_or] at ht
      have HT := Lib.hid ht
      clear hc ha ht
      by_cases hm : (a.name.toList == s.toList) = true
      · go_wp2_with fail
        go_ret
        exact ⟨rfl, K0.out.drewN _⟩
      · have hm2 : (a.name.toList == s.toList) = false := by simpa using hm
        clear hm
        have HM := Lib.hid hm2
        go_wp2_with fail
        exact ⟨⟨k + 1, q, by omega, by go_num, by first | rfl | trivial, HT.out.trans HM.out⟩, by simp [intOf]; omega⟩
    · have ho := HF.out
      rw [List.take_of_length_le (by rw [HL.out]; omega), HH.out] at ho
      cases ho
set_option maxHeartbeats 1600000 in
theorem refPut_full (d : QR w g most A n c way l) (s : ByteArray) (ty : Int) (Am : Option Addr) (nm cm : Nat) (fs : List FD) (hr : Reads fld w Am nm fs) (hh : hasN l s = false) (hfull : n = most) :
    Calls Try.prog 21 #[.pointer (some ⟨g, 0, none⟩), .string s, .agg #[.int .i64 ty, .slice Am nm cm]] w fun e w' => e = .returned (.int .i64 3) ∧ Keeps (fun _ => False) w w' := by
  have HH := Lib.hid hh
  clear hh
  obtain ⟨w0, hw0⟩ : ∃ w0, w0 = w.alloc (.cells #[.int .i64 ty, .slice Am nm cm] 32) := ⟨_, rfl⟩
  have k0 : Keeps (fun _ => False) w w0 := by rw [hw0]; exact (Keeps.refl _ w).alloc _
  have bm : Blk w0 w.heap.size 32 #[.int .i64 ty, .slice Am nm cm] := by rw [hw0]; exact Blk.new _ 32 _ _ rfl
  have dd := d.keep k0
  have e0 := dd.box.cell 0
  have e1 := dd.box.cell 1
  simp at e0 e1
  have m0 := bm.cell 0
  have m1 := bm.cell 1
  simp at m0 m1
  have hlen : l.length = n := d.row.len_eq rfl
  have hfewm := d.few
  have hroom := d.room
  have hgl := d.box.lt
  have el := elem70
  have D := Lib.hid d
  have D0 := Lib.hid dd
  have K0 := Lib.hid k0
  have BM := Lib.hid bm
  have R := Lib.hid (hr.keeps k0 (fun _ _ _ h => h))
  have HW := Lib.hid hw0
  have HL := Lib.hid hlen
  clear d dd k0 bm hr hw0 hlen
  go_enter Try.func21, Try.ntmps21
  go_upto_region 1 with fail
  rw [← HW.out]
  go_wp2_with fail
  go_loopw [7] (fun v wr => ∃ k q : Nat, k ≤ n ∧ v = .int .i64 k ∧ wr = w0.drewN q ∧ hasN (l.take k) s = false) (fun v _ => n - (intOf v).toNat)
  case atStart => exact ⟨0, 0, Nat.zero_le _, rfl, rfl, rfl⟩
  case round =>
    obtain ⟨k, q, hk, rfl, hwr, hf⟩ := hrel
    subst hwr
    have HF := Lib.hid hf
    clear hf
    by_cases hkn : k < n
    · obtain ⟨a, ha⟩ : ∃ a, l[k]? = some a := ⟨_, List.getElem?_eq_getElem (by rw [HL.out]; exact hkn)⟩
      obtain ⟨ad, hA, hc⟩ := (own_reads D0.out.row).at_ ha
      subst hA
      have q0 := hc 0 _ rfl
      simp [adv] at q0
      have ht := anyN_take (s := s) ha
      rw [HF.out, Bool.false_or] at ht
      have HT := Lib.hid ht
      clear hc ha ht
      by_cases hm : (a.name.toList == s.toList) = true
      · have ho := hasN_take (HT.out.trans hm)
        rw [HH.out] at ho
        cases ho
      · have hm2 : (a.name.toList == s.toList) = false := by simpa using hm
        clear hm
        have HM := Lib.hid hm2
        go_wp2_with fail
        exact ⟨⟨k + 1, q, by omega, by go_num, by first | rfl | trivial, HT.out.trans HM.out⟩, by simp [intOf]; omega⟩
    · subst hfull
      clear HF
      go_wp2_with fail
      go_quiet (fail)
      go_wp2_with fail
      go_ret
      exact ⟨rfl, (K0.out.drewN _).drewN _⟩
end
end Go.Proofs.Ytfidhnplaieacaa
