/- Sums are as the document's: walked. -/
import Derived.Test.YtbobmilbcbileaaRefs2
namespace Go.Proofs.Ytbobmilbcbileaa
open Go.RowKit Mem
section
variable {w : World} {g gr n : Nat} {no : Int} {A : Option Addr} {c : Nat} {AL : Option Addr} {ln lc : Nat} {no2 : Int} {A2 A3 : Option Addr} {n2 c2 c3 : Nat} {cl : Bool} {L : List (Int × Int)} {T T2 : List T6}
set_option maxRecDepth 100000 in
set_option maxHeartbeats 6400000 in
theorem like_any (d : S5 w g no A n c no2 A2 n2 c2 cl T T2) (r : RS w gr n no AL ln lc no2 A3 n2 c3 cl L T T2) (hln : ln ≤ 100000000) :
    Calls Try.prog 22 #[.pointer (some ⟨g, 0, none⟩), .pointer (some ⟨gr, 0, none⟩)] w fun e w' => e = .returned (.bool true) ∧ Keeps (fun _ => False) w w' := by
  have D := Lib.hid d
  have R := Lib.hid r
  have hf2 := d.few2
  have hf := d.few
  clear d r
  have m0 : True := trivial
  go_enter Try.func22, Try.ntmps22
  go_upto_region 3 with (first
    | (go_at_call 14; refine (last_any D.out).mono ?_
       rintro e w1 ⟨A9, c9, rfl, o1, k1⟩
       have K1 := Lib.hid (k1.alloc (.cells #[.int .i64 no2, .slice A9 n2 c9] 38))
       have O1 := Lib.hid (o1.alloc (.cells #[.int .i64 no2, .slice A9 n2 c9] 38))
       have X1 := Lib.hid (Blk.new w1 38 #[.int .i64 no2, .slice A9 n2 c9] _ rfl)
       have hz1 := k1.size
       clear o1 k1)
    | (go_at_call 13; refine (open_any (D.out.keep K1.out)).mono ?_
       rintro e w2 ⟨A5, c5, rfl, o2, k2⟩
       have K2 := Lib.hid (K1.out.trans k2 (fun _ _ h => h))
       have O12 := Lib.hid (O1.out.keeps k2 (fun _ _ h => h))
       have X2 := Lib.hid (X1.out.keeps k2 (fun h => h))
       have O2 := Lib.hid o2
       clear o2 k2)
    | (go_at_call 26; refine (refOpen_any (R.out.keep K2.out) hln).mono ?_
       rintro e w3 ⟨A6, c6, rfl, o3, k3⟩
       have K3 := Lib.hid (K2.out.trans k3 (fun _ _ h => h))
       have O13 := Lib.hid (O12.out.keeps k3 (fun _ _ h => h))
       have X3 := Lib.hid (X2.out.keeps k3 (fun h => h))
       have O23 := Lib.hid (O2.out.keeps k3 (fun _ _ h => h))
       have O3 := Lib.hid o3
       clear o3 k3)
    | (go_at_call 12; refine (same_yes no T A5 n c5 A6 c6 _ (own_reads O23.out) (own_reads O3.out) (by omega)).mono ?_
       rintro e w4 ⟨rfl, k4⟩
       have K4 := Lib.hid (K3.out.trans k4 (fun _ _ h => h))
       have O14 := Lib.hid (O13.out.keeps k4 (fun _ _ h => h))
       have x4 := X3.out.keeps k4 (fun h => h)
       have x0 := x4.cell 0
       have x1 := x4.cell 1
       simp at x0 x1
       have X4 := Lib.hid x4
       clear k4 x4))
  have r4 := R.out.keep K4.out
  have y3 := r4.box.cell 3
  have y4 := r4.box.cell 4
  simp at y3 y4
  have P4 := Lib.hid (own_reads r4.past)
  clear r4
  go_still_tail 5, (by kernel_rfl)
  go_wp2_with (go_at_call 12; refine (same_yes no2 T2 A9 n2 c9 A3 c3 _ ((own_reads O14.out).drew) (P4.out.drew) (by omega)).mono ?_
               rintro e w5 ⟨rfl, k5⟩
               have K5 := Lib.hid ((K4.out.drew).trans k5 (fun _ _ h => h))
               have O5 := Lib.hid ((O14.out.drew).keeps k5 (fun _ _ h => h))
               have X5 := Lib.hid ((X4.out.drew).keeps k5 (fun h => h))
               clear k5)
  go_loopw [9] (fun v wr => ∃ (i : Nat) (T' : List T6), i ≤ n2 ∧ v = .int .i64 i ∧ T'.length = n2 ∧ Own total wr w.heap.size 41 (.slice A9 n2 c9) T' ∧ Blk wr w1.heap.size 38 #[.int .i64 no2, .slice A9 n2 c9] ∧ Keeps (fun _ => False) w wr) (fun v _ => n2 - (intOf v).toNat)
  case atStart => exact ⟨0, T2, Nat.zero_le _, rfl, O5.out.len_eq rfl, O5.out, X5.out, K5.out⟩
  case round =>
    obtain ⟨i, T', hi, rfl, hl, ho, hx, hk⟩ := hrel
    have KK := Lib.hid hk
    have HO := Lib.hid ho
    have HX := Lib.hid hx
    have HLL := Lib.hid hl
    have z1 := hx.cell 1
    simp at z1
    clear hk ho hx hl
    by_cases hin : i < n2
    · obtain ⟨t, ht⟩ : ∃ t, T'[i]? = some t := ⟨_, List.getElem?_eq_getElem (by rw [HLL.out]; exact hin)⟩
      obtain ⟨b6, c6', hv6, hb6, hb6l, _⟩ := HO.out.form (by rw [HLL.out]; omega)
      injection hv6 with hA6 hn6 hc6
      subst hA6
      have q5 := HO.out.at_ ht (j := 5) rfl
      simp [total] at q5
      have f5 := HO.out.frozen (i * 6 + 5)
      have hst := HO.out.store (j := 5) (y := { t with net := 77 }) (u := .int .i64 77) ht (by decide) rfl
      have HST := Lib.hid hst
      have hne : w1.heap.size ≠ b6 := fun e => by
        have := HO.out.blk_ne HX.out (by decide)
        exact this (by rw [e]; rfl)
      clear ht hst hn6 hc6
      go_wp2_with fail
      exact ⟨⟨i + 1, _, by omega, by go_num, by rw [List.length_set]; exact HLL.out, HST.out, HX.out.far (by show w1.heap.size ≠ b6; exact hne) _, KK.out.setCell _ _ (fun h => by simp at h; omega)⟩, by simp [intOf]; omega⟩
    · have rr := R.out.keep KK.out
      have y1 := rr.box.cell 1
      have y5 := rr.box.cell 5
      simp at y1 y5
      have DD := Lib.hid (D.out.keep KK.out)
      clear rr
      cases cl with
      | true =>
        go_wp2_with fail
        go_quiet ((go_at_call 15; exact Calls.quiet_of_same (today_any (DD.out.keep ((Keeps.refl _ _).drewN _)))))
        go_wp2_with fail
        go_ret
        exact ⟨rfl, KK.out.drewN _⟩
      | false =>
        go_wp2_with fail
        go_quiet ((go_at_call 15; exact Calls.quiet_of_same (today_any (DD.out.keep ((Keeps.refl _ _).drewN _)))))
        go_wp2_with fail
        go_ret
        exact ⟨rfl, KK.out.drewN _⟩
end
end Go.Proofs.Ytbobmilbcbileaa
