/- LedgerPosts, walked. -/
import Derived.Test.YtklcooepolmemaaW9
import Derived.Test.YtklcooepolmemaaW12
import Derived.Deep.Cut
namespace Go.Proofs.Ytklcooepolmemaa
open Go.RowKit Mem
/-- A row of entries, and where it lies. -/
structure ER where
  A : Option Addr
  n : Nat
  c : Nat
  es : List (Int × Int)
def rowE : Enc ER where
  enc := fun h => [.slice h.A h.n h.c]
  size := 1
  len := fun _ => rfl
  one := fun x u h => by simp at h; subst h; rfl
  pos := by decide
def okR (m : Nat) (w : World) (r : ER) : Prop := Reads entry w r.A r.n r.es ∧ (∀ e ∈ r.es, okE e) ∧ r.n ≤ m
set_option maxRecDepth 100000 in
set_option maxHeartbeats 6400000 in
theorem posts_no (acc cl : Int) (h : acc < 1 ∨ 7 < acc) (A0 : Option Addr) (n0 c0 : Nat) (w : World) :
    Calls Try.prog 5 #[.int .i64 acc, .slice A0 n0 c0, .int .i64 cl] w fun e w' => e = .returned (.bool true) ∧ Below w.heap.size w w' := by
  go_enter Try.func5, Try.ntmps5
  go_wp2_with (first
    | (go_at_call 8; refine (shown_any w).mono ?_
       rintro e w1 ⟨rfl, k1⟩
       have K1 := Lib.hid k1
       clear k1)
    | (go_at_call 9; refine (new_no acc w1 h).mono ?_
       rintro e w2 ⟨rfl, hw2⟩
       rw [hw2]
       clear hw2)
    | (go_at_call 13; refine (refNew_no acc w1 h).mono ?_
       rintro e w3 ⟨rfl, hw3⟩
       rw [hw3]
       clear hw3))
  go_ret
  exact ⟨rfl, K1.out.below (Nat.le_refl _) (fun _ _ h => h)⟩
set_option maxRecDepth 100000 in
set_option maxHeartbeats 12800000 in
theorem posts_yes (n : Nat) (cl : Int) (h1 : 1 ≤ n) (h7 : n ≤ 7) (rs : List ER) (A0 : Option Addr) (n0 c0 : Nat) (w : World) (h0 : Reads rowE w A0 n0 rs) (ok0 : ∀ r ∈ rs, okR 1048576 w r) :
    Calls Try.prog 5 #[.int .i64 n, .slice A0 n0 c0, .int .i64 cl] w fun e w' => e = .returned (.bool true) ∧ Below w.heap.size w w' := by
  have R0 := Lib.hid h0
  have OK0 := Lib.hid ok0
  have LA := Lib.hid h0.1
  have mc : True := trivial
  have mb : True := trivial
  clear h0 ok0
  go_enter Try.func5, Try.ntmps5
  go_wp2_with (first
    | (go_at_call 8; refine (shown_any w).mono ?_
       rintro e w0 ⟨rfl, k0⟩
       have K0 := Lib.hid k0
       have hz0 := k0.size
       clear k0)
    | (go_at_call 9; refine (new_any n w0 h1 h7).mono ?_
       rintro e w1 ⟨gx, A1, c1, rfl, d1, hgx, k1⟩
       have D1 := Lib.hid d1
       have K1 := Lib.hid (K0.out.trans k1 (fun _ _ h => h))
       have hz1 := K1.out.size
       clear d1 k1)
    | (go_at_call 13; refine (refNew_any n w1 h1 h7).mono ?_
       rintro e w2 ⟨gy, A2, c2, rfl, r2, hgy, k2⟩
       have D2 := Lib.hid (D1.out.keep k2)
       have R2 := Lib.hid r2
       have K2 := Lib.hid (K1.out.trans k2 (fun _ _ h => h))
       have hz2 := K2.out.size
       clear r2 k2)
    | (go_at_call 12; clear mc; refine (clone_any D2.out).mono ?_
       rintro e w3 ⟨gz3, Az3, cz3, rfl, dz, hgz3, kz⟩
       have Z3 := Lib.hid dz
       have D3 := Lib.hid (D2.out.keep kz)
       have R3 := Lib.hid (R2.out.keep kz)
       have hR0 := (R2.out.keep kz).box.cell 0
       simp at hR0
       have hyl3 := (R2.out.keep kz).box.lt
       have K3 := Lib.hid (K2.out.trans kz (fun _ _ h => h))
       have hnx3 : gz3 ≠ gx := by have := D2.out.box.lt; omega
       clear dz kz)
    | (at_builtin; clear mb; refine wp_append elem3 (by rfl) (.tmp 50) (.tmp 54) (by rfl) w3.heap.size (.slice (some ⟨w3.heap.size, 0, none⟩) 0 0) [] (List.replicate n 0) _ n _ rfl rfl (own_empty _ _ _ _ _ rfl (Nat.le_refl _)) ((own_reads R3.out.row).alloc _) (by simp; omega) (by simp [maxLen]; omega) (by simp) ?_
       intro v3 w3b own3 gr3 at3
       rw [List.nil_append] at own3
       obtain ⟨Aw3, cw3, hv3, _⟩ := Own.val (n := n) own3 (R3.out.row.len_eq rfl)
       rw [hv3]
       rw [hv3] at own3
       have k3 := app_empty w3 w3.heap.size rfl gr3
       have O3b := Lib.hid own3
       have D3b := Lib.hid (D3.out.keep k3)
       have R3b := Lib.hid (R3.out.keep k3)
       have Z3b := Lib.hid (Z3.out.keep k3)
       have K3b := Lib.hid (K3.out.trans k3 (fun _ _ h => h))
       have hzz3 := k3.size
       clear own3 gr3 at3 hv3 k3 hR0))
  obtain ⟨w3c, hw3c⟩ : ∃ w3c, w3c = w3b.alloc (.cells #[.slice Aw3 n cw3] 41) := ⟨_, rfl⟩
  rw [← hw3c]
  have kc3 : Keeps (fun _ => False) w3b w3c := by rw [hw3c]; exact (Keeps.refl _ w3b).alloc _
  have W3c := Lib.hid (show RLed w3c w3b.heap.size Aw3 n cw3 (List.replicate n 0) by
    rw [hw3c]
    exact ⟨Blk.new _ 41 _ _ rfl, (O3b.out.alloc _).rebase 0 (fun _ _ => Nat.zero_le _), R3b.out.ints, R3b.out.one, R3b.out.few⟩)
  have D3c := Lib.hid (D3b.out.keep kc3)
  have R3c := Lib.hid (R3b.out.keep kc3)
  have Z3c := Lib.hid (Z3b.out.keep kc3)
  have K3c := Lib.hid (K3b.out.trans kc3 (fun _ _ h => h))
  have hny3 : w3b.heap.size ≠ gy := by have := R3b.out.box.lt; omega
  clear hw3c kc3
  
  go_wp2_with fail
  have hwx : w.heap.size ≤ gx := by omega
  have hwy' : w.heap.size ≤ gy := by omega
  go_loopw [12, 13, 14] (fun u2 u3 v wr => ∃ (k gz gw : Nat) (Ax : Option Addr) (cx : Nat) (Ay : Option Addr) (cy : Nat) (Az : Option Addr) (cz : Nat) (Aw : Option Addr) (cw : Nat) (bs bz : List Int), k ≤ n0 ∧ k ≤ 60 ∧ v = .int .i64 k ∧ u2 = .pointer (some ⟨gz, 0, none⟩) ∧ u3 = .pointer (some ⟨gw, 0, none⟩) ∧ Led wr gx Ax n cx bs ∧ RLed wr gy Ay n cy bs ∧ Led wr gz Az n cz bz ∧ RLed wr gw Aw n cw bz ∧ gz ≠ gx ∧ gw ≠ gy ∧ Keeps (fun _ => False) w wr) (fun _ _ v _ => n0 - (intOf v).toNat)
  case atStart => exact ⟨0, _, _, _, _, _, _, _, _, _, _, _, _, Nat.zero_le _, Nat.zero_le _, rfl, rfl, rfl, D3c.out, R3c.out, Z3c.out, W3c.out, hnx3, hny3, K3c.out⟩
  case round =>
    clear D3c R3c Z3c W3c K3c hnx3 hny3
    obtain ⟨k, gz, gw, Ax, cx, Ay, cy, Az, cz, Aw, cw, bs, bz, hk, hk', rfl, rfl, rfl, d, r', z, w', hzx, hwy, kk⟩ := hrel
    have D := Lib.hid d
    have R := Lib.hid r'
    have Z := Lib.hid z
    have W' := Lib.hid w'
    have KK := Lib.hid kk
    clear d r' z w' kk
    by_cases hkn : k < n0 ∧ k < 60
    · obtain ⟨r, hr⟩ : ∃ r, rs[k]? = some r := ⟨_, List.getElem?_eq_getElem (by rw [LA.out]; exact hkn.1)⟩
      obtain ⟨ad, hA, hc⟩ := R0.out.at_ hr
      subst hA
      have q := hc 0 _ rfl
      simp [rowE] at q
      have q0 := KK.out.cell (fun h => h) q
      have HQ := Lib.hid q
      have ROK := Lib.hid (OK0.out r (List.mem_of_getElem? hr))
      have ml : True := trivial
      have mc : True := trivial
      have mb : True := trivial
      obtain ⟨hk1, hk2⟩ := hkn
      clear hc hr q
      by_cases hkc : (k : Int) = cl
      · subst hkc
        clear hzx hwy
        have hR0 := R.out.box.cell 0
        simp at hR0
        go_upto_region 20 with (first
          | (go_at_call 12; clear mc; refine (clone_any D.out).mono ?_
             rintro e w3 ⟨gz3, Az3, cz3, rfl, dz, hgz3, kz⟩
             have Z3 := Lib.hid dz
             have D3 := Lib.hid (D.out.keep kz)
             have R3 := Lib.hid (R.out.keep kz)
             have hR0 := (R.out.keep kz).box.cell 0
             simp at hR0
             have hyl3 := (R.out.keep kz).box.lt
             have K3 := Lib.hid (KK.out.trans kz (fun _ _ h => h))
             have hnx3 : gz3 ≠ gx := by have := D.out.box.lt; omega
             clear dz kz)
          | (at_builtin; clear mb; refine wp_append elem3 (by rfl) (.tmp 75) (.tmp 79) (by rfl) w3.heap.size (.slice (some ⟨w3.heap.size, 0, none⟩) 0 0) [] bs _ n _ rfl rfl (own_empty _ _ _ _ _ rfl (Nat.le_refl _)) ((own_reads R3.out.row).alloc _) (by simp; omega) (by simp [maxLen]; omega) (by simp) ?_
             intro v3 w3b own3 gr3 at3
             rw [List.nil_append] at own3
             obtain ⟨Aw3, cw3, hv3, _⟩ := Own.val (n := n) own3 (R3.out.row.len_eq rfl)
             rw [hv3]
             rw [hv3] at own3
             have k3 := app_empty w3 w3.heap.size rfl gr3
             have O3b := Lib.hid own3
             have D3b := Lib.hid (D3.out.keep k3)
             have R3b := Lib.hid (R3.out.keep k3)
             have Z3b := Lib.hid (Z3.out.keep k3)
             have K3b := Lib.hid (K3.out.trans k3 (fun _ _ h => h))
             have hzz3 := k3.size
             clear own3 gr3 at3 hv3 k3 hR0))
        obtain ⟨w3c, hw3c⟩ : ∃ w3c, w3c = w3b.alloc (.cells #[.slice Aw3 n cw3] 41) := ⟨_, rfl⟩
        rw [← hw3c]
        have kc3 : Keeps (fun _ => False) w3b w3c := by rw [hw3c]; exact (Keeps.refl _ w3b).alloc _
        have W3c := Lib.hid (show RLed w3c w3b.heap.size Aw3 n cw3 bs by
          rw [hw3c]
          exact ⟨Blk.new _ 41 _ _ rfl, (O3b.out.alloc _).rebase 0 (fun _ _ => Nat.zero_le _), R3b.out.ints, R3b.out.one, R3b.out.few⟩)
        have D3c := Lib.hid (D3b.out.keep kc3)
        have R3c := Lib.hid (R3b.out.keep kc3)
        have Z3c := Lib.hid (Z3b.out.keep kc3)
        have K3c := Lib.hid (K3b.out.trans kc3 (fun _ _ h => h))
        have hny3 : w3b.heap.size ≠ gy := by have := R3b.out.box.lt; omega
        clear hw3c kc3
        
        have q0' := (K3c.out.alloc (.cells #[] 30)).cell (fun h => h) HQ.out
        have hzx := hnx3
        have hwy := hny3
        go_wp2_with (first
          | (at_builtin; refine wp_append elem30 (by rfl) (.tmp 85) (.tmp 89) (by rfl) w3c.heap.size (.slice (some ⟨w3c.heap.size, 0, none⟩) 0 0) [] r.es r.A r.n r.c rfl rfl (own_empty _ _ _ _ _ rfl (Nat.le_refl _)) ((ROK.out.1.keeps K3c.out (fun _ _ _ h => h)).alloc _) (by simp; have := ROK.out.2.2; omega) (by simp [maxLen]; have := ROK.out.2.2; omega) (by simp) ?_
             intro v5 w5 own5 gr5 at5
             rw [List.nil_append] at own5
             obtain ⟨A5, c5, hv5, _⟩ := Own.val (n := r.n) own5 ROK.out.1.1
             rw [hv5]
             rw [hv5] at own5
             have k5 := app_empty w3c w3c.heap.size rfl gr5
             have O5 := Lib.hid own5
             have D5 := Lib.hid (D3c.out.keep k5)
             have R5 := Lib.hid (R3c.out.keep k5)
             have Z5 := Lib.hid (Z3c.out.keep k5)
             have W5 := Lib.hid (W3c.out.keep k5)
             have K5 := Lib.hid (K3c.out.trans k5 (fun _ _ h => h))
             clear own5 gr5 at5 hv5 k5)
          | (go_at_call 10; refine (post_any D5.out r.es A5 r.n c5 (own_reads O5.out) ROK.out.2.1 (by have := ROK.out.2.2; omega)).mono ?_
             rintro e w6 ⟨rfl, ⟨A6, c6, d6⟩, k6⟩
             have k6' := k6.mono (S' := fun b => b = gx) (fun _ _ h => h)
             have q1 := (K5.out.trans k6 (fun b hb h => by omega)).cell (fun h => h) HQ.out
             have D6 := Lib.hid d6
             have R6 := Lib.hid (R5.out.keepl D5.out.box k6)
             have Z6 := Lib.hid (Z5.out.keepg D5.out.box hzx k6)
             have W6 := Lib.hid (W5.out.keepl D5.out.box k6)
             have O6 := Lib.hid (O5.out.keeps k6 (fun q hq e => by rw [e] at hq; exact O5.out.blk_ne D5.out.box (by decide) hq))
             have K6 := Lib.hid (K5.out.trans k6 (fun b hb h => by omega))
             clear d6 k6 k6')
          | (go_at_call 14; refine (refPost_any R6.out r.es r.A r.n r.c (ROK.out.1.keeps K6.out (fun _ _ _ h => h)) ROK.out.2.1 ROK.out.2.2).mono ?_
             rintro e w7 ⟨rfl, ⟨A7, c7, d7⟩, k7⟩
             have q2 := (K6.out.trans k7 (fun b hb h => by omega)).cell (fun h => h) HQ.out
             have R7 := Lib.hid d7
             have D7 := Lib.hid (D6.out.keepr R6.out.box k7)
             have Z7 := Lib.hid (Z6.out.keepr R6.out.box k7)
             have W7 := Lib.hid (W6.out.keepg R6.out.box hwy k7)
             have O7 := Lib.hid (O6.out.keeps k7 (fun q hq e => by rw [e] at hq; exact O6.out.blk_ne R6.out.box (by decide) hq))
             have K7 := Lib.hid (K6.out.trans k7 (fun b hb h => by omega))
             clear d7 k7)
          | (go_at_call 15; refine (same_yes r.es A5 r.n c5 r.A r.c _ (own_reads O7.out) (ROK.out.1.keeps K7.out (fun _ _ _ h => h)) (by have := ROK.out.2.2; omega)).mono ?_
             rintro e w8 ⟨rfl, k8⟩
             have D8 := Lib.hid (D7.out.keep k8)
             have R8 := Lib.hid (R7.out.keep k8)
             have Z8 := Lib.hid (Z7.out.keep k8)
             have W8 := Lib.hid (W7.out.keep k8)
             have K8 := Lib.hid (K7.out.trans k8 (fun _ _ h => h))
             clear k8)
          | (go_at_call 16; clear ml; refine (like_any D8.out R8.out).mono ?_
             rintro e w9 ⟨rfl, k9⟩
             have D9 := Lib.hid (D8.out.keep k9)
             have R9 := Lib.hid (R8.out.keep k9)
             have Z9 := Lib.hid (Z8.out.keep k9)
             have W9 := Lib.hid (W8.out.keep k9)
             have K9 := Lib.hid (K8.out.trans k9 (fun _ _ h => h))
             clear k9)
          | (go_at_call 16; refine (like_any Z9.out W9.out).mono ?_
             rintro e w10 ⟨rfl, k10⟩
             have D10 := Lib.hid (D9.out.keep k10)
             have R10 := Lib.hid (R9.out.keep k10)
             have Z10 := Lib.hid (Z9.out.keep k10)
             have W10 := Lib.hid (W9.out.keep k10)
             have K10 := Lib.hid (K9.out.trans k10 (fun _ _ h => h))
             clear k10))
        exact ⟨⟨k + 1, _, _, _, _, _, _, _, _, _, _, _, _, by omega, by omega, by go_num, rfl, rfl, D10.out, R10.out, Z10.out, W10.out, hzx, hwy, K10.out⟩, by simp [intOf]; omega⟩
      · have tk : ((k : Int) == cl) = false := by simpa using hkc
        have q0' := (KK.out.alloc (.cells #[] 30)).cell (fun h => h) HQ.out
        clear hkc
        go_wp2_with (first
          | (at_builtin; refine wp_append elem30 (by rfl) (.tmp 85) (.tmp 89) (by rfl) wr.heap.size (.slice (some ⟨wr.heap.size, 0, none⟩) 0 0) [] r.es r.A r.n r.c rfl rfl (own_empty _ _ _ _ _ rfl (Nat.le_refl _)) ((ROK.out.1.keeps KK.out (fun _ _ _ h => h)).alloc _) (by simp; have := ROK.out.2.2; omega) (by simp [maxLen]; have := ROK.out.2.2; omega) (by simp) ?_
             intro v5 w5 own5 gr5 at5
             rw [List.nil_append] at own5
             obtain ⟨A5, c5, hv5, _⟩ := Own.val (n := r.n) own5 ROK.out.1.1
             rw [hv5]
             rw [hv5] at own5
             have k5 := app_empty wr wr.heap.size rfl gr5
             have O5 := Lib.hid own5
             have D5 := Lib.hid (D.out.keep k5)
             have R5 := Lib.hid (R.out.keep k5)
             have Z5 := Lib.hid (Z.out.keep k5)
             have W5 := Lib.hid (W'.out.keep k5)
             have K5 := Lib.hid (KK.out.trans k5 (fun _ _ h => h))
             clear own5 gr5 at5 hv5 k5)
          | (go_at_call 10; refine (post_any D5.out r.es A5 r.n c5 (own_reads O5.out) ROK.out.2.1 (by have := ROK.out.2.2; omega)).mono ?_
             rintro e w6 ⟨rfl, ⟨A6, c6, d6⟩, k6⟩
             have k6' := k6.mono (S' := fun b => b = gx) (fun _ _ h => h)
             have q1 := (K5.out.trans k6 (fun b hb h => by omega)).cell (fun h => h) HQ.out
             have D6 := Lib.hid d6
             have R6 := Lib.hid (R5.out.keepl D5.out.box k6)
             have Z6 := Lib.hid (Z5.out.keepg D5.out.box hzx k6)
             have W6 := Lib.hid (W5.out.keepl D5.out.box k6)
             have O6 := Lib.hid (O5.out.keeps k6 (fun q hq e => by rw [e] at hq; exact O5.out.blk_ne D5.out.box (by decide) hq))
             have K6 := Lib.hid (K5.out.trans k6 (fun b hb h => by omega))
             clear d6 k6 k6')
          | (go_at_call 14; refine (refPost_any R6.out r.es r.A r.n r.c (ROK.out.1.keeps K6.out (fun _ _ _ h => h)) ROK.out.2.1 ROK.out.2.2).mono ?_
             rintro e w7 ⟨rfl, ⟨A7, c7, d7⟩, k7⟩
             have q2 := (K6.out.trans k7 (fun b hb h => by omega)).cell (fun h => h) HQ.out
             have R7 := Lib.hid d7
             have D7 := Lib.hid (D6.out.keepr R6.out.box k7)
             have Z7 := Lib.hid (Z6.out.keepr R6.out.box k7)
             have W7 := Lib.hid (W6.out.keepg R6.out.box hwy k7)
             have O7 := Lib.hid (O6.out.keeps k7 (fun q hq e => by rw [e] at hq; exact O6.out.blk_ne R6.out.box (by decide) hq))
             have K7 := Lib.hid (K6.out.trans k7 (fun b hb h => by omega))
             clear d7 k7)
          | (go_at_call 15; refine (same_yes r.es A5 r.n c5 r.A r.c _ (own_reads O7.out) (ROK.out.1.keeps K7.out (fun _ _ _ h => h)) (by have := ROK.out.2.2; omega)).mono ?_
             rintro e w8 ⟨rfl, k8⟩
             have D8 := Lib.hid (D7.out.keep k8)
             have R8 := Lib.hid (R7.out.keep k8)
             have Z8 := Lib.hid (Z7.out.keep k8)
             have W8 := Lib.hid (W7.out.keep k8)
             have K8 := Lib.hid (K7.out.trans k8 (fun _ _ h => h))
             clear k8)
          | (go_at_call 16; clear ml; refine (like_any D8.out R8.out).mono ?_
             rintro e w9 ⟨rfl, k9⟩
             have D9 := Lib.hid (D8.out.keep k9)
             have R9 := Lib.hid (R8.out.keep k9)
             have Z9 := Lib.hid (Z8.out.keep k9)
             have W9 := Lib.hid (W8.out.keep k9)
             have K9 := Lib.hid (K8.out.trans k9 (fun _ _ h => h))
             clear k9)
          | (go_at_call 16; refine (like_any Z9.out W9.out).mono ?_
             rintro e w10 ⟨rfl, k10⟩
             have D10 := Lib.hid (D9.out.keep k10)
             have R10 := Lib.hid (R9.out.keep k10)
             have Z10 := Lib.hid (Z9.out.keep k10)
             have W10 := Lib.hid (W9.out.keep k10)
             have K10 := Lib.hid (K9.out.trans k10 (fun _ _ h => h))
             clear k10))
        exact ⟨⟨k + 1, _, _, _, _, _, _, _, _, _, _, _, _, by omega, by omega, by go_num, rfl, rfl, D10.out, R10.out, Z10.out, W10.out, hzx, hwy, K10.out⟩, by simp [intOf]; omega⟩
    · have KX := Lib.hid (KK.out.below (Nat.le_refl w.heap.size) (fun b hb h => h))
      rcases (show ¬ k < n0 ∨ (k < n0 ∧ ¬ k < 60) by omega) with h | ⟨h, h'⟩
      all_goals
        clear hkn
        go_wp2_with fail
        go_ret
        exact ⟨rfl, KX.out⟩
theorem posts_any (acc cl : Int) (rs : List ER) (A0 : Option Addr) (n0 c0 : Nat) (w : World) (h0 : Reads rowE w A0 n0 rs) (ok0 : ∀ r ∈ rs, okR 1048576 w r) :
    Calls Try.prog 5 #[.int .i64 acc, .slice A0 n0 c0, .int .i64 cl] w fun e w' => e = .returned (.bool true) ∧ Below w.heap.size w w' := by
  by_cases h : 1 ≤ acc ∧ acc ≤ 7
  · obtain ⟨n, rfl⟩ := Int.eq_ofNat_of_zero_le (show 0 ≤ acc by omega)
    exact posts_yes n cl (by omega) (by omega) rs A0 n0 c0 w h0 ok0
  · exact posts_no acc cl (by omega) A0 n0 c0 w
end Go.Proofs.Ytklcooepolmemaa
