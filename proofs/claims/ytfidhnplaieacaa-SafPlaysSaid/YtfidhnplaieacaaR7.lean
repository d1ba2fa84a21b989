/- A queue is as the document's: walked. -/
import Derived.Test.YtfidhnplaieacaaR4
namespace Go.Proofs.Ytfidhnplaieacaa
open Go.RowKit Mem
section
variable {w w' : World} {g most : Nat} {A : Option Addr} {n c : Nat} {way : Bool} {l : List AD}
theorem room_q (d : QS w g most A n c way l) : Calls Try.prog 16 #[.pointer (some ⟨g, 0, none⟩)] w fun e w' => e = .returned (.int .i64 ((most : Int) - n)) ∧ ∃ m, w' = w.drewN m := by
  have c0 := d.box.cell 0
  have c1 := d.box.cell 1
  simp at c0 c1
  have h1 := d.few
  have h2 := d.room
  have hw : IntKind.i64.wrap ((most : Int) - n) = (most : Int) - n := IntWalk.i64_in _ (by omega)
  clear d
  go_enter Try.func16, Try.ntmps16
  go_wp2_with fail
  go_quiet (fail)
  go_wp2_with fail
  go_ret
  exact ⟨rfl, _, rfl⟩
end
/-- A row of names, the first k of them spoilt. -/
def spoilt (k : Nat) (L L0 : List ByteArray) : Prop := L.length = L0.length ∧ ∀ j, k ≤ j → L[j]? = L0[j]?
theorem spoilt.set {k : Nat} {L L0 : List ByteArray} (h : spoilt k L L0) (s : ByteArray) : spoilt (k + 1) (L.set k s) L0 := by
  refine ⟨by rw [List.length_set]; exact h.1, fun j hj => ?_⟩
  rw [List.getElem?_set_ne (by omega)]
  exact h.2 j (by omega)
set_option maxHeartbeats 3200000 in
theorem like_any {w : World} {g most : Nat} {A : Option Addr} {n c : Nat} {way : Bool} {l : List AD} {g' : Nat} {A' : Option Addr} {c' : Nat} {way' : Bool} {m : List AD}
    (d : QS w g most A n c way l) (d' : QR w g' most A' n c' way' m) (hm : l.map AD.name = m.map AD.name) :
    Calls Try.prog 27 #[.pointer (some ⟨g, 0, none⟩), .pointer (some ⟨g', 0, none⟩)] w fun e w' => e = .returned (.bool true) ∧ Keeps (fun _ => False) w w' := by
  have hfew := d.few
  have hroom := d.room
  have hll : (l.map AD.name).length = n := by rw [List.length_map]; exact d.len
  have hsub : IntKind.i64.wrap ((most : Int) - n) = (most : Int) - n := IntWalk.i64_in _ (by omega)
  have D := Lib.hid d
  have E := Lib.hid d'
  have HM := Lib.hid hm
  have HL := Lib.hid hll
  clear d d' hm hll
  go_enter Try.func27, Try.ntmps27
  go_upto_region 3 with (first
    | (go_at_call 34; refine (refNames_any E2.out).mono ?_
       rintro e w3 ⟨A3, c3, rfl, o3, k3⟩
       have D3 := Lib.hid (D2.out.keep k3)
       have E3 := Lib.hid (E2.out.keep k3)
       have hz3 := k3.size
       have O3 := Lib.hid o3
       have P3 := Lib.hid (O2.out.keeps k3 (fun _ _ h => h))
       have K3 := Lib.hid (K2.out.trans k3 (fun _ _ h => h))
       clear o3 k3)
    | (go_at_call 17; refine (names_any D.out).mono ?_
       rintro e w2 ⟨A2, c2, rfl, o2, k2⟩
       have hz2 := k2.size
       have D2 := Lib.hid (D.out.keep k2)
       have E2 := Lib.hid (E.out.keep k2)
       have O2 := Lib.hid o2
       have K2 := Lib.hid k2
       clear o2 k2))
  have e0 := E3.out.box.cell 0
  simp at e0
  go_quiet (first
    | (go_at_call 10; exact Calls.quiet_of_same (len_any (D3.out.keep ((Keeps.refl _ _).drewN _))))
    | (go_at_call 16; exact Calls.quiet_of (room_q (D3.out.keep ((Keeps.refl _ _).drewN _)))))
  have lw3 : (l.map AD.name).length = n := HL.out
  go_upto_region 5 with fail
  go_wp2_with fail
  go_loopw [7] (fun v wr => ∃ (k : Nat) (L : List ByteArray), k ≤ n ∧ v = .int .i64 k ∧ Own strE wr w.heap.size 9 (.slice A2 n c2) L ∧ spoilt k L (l.map AD.name) ∧ Keeps (fun b => (Value.slice A2 n c2).ownBlock = some b) w3 wr) (fun v _ => n - (intOf v).toNat)
  case atStart => exact ⟨0, _, Nat.zero_le _, rfl, P3.out.drewN _, ⟨rfl, fun _ _ => rfl⟩, (Keeps.refl _ w3).drewN _⟩
  case round =>
    obtain ⟨k, L, hk, rfl, ho, hs, kk⟩ := hrel
    have KK := Lib.hid kk
    have HO := Lib.hid ho
    have HS := Lib.hid hs
    have hLn : L.length = n := hs.1.trans HL.out
    by_cases hkn : k < n
    · obtain ⟨x, hx⟩ : ∃ x, (l.map AD.name)[k]? = some x := ⟨_, List.getElem?_eq_getElem (by rw [HL.out]; exact hkn)⟩
      have hx1 : L[k]? = some x := (hs.2 k (Nat.le_refl _)).trans hx
      have hx2 : (m.map AD.name)[k]? = some x := by rw [← HM.out]; exact hx
      obtain ⟨b2, _, hv2, _⟩ := ho.form (by rw [hLn]; omega)
      injection hv2 with hA2 hn2 hc2
      subst hA2
      have hb2 : b2 < w2.heap.size := O2.out.lt rfl
      obtain ⟨b3, _, hv3, hb3, _⟩ := O3.out.form (by rw [← HM.out, HL.out]; omega)
      injection hv3 with hA3 hn3 hc3
      subst hA3
      have ho3 : Own strE wr w2.heap.size 9 (.slice (some ⟨b3, 0, none⟩) n c3) (m.map AD.name) := O3.out.keeps kk (fun q hq e => by
        have := O3.out.base_le hq
        simp [Value.ownBlock] at e hq
        omega)
      have q1 := ho.at_ hx1 (j := 0) rfl
      have q3 := ho3.at_ hx2 (j := 0) rfl
      have f1 := ho.frozen k
      simp [strE] at q1 q3
      have HX := Lib.hid hx1
      clear kk ho hs ho3 hx hx1 hx2 hn2 hc2 hn3 hc3
      go_wp2_with fail
      go_quiet (fail)
      go_wp2_with fail
      refine ⟨⟨k + 1, L.set k ⟨#[115, 112, 111, 105, 108, 116]⟩, by omega, by go_num, ?_, HS.out.set _, ?_⟩, by simp [intOf]; omega⟩
      · have := HO.out.store (j := 0) (u := .string ⟨#[115, 112, 111, 105, 108, 116]⟩) (y := ⟨#[115, 112, 111, 105, 108, 116]⟩) HX.out (by decide) rfl
        have e : k * strE.size + 0 = k := by show k * 1 + 0 = k; omega
        rw [e] at this
        exact this.drewN _
      · exact (KK.out.drewN _).setCell _ _ (fun _ => rfl)
    · clear ho hs kk
      go_wp2_with fail
      go_ret
      exact ⟨rfl, K3.out.trans KK.out (fun q hq e => by have := O2.out.base_le e; omega)⟩
end Go.Proofs.Ytfidhnplaieacaa
