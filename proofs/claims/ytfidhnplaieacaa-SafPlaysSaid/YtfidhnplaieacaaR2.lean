/- The document's queue: sent, done: walked. -/
import Derived.Test.YtfidhnplaieacaaR1
namespace Go.Proofs.Ytfidhnplaieacaa
open Go.RowKit Mem
section
variable {w w' : World} {g most : Nat} {A : Option Addr} {n c : Nat} {way : Bool} {l : List AD}
set_option maxHeartbeats 1600000 in
theorem refSend_yes (d : QR w g most A n c false l) {a : AD} {l' : List AD} (hl : l = a :: l') :
    Calls Try.prog 23 #[.pointer (some ⟨g, 0, none⟩)] w fun e w' => e = .returned (.tuple #[.string a.name, .agg #[.int .i64 a.ty, .slice a.A a.n a.c], .bool true]) ∧ Blk w' g 67 #[.int .i64 most, .slice A n c, .bool true] ∧ Keeps (fun b => b = g) w w' := by
  obtain ⟨w1, hw1⟩ : ∃ w1, w1 = w.alloc (.cells #[.int .i64 0, .slice none 0 0] 32) := ⟨_, rfl⟩
  have k1 : Keeps (fun _ => False) w w1 := by rw [hw1]; exact (Keeps.refl _ w).alloc _
  have r1 : Blk w1 w.heap.size 32 #[.int .i64 0, .slice none 0 0] := by rw [hw1]; exact Blk.new w 32 _ _ rfl
  have d1 := d.keep k1
  have hgl := d.box.lt
  have hn0 : 0 < n := by rw [← d.row.len_eq rfl, hl]; simp
  have t1 : ((n : Int) == 0) = false := by simp; omega
  have t2 : (0 : Int) < n := by omega
  have c1 := d1.box.cell 1
  have c2 := d1.box.cell 2
  have f2 := d1.box.frozen 2
  simp at c1 c2
  have hl0 : l[0]? = some a := by rw [hl]; rfl
  obtain ⟨b6, c6, hv6, _, hb6l, _⟩ := d1.row.form (by rw [hl]; simp)
  injection hv6 with hA6 hn6 hc6
  have hb6 : b6 < w.heap.size := d.row.lt (k := b6) (by rw [hA6]; rfl)
  subst hA6
  have hne : g ≠ b6 := fun e => by subst e; exact d.row.blk_ne d.box (by decide) rfl
  have D1 := Lib.hid d1
  have HL0 := Lib.hid hl0
  have R1 := Lib.hid r1
  have K1 := Lib.hid k1
  have HW1 := Lib.hid hw1
  have el := elem70
  clear d d1 r1 k1 hw1 hl0 hl hn6 hc6 hb6l
  go_enter Try.func23, Try.ntmps23
  go_upto_region 1 with fail
  rw [← HW1.out]
  go_upto_region 4 with fail
  obtain ⟨w3, hw3⟩ : ∃ w3, w3 = w1.setCell ⟨g, 2, none⟩ (.bool true) := ⟨_, rfl⟩
  rw [← hw3]
  have k3 : Keeps (fun b => b = g) w1 w3 := by rw [hw3]; exact (Keeps.refl _ w1).setCell _ _ (fun _ => rfl)
  have b3 : Blk w3 g 67 #[.int .i64 most, .slice (some ⟨b6, 0, none⟩) n c, .bool true] := by rw [hw3]; exact D1.out.box.set 2 _
  have r3 := R1.out.keeps k3 (fun e => by omega)
  have row3 := D1.out.row.keeps k3 (fun q hq e => by rw [e] at hq; exact D1.out.row.blk_ne D1.out.box (by decide) hq)
  have q0 := row3.at_ HL0.out (j := 0) rfl
  have q1 := row3.at_ HL0.out (j := 1) rfl
  have q2 := row3.at_ HL0.out (j := 2) rfl
  have g1 := b3.cell 1
  have l0 := r3.cell 0
  have l1 := r3.cell 1
  have e0 := r3.frozen 0
  have e1 := r3.frozen 1
  simp [adv] at q0 q1 q2
  simp at g1 l0 l1
  have K3 := Lib.hid ((K1.out.mono (S' := fun b => b = g) (fun _ _ h => h.elim)).trans k3 (fun _ _ h => h))
  have B3 := Lib.hid b3
  have R3 := Lib.hid r3
  clear k3 b3 r3 row3 hw3
  go_region
  go_wp2_with fail
  have hb3 : Blk ((w3.setCell ⟨w.heap.size, 0, none⟩ (.int .i64 a.ty)).setCell ⟨w.heap.size, 1, none⟩ (.slice a.A a.n a.c)) w.heap.size 32 #[.int .i64 a.ty, .slice a.A a.n a.c] := (R3.out.set 0 _).set 1 _
  (try simp only [Exit.inBlock, Exit.then])
  refine bodyPost_ret (results_three rfl _ _ w.heap.size 32 #[.int .i64 a.ty, .slice a.A a.n a.c] (0, 0) _ rfl hb3 Try.underlying32 rfl (by kernel_rfl)) rfl ?_
  have kz : Keeps (fun b => b = w.heap.size) w3 ((w3.setCell ⟨w.heap.size, 0, none⟩ (.int .i64 a.ty)).setCell ⟨w.heap.size, 1, none⟩ (.slice a.A a.n a.c)).drew := (((Keeps.refl (fun b => b = w.heap.size) w3).setCell _ _ (fun _ => rfl)).setCell _ _ (fun _ => rfl)).drew
  exact ⟨rfl, B3.out.keeps kz (fun e => by omega), K3.out.trans kz (fun b hb e => by omega)⟩
set_option maxHeartbeats 1600000 in
theorem refDone_off (d : QR w g most A n c false l) (s : ByteArray) :
    Calls Try.prog 25 #[.pointer (some ⟨g, 0, none⟩), .string s] w fun e w' => e = .returned (.bool false) ∧ w' = w := by
  have c2 := d.box.cell 2
  simp at c2
  clear d
  go_enter Try.func25, Try.ntmps25
  go_wp2_with fail
  go_ret
  exact ⟨rfl, rfl⟩
set_option maxHeartbeats 1600000 in
theorem refDone_not (d : QR w g most A n c true l) {a : AD} {l' : List AD} (hl : l = a :: l') (s : ByteArray) (hs : (a.name.toList == s.toList) = false) :
    Calls Try.prog 25 #[.pointer (some ⟨g, 0, none⟩), .string s] w fun e w' => e = .returned (.bool false) ∧ w' = w := by
  have c1 := d.box.cell 1
  have c2 := d.box.cell 2
  have hl0 : l[0]? = some a := by rw [hl]; rfl
  obtain ⟨b6, c6, hv6, _, hb6l, _⟩ := d.row.form (by rw [hl]; simp)
  injection hv6 with hA6 hn6 hc6
  have hn0 : 0 < n := by rw [hn6, hl]; simp
  subst hA6
  have t2 : (0 : Int) < n := by omega
  have q0 := d.row.at_ hl0 (j := 0) rfl
  simp [adv] at c1 c2 q0
  have el := elem70
  clear d hl0 hl hb6l hn6 hc6
  go_enter Try.func25, Try.ntmps25
  go_wp2_with fail
  go_ret
  exact ⟨rfl, rfl⟩
end
end Go.Proofs.Ytfidhnplaieacaa
