/- The document's queue: walked. -/
import Derived.Test.YtfidhnplaieacaaW10
namespace Go.Proofs.Ytfidhnplaieacaa
open Go.RowKit Mem
theorem elem70 : Elem Try.prog 65 70 adv 48 := Elem.of Try.underlying65 (z := .agg #[.string ⟨#[]⟩, .int .i64 0, .slice none 0 0]) (by kernel_rfl) rfl
/-- The document's queue. Its rows are never written over. -/
structure QR (w : World) (g : Nat) (most : Nat) (A : Option Addr) (n c : Nat) (way : Bool) (l : List AD) : Prop where
  box : Blk w g 67 #[.int .i64 most, .slice A n c, .bool way]
  row : Own adv w 0 70 (.slice A n c) l
  ok : ∀ a ∈ l, okA w a
  one : 1 ≤ most
  few : most ≤ 16
  room : n ≤ most
  way1 : way = true → 0 < n
section
variable {w w' : World} {g most : Nat} {A : Option Addr} {n c : Nat} {way : Bool} {l : List AD}
theorem QR.keep (h : QR w g most A n c way l) (K : Keeps (fun _ => False) w w') : QR w' g most A n c way l :=
  ⟨h.box.keeps K (fun h => h), h.row.keeps K (fun _ _ h => h), fun a ha => (h.ok a ha).keeps K (fun _ _ h => h), h.one, h.few, h.room, h.way1⟩
theorem refNew_any (n : Nat) (w : World) (h1 : 1 ≤ n) (h7 : n ≤ 16) :
    Calls Try.prog 18 #[.int .i64 n] w fun e w' => ∃ g, e = .returned (.tuple #[.pointer (some ⟨g, 0, none⟩), .int .i64 0]) ∧ QR w' g n none 0 0 false [] ∧ w.heap.size ≤ g ∧ Keeps (fun _ => False) w w' := by
  have t1 : decide ((n : Int) < 1) = false := by simp; omega
  have t2 : decide ((16 : Int) < (n : Int)) = false := by simp; omega
  have t3 : decide (16 < n) = false := by simp; omega
  have t4 : decide (n < 1) = false := by simp; omega
  go_enter Try.func18, Try.ntmps18
  go_wp2_with fail
  go_ret2
  exact ⟨w.heap.size, rfl, ⟨Blk.new w 67 _ _ rfl, Own.nil _ _ _ _, by simp, h1, h7, Nat.zero_le _, by simp⟩, Nat.le_refl _, (Keeps.refl _ w).alloc _⟩
theorem refNew_no (n : Int) (w : World) (h : n < 1 ∨ 16 < n) : Calls Try.prog 18 #[.int .i64 n] w fun e w' => e = .returned (.tuple #[.pointer none, .int .i64 1]) ∧ w' = w := by
  rcases (show n < 1 ∨ (¬ n < 1 ∧ 16 < n) by omega) with h1 | ⟨h1, h2⟩
  all_goals
    clear h
    go_enter Try.func18, Try.ntmps18
    go_wp2_with fail
    go_ret2
    exact ⟨rfl, rfl⟩
set_option maxHeartbeats 1600000 in
theorem refClone_any (d : QR w g most A n c way l) : Calls Try.prog 20 #[.pointer (some ⟨g, 0, none⟩)] w fun e w' => ∃ g', e = .returned (.pointer (some ⟨g', 0, none⟩)) ∧ QR w' g' most A n c way l ∧ w.heap.size ≤ g' ∧ Keeps (fun _ => False) w w' := by
  have c0 := d.box.cell 0
  have c1 := d.box.cell 1
  have c2 := d.box.cell 2
  simp at c0 c1 c2
  have D := Lib.hid d
  clear d
  go_enter Try.func20, Try.ntmps20
  go_upto_region 1 with fail
  go_region
  go_wp2_with fail
  go_ret
  have ka : Keeps (fun _ => False) w (w.alloc (.cells #[.int .i64 most, .slice A n c, .bool way] 67)) := (Keeps.refl _ w).alloc _
  have dk := D.out.keep ka
  exact ⟨w.heap.size, rfl, ⟨Blk.new w 67 _ _ rfl, dk.row, dk.ok, dk.one, dk.few, dk.room, dk.way1⟩, Nat.le_refl _, ka.drew⟩
theorem refStop_any (d : QR w g most A n c way l) : Calls Try.prog 26 #[.pointer (some ⟨g, 0, none⟩)] w fun e w' => e = .returned (.tuple #[]) ∧ Blk w' g 67 #[.int .i64 most, .slice A n c, .bool false] ∧ Keeps (fun b => b = g) w w' := by
  have c2 := d.box.cell 2
  have f2 := d.box.frozen 2
  simp at c2
  have D := Lib.hid d
  clear d
  go_enter Try.func26, Try.ntmps26
  go_wp2_with fail
  go_end0
  exact ⟨rfl, D.out.box.set 2 _, (Keeps.refl (fun b => b = g) w).setCell _ _ (fun _ => rfl)⟩
set_option maxHeartbeats 1600000 in
theorem refAgain_no (d : QR w g most A n c false l) :
    Calls Try.prog 22 #[.pointer (some ⟨g, 0, none⟩)] w fun e w' => e = .returned (.tuple #[.string ⟨#[]⟩, .agg #[.int .i64 0, .slice none 0 0], .bool false]) ∧ Keeps (fun _ => False) w w' := by
  obtain ⟨w1, hw1⟩ : ∃ w1, w1 = w.alloc (.cells #[.int .i64 0, .slice none 0 0] 32) := ⟨_, rfl⟩
  have k1 : Keeps (fun _ => False) w w1 := by rw [hw1]; exact (Keeps.refl _ w).alloc _
  have r1 : Blk w1 w.heap.size 32 #[.int .i64 0, .slice none 0 0] := by rw [hw1]; exact Blk.new w 32 _ _ rfl
  have c2 := (d.box.keeps k1 (fun h => h)).cell 2
  have l0 := r1.cell 0
  have l1 := r1.cell 1
  have e0 := r1.frozen 0
  have e1 := r1.frozen 1
  simp at c2 l0 l1
  have R1 := Lib.hid r1
  have K1 := Lib.hid k1
  have HW1 := Lib.hid hw1
  clear d r1 k1 hw1
  go_enter Try.func22, Try.ntmps22
  go_upto_region 1 with fail
  rw [← HW1.out]
  go_wp2_with fail
  have hb3 : Blk ((w1.setCell ⟨w.heap.size, 0, none⟩ (.int .i64 0)).setCell ⟨w.heap.size, 1, none⟩ (.slice none 0 0)) w.heap.size 32 #[.int .i64 0, .slice none 0 0] := (R1.out.set 0 _).set 1 _
  (try simp only [Exit.inBlock, Exit.then])
  refine bodyPost_ret (results_three rfl _ _ w.heap.size 32 #[.int .i64 0, .slice none 0 0] (0, 0) _ rfl hb3 Try.underlying32 rfl (by kernel_rfl)) rfl ?_
  exact ⟨rfl, (K1.out.setCell _ _ (fun h => by simp at h)).setCell _ _ (fun h => by simp at h)⟩
set_option maxHeartbeats 1600000 in
theorem refAgain_yes (d : QR w g most A n c true l) {a : AD} {l' : List AD} (hl : l = a :: l') :
    Calls Try.prog 22 #[.pointer (some ⟨g, 0, none⟩)] w fun e w' => e = .returned (.tuple #[.string a.name, .agg #[.int .i64 a.ty, .slice a.A a.n a.c], .bool true]) ∧ Keeps (fun _ => False) w w' := by
  obtain ⟨w1, hw1⟩ : ∃ w1, w1 = w.alloc (.cells #[.int .i64 0, .slice none 0 0] 32) := ⟨_, rfl⟩
  have k1 : Keeps (fun _ => False) w w1 := by rw [hw1]; exact (Keeps.refl _ w).alloc _
  have r1 : Blk w1 w.heap.size 32 #[.int .i64 0, .slice none 0 0] := by rw [hw1]; exact Blk.new w 32 _ _ rfl
  have d1 := d.keep k1
  have c1 := d1.box.cell 1
  have c2 := d1.box.cell 2
  have hl0 : l[0]? = some a := by rw [hl]; rfl
  have hn0 := d.way1 rfl
  have t2 : (0 : Int) < n := by omega
  obtain ⟨b6, c6, hv6, _, hb6l, _⟩ := d1.row.form (by rw [hl]; simp)
  injection hv6 with hA6 hn6 hc6
  have hb6 : b6 < w.heap.size := d.row.lt (k := b6) (by rw [hA6]; rfl)
  subst hA6
  have q0 := d1.row.at_ hl0 (j := 0) rfl
  have q1 := d1.row.at_ hl0 (j := 1) rfl
  have q2 := d1.row.at_ hl0 (j := 2) rfl
  simp [adv] at q0 q1 q2
  have l0 := r1.cell 0
  have l1 := r1.cell 1
  have e0 := r1.frozen 0
  have e1 := r1.frozen 1
  simp at c1 c2 l0 l1
  have el := elem70
  have hgl := d.box.lt
  have R1 := Lib.hid r1
  have K1 := Lib.hid k1
  have HW1 := Lib.hid hw1
  clear d d1 r1 k1 hw1 hl0 hn6 hc6 hb6l
  go_enter Try.func22, Try.ntmps22
  go_upto_region 1 with fail
  rw [← HW1.out]
  go_upto_region 3 with fail
  go_region
  go_wp2_with fail
  have hb3 : Blk ((w1.setCell ⟨w.heap.size, 0, none⟩ (.int .i64 a.ty)).setCell ⟨w.heap.size, 1, none⟩ (.slice a.A a.n a.c)) w.heap.size 32 #[.int .i64 a.ty, .slice a.A a.n a.c] := (R1.out.set 0 _).set 1 _
  (try simp only [Exit.inBlock, Exit.then])
  refine bodyPost_ret (results_three rfl _ _ w.heap.size 32 #[.int .i64 a.ty, .slice a.A a.n a.c] (0, 0) _ rfl hb3 Try.underlying32 rfl (by kernel_rfl)) rfl ?_
  exact ⟨rfl, ((K1.out.setCell _ _ (fun h => by simp at h)).setCell _ _ (fun h => by simp at h)).drew⟩
set_option maxHeartbeats 1600000 in
theorem refSend_no (d : QR w g most A n c way l) (hno : n = 0 ∨ way = true) :
    Calls Try.prog 23 #[.pointer (some ⟨g, 0, none⟩)] w fun e w' => e = .returned (.tuple #[.string ⟨#[]⟩, .agg #[.int .i64 0, .slice none 0 0], .bool false]) ∧ Keeps (fun _ => False) w w' := by
  obtain ⟨w1, hw1⟩ : ∃ w1, w1 = w.alloc (.cells #[.int .i64 0, .slice none 0 0] 32) := ⟨_, rfl⟩
  have k1 : Keeps (fun _ => False) w w1 := by rw [hw1]; exact (Keeps.refl _ w).alloc _
  have r1 : Blk w1 w.heap.size 32 #[.int .i64 0, .slice none 0 0] := by rw [hw1]; exact Blk.new w 32 _ _ rfl
  have c1 := (d.box.keeps k1 (fun h => h)).cell 1
  have c2 := (d.box.keeps k1 (fun h => h)).cell 2
  have l0 := r1.cell 0
  have l1 := r1.cell 1
  have e0 := r1.frozen 0
  have e1 := r1.frozen 1
  simp at c1 c2 l0 l1
  have R1 := Lib.hid r1
  have K1 := Lib.hid k1
  have HW1 := Lib.hid hw1
  clear d r1 k1 hw1
  by_cases hn : n = 0
  · subst hn
    clear hno
    go_enter Try.func23, Try.ntmps23
    go_upto_region 1 with fail
    rw [← HW1.out]
    go_wp2_with fail
    have hb3 : Blk ((w1.setCell ⟨w.heap.size, 0, none⟩ (.int .i64 0)).setCell ⟨w.heap.size, 1, none⟩ (.slice none 0 0)) w.heap.size 32 #[.int .i64 0, .slice none 0 0] := (R1.out.set 0 _).set 1 _
    (try simp only [Exit.inBlock, Exit.then])
    refine bodyPost_ret (results_three rfl _ _ w.heap.size 32 #[.int .i64 0, .slice none 0 0] (0, 0) _ rfl hb3 Try.underlying32 rfl (by kernel_rfl)) rfl ?_
    exact ⟨rfl, (K1.out.setCell _ _ (fun h => by simp at h)).setCell _ _ (fun h => by simp at h)⟩
  · have t1 : ((n : Int) == 0) = false := by simp; omega
    have hw : way = true := by
      rcases hno with h | h
      · exact absurd h hn
      · exact h
    subst hw
    clear hno hn
    go_enter Try.func23, Try.ntmps23
    go_upto_region 1 with fail
    rw [← HW1.out]
    go_wp2_with fail
    have hb3 : Blk ((w1.setCell ⟨w.heap.size, 0, none⟩ (.int .i64 0)).setCell ⟨w.heap.size, 1, none⟩ (.slice none 0 0)) w.heap.size 32 #[.int .i64 0, .slice none 0 0] := (R1.out.set 0 _).set 1 _
    (try simp only [Exit.inBlock, Exit.then])
    refine bodyPost_ret (results_three rfl _ _ w.heap.size 32 #[.int .i64 0, .slice none 0 0] (0, 0) _ rfl hb3 Try.underlying32 rfl (by kernel_rfl)) rfl ?_
    exact ⟨rfl, (K1.out.setCell _ _ (fun h => by simp at h)).setCell _ _ (fun h => by simp at h)⟩
end
end Go.Proofs.Ytfidhnplaieacaa
