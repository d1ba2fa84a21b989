/- Sent, and sent again: walked. -/
import Derived.Test.YtfidhnplaieacaaW5
namespace Go.Proofs.Ytfidhnplaieacaa
open Go.RowKit Mem
section
variable {w : World} {g most : Nat} {A : Option Addr} {n c : Nat} {way : Bool} {l : List AD}
theorem QS.way_ {w' : World} {q : Nat} {cs : Array Value} {way' : Bool} (d : QS w g most A n c way l) (hX : Blk w' g 56 #[.int .i64 most, .slice A n c, .bool way']) (hq : Blk w q 32 cs) (K : Keeps (fun b => b = g ∨ b = q) w w') (hw : way' = true → 0 < n) : QS w' g most A n c way' l :=
  ⟨hX, d.row.keeps K (fun k hk hs => by
    rcases hs with rfl | rfl
    · exact d.row.blk_ne d.box (by decide) hk
    · exact d.row.blk_ne hq (by decide) hk),
   fun a ha => ⟨(d.ok a ha).1.keeps K (fun k hk hs => by
    rcases hs with rfl | rfl
    · exact (d.ok a ha).1.blk_ne d.box (by decide) hk
    · exact (d.ok a ha).1.blk_ne hq (by decide) hk), (d.ok a ha).2⟩, d.one, d.few, d.room, hw⟩
set_option maxHeartbeats 1600000 in
theorem again_no (d : QS w g most A n c false l) :
    Calls Try.prog 14 #[.pointer (some ⟨g, 0, none⟩)] w fun e w' => e = .returned (.tuple #[.string ⟨#[]⟩, .agg #[.int .i64 0, .slice none 0 0], .bool false]) ∧ Keeps (fun _ => False) w w' := by
  obtain ⟨w1, hw1⟩ : ∃ w1, w1 = w.alloc (.cells #[.int .i64 0, .slice none 0 0] 32) := ⟨_, rfl⟩
  have k1 : Keeps (fun _ => False) w w1 := by rw [hw1]; exact (Keeps.refl _ w).alloc _
  have r1 : Blk w1 w.heap.size 32 #[.int .i64 0, .slice none 0 0] := by rw [hw1]; exact Blk.new w 32 _ _ rfl
  have D1 := Lib.hid (d.keep k1)
  have R1 := Lib.hid r1
  have K1 := Lib.hid k1
  have HW1 := Lib.hid hw1
  clear d r1 k1 hw1
  go_enter Try.func14, Try.ntmps14
  go_upto_region 1 with fail
  rw [← HW1.out]
  go_wp2_with (go_at_call 31; refine (first_no D1.out true (.inr (by decide))).mono ?_
               rintro e w2 ⟨rfl, k2⟩
               have r2 := R1.out.keeps k2 (fun h => h)
               have l0 := r2.cell 0
               have l1 := r2.cell 1
               have e0 := r2.frozen 0
               have e1 := r2.frozen 1
               simp at l0 l1
               have R2 := Lib.hid r2
               have K2 := Lib.hid (K1.out.trans k2 (fun _ _ h => h))
               clear r2 k2)
  have hb3 : Blk ((w2.setCell ⟨w.heap.size, 0, none⟩ (.int .i64 0)).setCell ⟨w.heap.size, 1, none⟩ (.slice none 0 0)) w.heap.size 32 #[.int .i64 0, .slice none 0 0] := (R2.out.set 0 _).set 1 _
  (try simp only [Exit.inBlock, Exit.then])
  refine bodyPost_ret (results_three rfl _ _ w.heap.size 32 #[.int .i64 0, .slice none 0 0] (0, 0) _ rfl hb3 Try.underlying32 rfl (by kernel_rfl)) rfl ?_
  exact ⟨rfl, (K2.out.setCell _ _ (fun h => by simp at h)).setCell _ _ (fun h => by simp at h)⟩
set_option maxHeartbeats 1600000 in
theorem again_yes (d : QS w g most A n c true l) {a : AD} {l' : List AD} (hl : l = a :: l') :
    Calls Try.prog 14 #[.pointer (some ⟨g, 0, none⟩)] w fun e w' => ∃ A' c', e = .returned (.tuple #[.string a.name, .agg #[.int .i64 a.ty, .slice A' a.n c'], .bool true]) ∧ Own fld w' w.heap.size 51 (.slice A' a.n c') a.fs ∧ A' ≠ none ∧ Keeps (fun _ => False) w w' := by
  obtain ⟨w1, hw1⟩ : ∃ w1, w1 = w.alloc (.cells #[.int .i64 0, .slice none 0 0] 32) := ⟨_, rfl⟩
  have k1 : Keeps (fun _ => False) w w1 := by rw [hw1]; exact (Keeps.refl _ w).alloc _
  have r1 : Blk w1 w.heap.size 32 #[.int .i64 0, .slice none 0 0] := by rw [hw1]; exact Blk.new w 32 _ _ rfl
  have D1 := Lib.hid (d.keep k1)
  have R1 := Lib.hid r1
  have hsz : w1.heap.size = w.heap.size + 1 := by rw [hw1]; simp
  have K1 := Lib.hid k1
  have HW1 := Lib.hid hw1
  clear d r1 k1 hw1
  go_enter Try.func14, Try.ntmps14
  go_upto_region 1 with fail
  rw [← HW1.out]
  go_wp2_with (go_at_call 31; refine (first_yes D1.out hl).mono ?_
               rintro e w2 ⟨A', c', rfl, o2, hA2, k2⟩
               have r2 := R1.out.keeps k2 (fun h => h)
               have l0 := r2.cell 0
               have l1 := r2.cell 1
               have e0 := r2.frozen 0
               have e1 := r2.frozen 1
               simp at l0 l1
               have O2 := Lib.hid o2
               have R2 := Lib.hid r2
               have K2 := Lib.hid (K1.out.trans k2 (fun _ _ h => h))
               clear r2 k2 o2)
  have hb3 : Blk ((w2.setCell ⟨w.heap.size, 0, none⟩ (.int .i64 a.ty)).setCell ⟨w.heap.size, 1, none⟩ (.slice A' a.n c')) w.heap.size 32 #[.int .i64 a.ty, .slice A' a.n c'] := (R2.out.set 0 _).set 1 _
  (try simp only [Exit.inBlock, Exit.then])
  refine bodyPost_ret (results_three rfl _ _ w.heap.size 32 #[.int .i64 a.ty, .slice A' a.n c'] (0, 0) _ rfl hb3 Try.underlying32 rfl (by kernel_rfl)) rfl ?_
  have hlt : ∀ q, (Value.slice A' a.n c').ownBlock = some q → w.heap.size + 1 ≤ q := fun q hq => by have h1 := O2.out.base_le hq; omega
  refine ⟨A', c', rfl, ?_, hA2, (K2.out.setCell _ _ (fun h => by simp at h)).setCell _ _ (fun h => by simp at h)⟩
  exact ((O2.out.setCell _ _ (fun q hq e => by have := hlt q hq; simp at e; omega)).setCell _ _ (fun q hq e => by have := hlt q hq; simp at e; omega)).rebase _ (fun q hq => by have := hlt q hq; omega)
set_option maxHeartbeats 1600000 in
theorem send_no (d : QS w g most A n c way l) (hno : n = 0 ∨ way = true) :
    Calls Try.prog 11 #[.pointer (some ⟨g, 0, none⟩)] w fun e w' => e = .returned (.tuple #[.string ⟨#[]⟩, .agg #[.int .i64 0, .slice none 0 0], .bool false]) ∧ QS w' g most A n c way l ∧ Keeps (fun b => b = g) w w' := by
  obtain ⟨w1, hw1⟩ : ∃ w1, w1 = w.alloc (.cells #[.int .i64 0, .slice none 0 0] 32) := ⟨_, rfl⟩
  have k1 : Keeps (fun _ => False) w w1 := by rw [hw1]; exact (Keeps.refl _ w).alloc _
  have r1 : Blk w1 w.heap.size 32 #[.int .i64 0, .slice none 0 0] := by rw [hw1]; exact Blk.new w 32 _ _ rfl
  have hgl := d.box.lt
  have hsz : w1.heap.size = w.heap.size + 1 := by rw [hw1]; simp
  have hno2 : n = 0 ∨ way ≠ false := by
    rcases hno with h | h
    · exact .inl h
    · exact .inr (by rw [h]; decide)
  have HN := Lib.hid hno2
  have D0 := Lib.hid d
  have D1 := Lib.hid (d.keep k1)
  have R1 := Lib.hid r1
  have K1 := Lib.hid k1
  have HW1 := Lib.hid hw1
  clear d r1 k1 hw1 hno hno2
  go_enter Try.func11, Try.ntmps11
  go_upto_region 1 with fail
  rw [← HW1.out]
  go_upto_region 2 with (
    go_at_call 31; refine (first_no D1.out false HN.out).mono ?_
    rintro e w2 ⟨rfl, k2⟩
    have r2 := R1.out.keeps k2 (fun h => h)
    have hs2 := k2.size
    have l0 := r2.cell 0
    have R2 := Lib.hid r2
    have D2 := Lib.hid (D1.out.keep k2)
    have K2 := Lib.hid (K1.out.trans k2 (fun _ _ h => h))
    clear r2 k2 l0)
  obtain ⟨w3, hw3⟩ : ∃ w3, w3 = w2.alloc (.cells #[.int .i64 0, .slice none 0 0] 32) := ⟨_, rfl⟩
  rw [← hw3]
  have b3 : Blk w3 w2.heap.size 32 #[.int .i64 0, .slice none 0 0] := by rw [hw3]; exact Blk.new w2 32 _ _ rfl
  have k3 : Keeps (fun _ => False) w2 w3 := by rw [hw3]; exact (Keeps.refl _ w2).alloc _
  have d3 := D2.out.keep k3
  have r3 := R2.out.keeps k3 (fun h => h)
  have y2 := d3.box.cell 2
  have y3 := d3.box.frozen 2
  simp at y2
  have hz2 : w.heap.size < w2.heap.size := by have := R2.out.lt; omega
  have B3 := Lib.hid b3
  have K3 := Lib.hid (K2.out.trans k3 (fun _ _ h => h))
  have D3 := Lib.hid d3
  have R3 := Lib.hid r3
  clear b3 d3 r3 hw3
  cases way with
  | false =>
    go_upto_region 3 with fail
    obtain ⟨w4, hw4⟩ : ∃ w4, w4 = w3.setCell ⟨g, 2, none⟩ (.bool false) := ⟨_, rfl⟩
    rw [← hw4]
    have k4 : Keeps (fun b => b = g) w3 w4 := by rw [hw4]; exact (Keeps.refl _ w3).setCell _ _ (fun _ => rfl)
    have b4 := B3.out.keeps k4 (fun e => by omega)
    have r4 := R3.out.keeps k4 (fun e => by omega)
    have x4 : Blk w4 g 56 #[.int .i64 most, .slice A n c, .bool false] := by rw [hw4]; exact D3.out.box.set 2 _
    have p0 := b4.cell 0
    have p1 := b4.cell 1
    have l0 := r4.cell 0
    have l1 := r4.cell 1
    have e0 := r4.frozen 0
    have e1 := r4.frozen 1
    simp at p0 p1 l0 l1
    have R4 := Lib.hid r4
    have X4 := Lib.hid x4
    have K4 := Lib.hid k4
    clear b4 r4 x4 k4 hw4
    go_region
    go_wp2_with fail
    have hb3 : Blk ((w4.setCell ⟨w.heap.size, 0, none⟩ (.int .i64 0)).setCell ⟨w.heap.size, 1, none⟩ (.slice none 0 0)) w.heap.size 32 #[.int .i64 0, .slice none 0 0] := (R4.out.set 0 _).set 1 _
    (try simp only [Exit.inBlock, Exit.then])
    refine bodyPost_ret (results_three rfl _ _ w.heap.size 32 #[.int .i64 0, .slice none 0 0] (0, 0) _ rfl hb3 Try.underlying32 rfl (by kernel_rfl)) rfl ?_
    have k45 : Keeps (fun b => b = w.heap.size) w4 ((w4.setCell ⟨w.heap.size, 0, none⟩ (.int .i64 0)).setCell ⟨w.heap.size, 1, none⟩ (.slice none 0 0)).drew := (((Keeps.refl (fun b => b = w.heap.size) w4).setCell _ _ (fun _ => rfl)).setCell _ _ (fun _ => rfl)).drew
    have kw4 : Keeps (fun b => b = g) w w4 := (K3.out.mono (fun _ _ h => h.elim)).trans K4.out (fun _ _ h => h)
    have kw5 : Keeps (fun b => b = g) w ((w4.setCell ⟨w.heap.size, 0, none⟩ (.int .i64 0)).setCell ⟨w.heap.size, 1, none⟩ (.slice none 0 0)).drew := kw4.trans k45 (fun b hb e => by omega)
    have k35 : Keeps (fun b => b = g ∨ b = w.heap.size) w3 ((w4.setCell ⟨w.heap.size, 0, none⟩ (.int .i64 0)).setCell ⟨w.heap.size, 1, none⟩ (.slice none 0 0)).drew := (K4.out.mono (fun _ _ h => .inl h)).trans k45 (fun b _ e => .inr e)
    exact ⟨rfl, D3.out.way_ (X4.out.keeps k45 (fun e => by omega)) R3.out k35 (fun h => by cases h), kw5⟩
  | true =>
    go_upto_region 3 with fail
    obtain ⟨w4, hw4⟩ : ∃ w4, w4 = w3.setCell ⟨g, 2, none⟩ (.bool true) := ⟨_, rfl⟩
    rw [← hw4]
    have k4 : Keeps (fun b => b = g) w3 w4 := by rw [hw4]; exact (Keeps.refl _ w3).setCell _ _ (fun _ => rfl)
    have b4 := B3.out.keeps k4 (fun e => by omega)
    have r4 := R3.out.keeps k4 (fun e => by omega)
    have x4 : Blk w4 g 56 #[.int .i64 most, .slice A n c, .bool true] := by rw [hw4]; exact D3.out.box.set 2 _
    have p0 := b4.cell 0
    have p1 := b4.cell 1
    have l0 := r4.cell 0
    have l1 := r4.cell 1
    have e0 := r4.frozen 0
    have e1 := r4.frozen 1
    simp at p0 p1 l0 l1
    have R4 := Lib.hid r4
    have X4 := Lib.hid x4
    have K4 := Lib.hid k4
    clear b4 r4 x4 k4 hw4
    go_region
    go_wp2_with fail
    have hb3 : Blk ((w4.setCell ⟨w.heap.size, 0, none⟩ (.int .i64 0)).setCell ⟨w.heap.size, 1, none⟩ (.slice none 0 0)) w.heap.size 32 #[.int .i64 0, .slice none 0 0] := (R4.out.set 0 _).set 1 _
    (try simp only [Exit.inBlock, Exit.then])
    refine bodyPost_ret (results_three rfl _ _ w.heap.size 32 #[.int .i64 0, .slice none 0 0] (0, 0) _ rfl hb3 Try.underlying32 rfl (by kernel_rfl)) rfl ?_
    have k45 : Keeps (fun b => b = w.heap.size) w4 ((w4.setCell ⟨w.heap.size, 0, none⟩ (.int .i64 0)).setCell ⟨w.heap.size, 1, none⟩ (.slice none 0 0)).drew := (((Keeps.refl (fun b => b = w.heap.size) w4).setCell _ _ (fun _ => rfl)).setCell _ _ (fun _ => rfl)).drew
    have kw4 : Keeps (fun b => b = g) w w4 := (K3.out.mono (fun _ _ h => h.elim)).trans K4.out (fun _ _ h => h)
    have kw5 : Keeps (fun b => b = g) w ((w4.setCell ⟨w.heap.size, 0, none⟩ (.int .i64 0)).setCell ⟨w.heap.size, 1, none⟩ (.slice none 0 0)).drew := kw4.trans k45 (fun b hb e => by omega)
    have k35 : Keeps (fun b => b = g ∨ b = w.heap.size) w3 ((w4.setCell ⟨w.heap.size, 0, none⟩ (.int .i64 0)).setCell ⟨w.heap.size, 1, none⟩ (.slice none 0 0)).drew := (K4.out.mono (fun _ _ h => .inl h)).trans k45 (fun b _ e => .inr e)
    exact ⟨rfl, D3.out.way_ (X4.out.keeps k45 (fun e => by omega)) R3.out k35 (fun _ => D0.out.way1 rfl), kw5⟩
set_option maxHeartbeats 1600000 in
theorem send_yes (d : QS w g most A n c false l) {a : AD} {l' : List AD} (hl : l = a :: l') :
    Calls Try.prog 11 #[.pointer (some ⟨g, 0, none⟩)] w fun e w' => ∃ A' c', e = .returned (.tuple #[.string a.name, .agg #[.int .i64 a.ty, .slice A' a.n c'], .bool true]) ∧ Own fld w' w.heap.size 51 (.slice A' a.n c') a.fs ∧ A' ≠ none ∧ QS w' g most A n c true l ∧ Keeps (fun b => b = g) w w' := by
  obtain ⟨w1, hw1⟩ : ∃ w1, w1 = w.alloc (.cells #[.int .i64 0, .slice none 0 0] 32) := ⟨_, rfl⟩
  have k1 : Keeps (fun _ => False) w w1 := by rw [hw1]; exact (Keeps.refl _ w).alloc _
  have r1 : Blk w1 w.heap.size 32 #[.int .i64 0, .slice none 0 0] := by rw [hw1]; exact Blk.new w 32 _ _ rfl
  have hgl := d.box.lt
  have hsz : w1.heap.size = w.heap.size + 1 := by rw [hw1]; simp
  have hn0 : 0 < n := by rw [← d.len, hl]; simp
  have D0 := Lib.hid d
  have D1 := Lib.hid (d.keep k1)
  have R1 := Lib.hid r1
  have K1 := Lib.hid k1
  have HW1 := Lib.hid hw1
  clear d r1 k1 hw1
  go_enter Try.func11, Try.ntmps11
  go_upto_region 1 with fail
  rw [← HW1.out]
  go_upto_region 2 with (
    go_at_call 31; refine (first_yes D1.out hl).mono ?_
    rintro e w2 ⟨A', c', rfl, o2, hA2, k2⟩
    have O2 := Lib.hid o2
    have r2 := R1.out.keeps k2 (fun h => h)
    have hs2 := k2.size
    have l0 := r2.cell 0
    have R2 := Lib.hid r2
    have D2 := Lib.hid (D1.out.keep k2)
    have K2 := Lib.hid (K1.out.trans k2 (fun _ _ h => h))
    clear r2 k2 l0 o2)
  obtain ⟨w3, hw3⟩ : ∃ w3, w3 = w2.alloc (.cells #[.int .i64 a.ty, .slice A' a.n c'] 32) := ⟨_, rfl⟩
  rw [← hw3]
  have b3 : Blk w3 w2.heap.size 32 #[.int .i64 a.ty, .slice A' a.n c'] := by rw [hw3]; exact Blk.new w2 32 _ _ rfl
  have k3 : Keeps (fun _ => False) w2 w3 := by rw [hw3]; exact (Keeps.refl _ w2).alloc _
  have d3 := D2.out.keep k3
  have r3 := R2.out.keeps k3 (fun h => h)
  have y2 := d3.box.cell 2
  have y3 := d3.box.frozen 2
  simp at y2
  have hz2 : w.heap.size < w2.heap.size := by have := R2.out.lt; omega
  have B3 := Lib.hid b3
  have O3 := Lib.hid (O2.out.keeps k3 (fun _ _ h => h))
  have K3 := Lib.hid (K2.out.trans k3 (fun _ _ h => h))
  have D3 := Lib.hid d3
  have R3 := Lib.hid r3
  clear b3 d3 r3 hw3
  go_upto_region 3 with fail
  obtain ⟨w4, hw4⟩ : ∃ w4, w4 = w3.setCell ⟨g, 2, none⟩ (.bool true) := ⟨_, rfl⟩
  rw [← hw4]
  have k4 : Keeps (fun b => b = g) w3 w4 := by rw [hw4]; exact (Keeps.refl _ w3).setCell _ _ (fun _ => rfl)
  have b4 := B3.out.keeps k4 (fun e => by omega)
  have r4 := R3.out.keeps k4 (fun e => by omega)
  have x4 : Blk w4 g 56 #[.int .i64 most, .slice A n c, .bool true] := by rw [hw4]; exact D3.out.box.set 2 _
  have p0 := b4.cell 0
  have p1 := b4.cell 1
  have l0 := r4.cell 0
  have l1 := r4.cell 1
  have e0 := r4.frozen 0
  have e1 := r4.frozen 1
  simp at p0 p1 l0 l1
  have R4 := Lib.hid r4
  have X4 := Lib.hid x4
  have K4 := Lib.hid k4
  clear b4 r4 x4 k4 hw4
  go_region
  go_wp2_with fail
  have hb3 : Blk ((w4.setCell ⟨w.heap.size, 0, none⟩ (.int .i64 a.ty)).setCell ⟨w.heap.size, 1, none⟩ (.slice A' a.n c')) w.heap.size 32 #[.int .i64 a.ty, .slice A' a.n c'] := (R4.out.set 0 _).set 1 _
  (try simp only [Exit.inBlock, Exit.then])
  refine bodyPost_ret (results_three rfl _ _ w.heap.size 32 #[.int .i64 a.ty, .slice A' a.n c'] (0, 0) _ rfl hb3 Try.underlying32 rfl (by kernel_rfl)) rfl ?_
  have k45 : Keeps (fun b => b = w.heap.size) w4 ((w4.setCell ⟨w.heap.size, 0, none⟩ (.int .i64 a.ty)).setCell ⟨w.heap.size, 1, none⟩ (.slice A' a.n c')).drew := (((Keeps.refl (fun b => b = w.heap.size) w4).setCell _ _ (fun _ => rfl)).setCell _ _ (fun _ => rfl)).drew
  have kw4 : Keeps (fun b => b = g) w w4 := (K3.out.mono (fun _ _ h => h.elim)).trans K4.out (fun _ _ h => h)
  have kw5 : Keeps (fun b => b = g) w ((w4.setCell ⟨w.heap.size, 0, none⟩ (.int .i64 a.ty)).setCell ⟨w.heap.size, 1, none⟩ (.slice A' a.n c')).drew := kw4.trans k45 (fun b hb e => by omega)
  have k35 : Keeps (fun b => b = g ∨ b = w.heap.size) w3 ((w4.setCell ⟨w.heap.size, 0, none⟩ (.int .i64 a.ty)).setCell ⟨w.heap.size, 1, none⟩ (.slice A' a.n c')).drew := (K4.out.mono (fun _ _ h => .inl h)).trans k45 (fun b _ e => .inr e)
  refine ⟨A', c', rfl, ?_, hA2, D3.out.way_ (X4.out.keeps k45 (fun e => by omega)) R3.out k35 (fun _ => hn0), kw5⟩
  have hlt : ∀ q, (Value.slice A' a.n c').ownBlock = some q → w.heap.size + 1 ≤ q := fun q hq => by have h1 := O3.out.base_le hq; omega
  exact (O3.out.keeps k35 (fun q hq e => by have := hlt q hq; omega)).rebase _ (fun q hq => by have := hlt q hq; omega)
end
end Go.Proofs.Ytfidhnplaieacaa
