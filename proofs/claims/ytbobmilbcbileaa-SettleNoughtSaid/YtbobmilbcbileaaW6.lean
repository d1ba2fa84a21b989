/- A new row of totals, its open book, its day; two books alike: walked. -/
import Derived.Test.YtbobmilbcbileaaW5
namespace Go.Proofs.Ytbobmilbcbileaa
open Go.RowKit Mem
theorem zeros_isT (n : Nat) : ∀ t ∈ zeros n, isT t := by
  intro t ht
  unfold zeros at ht
  obtain ⟨i, _, rfl⟩ := List.mem_map.1 ht
  exact ⟨by show isInt 0; decide, by show isInt 0; decide⟩
set_option maxHeartbeats 1600000 in
theorem new_any (n : Nat) (w : World) (h1 : 1 ≤ n) (h7 : n ≤ 7) :
    Calls Try.prog 8 #[.int .i64 n] w fun e w' => ∃ g A c, e = .returned (.tuple #[.pointer (some ⟨g, 0, none⟩), .int .i64 0]) ∧ S5 w' g 1 A n c 0 none 0 0 false (zeros n) [] ∧ w.heap.size ≤ g ∧ Keeps (fun _ => False) w w' := by
  have t1 : decide ((n : Int) < 1) = false := by simp; omega
  have t2 : decide ((7 : Int) < (n : Int)) = false := by simp; omega
  have t3 : decide (7 < n) = false := by simp; omega
  have t4 : decide (n < 1) = false := by simp; omega
  go_enter Try.func8, Try.ntmps8
  go_wp2_with (go_at_call 23; refine (begin_any 1 n w h7).mono ?_
               rintro e w3 ⟨A, c, rfl, o3, k3⟩
               have O3 := Lib.hid o3
               have K3 := Lib.hid k3
               clear o3 k3)
  go_ret2
  have hz := K3.out.size
  exact ⟨w3.heap.size, A, c, rfl, ⟨Blk.new w3 64 _ _ rfl, (O3.out.alloc _).rebase 0 (fun _ _ => Nat.zero_le _), Own.nil _ _ _ _, zeros_isT n, h7, by omega⟩, hz, K3.out.alloc _⟩
theorem today_any {w : World} {g : Nat} {no : Int} {A : Option Addr} {n c : Nat} {no2 : Int} {A2 : Option Addr} {n2 c2 : Nat} {cl : Bool} {T T2 : List T6} (d : S5 w g no A n c no2 A2 n2 c2 cl T T2) :
    Calls Try.prog 15 #[.pointer (some ⟨g, 0, none⟩)] w fun e w' => e = .returned (.int .i64 no) ∧ w' = w := by
  have c0 := d.box.cell 0
  simp at c0
  clear d
  go_enter Try.func15, Try.ntmps15
  go_wp2_with fail
  go_ret
  exact ⟨rfl, rfl⟩
theorem field61 (x y : Value) (W : World) : (Instr.field 61 (.agg #[x, y]) 0).run Try.prog W = .ok (.agg #[x, y]) W := by kernel_rfl
set_option maxHeartbeats 1600000 in
theorem open_any {w : World} {g : Nat} {no : Int} {A : Option Addr} {n c : Nat} {no2 : Int} {A2 : Option Addr} {n2 c2 : Nat} {cl : Bool} {T T2 : List T6} (d : S5 w g no A n c no2 A2 n2 c2 cl T T2) :
    Calls Try.prog 13 #[.pointer (some ⟨g, 0, none⟩)] w fun e w' => ∃ A' c', e = .returned (.agg #[.int .i64 no, .slice A' n c']) ∧ Own total w' w.heap.size 41 (.slice A' n c') T ∧ Keeps (fun _ => False) w w' := by
  have D := Lib.hid d
  have hw1 := d.keep ((Keeps.refl (fun _ => False) w).alloc (.cells #[.int .i64 0, .slice none 0 0] 38))
  have c0 := hw1.box.cell 0
  have c1 := hw1.box.cell 1
  simp at c0 c1
  obtain ⟨_, _, er, hrow, _⟩ := hw1.row.slice
  injection er with er1 er2 er3
  rw [← er1, ← er2] at hrow
  have HROW := Lib.hid hrow
  have HNO := Lib.hid (own_none hw1.row)
  have hf := d.few
  have hgl := d.box.lt
  have hfl := field61
  clear d hw1 er1 er2 er3 hrow
  go_enter Try.func13, Try.ntmps13
  go_wp2_with (go_at_call 24; refine (copied_any no T A n c (w.alloc (.cells #[.int .i64 0, .slice none 0 0] 38)) HROW.out HNO.out (by omega)).mono ?_
               rintro e w3 ⟨A', c', rfl, o3, k3⟩
               have hb : Blk w3 w.heap.size 38 #[.int .i64 0, .slice none 0 0] := (Blk.new w 38 _ _ rfl).keeps k3 (fun h => h)
               have b0 := hb.cell 0
               have b1 := hb.cell 1
               have f0 := hb.frozen 0
               have f1 := hb.frozen 1
               simp at b0 b1
               have HB := Lib.hid hb
               have O3 := Lib.hid o3
               have K3 := Lib.hid k3
               clear o3 k3 hb)
  have hb3 : Blk ((w3.setCell ⟨w.heap.size, 0, none⟩ (.int .i64 no)).setCell ⟨w.heap.size, 1, none⟩ (.slice A' n c')) w.heap.size 38 #[.int .i64 no, .slice A' n c'] := (HB.out.set 0 _).set 1 _
  (try simp only [Exit.inBlock, Exit.then])
  refine bodyPost_ret (results_cell_row rfl _ _ w.heap.size 38 #[.int .i64 no, .slice A' n c'] (0, 0) _ rfl hb3 Try.underlying38 rfl (by kernel_rfl)) rfl ?_
  have ks : Keeps (fun _ => False) w ((w3.setCell ⟨w.heap.size, 0, none⟩ (.int .i64 no)).setCell ⟨w.heap.size, 1, none⟩ (.slice A' n c')) :=
    ((((((Keeps.refl (fun b => b = w.heap.size) w).alloc _).trans K3.out (fun _ _ h => h.elim))).setCell ⟨w.heap.size, 0, none⟩ (.int .i64 no) (fun _ => rfl)).setCell ⟨w.heap.size, 1, none⟩ (.slice A' n c') (fun _ => rfl)).mono (fun b hb h => by omega)
  refine ⟨A', c', rfl, ?_, ks⟩
  have ho := O3.out
  have hlt : ∀ q, (Value.slice A' n c').ownBlock = some q → w.heap.size + 1 ≤ q := fun q hq => by have := ho.base_le hq; simpa using this
  exact ((ho.setCell _ _ (fun q hq e => by have := hlt q hq; simp at e; omega)).setCell _ _ (fun q hq e => by have := hlt q hq; simp at e; omega)).rebase _ (fun q hq => by have := hlt q hq; omega)
set_option maxHeartbeats 1600000 in
theorem same_yes (no : Int) (T : List T6) (A : Option Addr) (n c : Nat) (A' : Option Addr) (c' : Nat) (w : World) (h1 : Reads total w A n T) (h2 : Reads total w A' n T) (hn : n ≤ 1000) :
    Calls Try.prog 12 #[.agg #[.int .i64 no, .slice A n c], .agg #[.int .i64 no, .slice A' n c']] w fun e w' => e = .returned (.bool true) ∧ Keeps (fun _ => False) w w' := by
  obtain ⟨w2, hw2⟩ : ∃ w2, w2 = (w.alloc (.cells #[.int .i64 no, .slice A n c] 38)).alloc (.cells #[.int .i64 no, .slice A' n c'] 38) := ⟨_, rfl⟩
  have k2 : Keeps (fun _ => False) w w2 := by rw [hw2]; exact ((Keeps.refl _ w).alloc _).alloc _
  have b1 : Blk w2 w.heap.size 38 #[.int .i64 no, .slice A n c] := by rw [hw2]; exact (Blk.new w 38 _ _ rfl).alloc _
  have b2 : Blk w2 (w.heap.size + 1) 38 #[.int .i64 no, .slice A' n c'] := by rw [hw2]; exact Blk.new _ 38 _ _ (by simp)
  have HW := Lib.hid hw2
  have K2 := Lib.hid k2
  have R1 := Lib.hid (h1.keeps k2 (fun _ _ _ h => h))
  have R2 := Lib.hid (h2.keeps k2 (fun _ _ _ h => h))
  have hl := h1.1
  have HL := Lib.hid hl
  have x0 := b1.cell 0
  have x1 := b1.cell 1
  have y0 := b2.cell 0
  have y1 := b2.cell 1
  simp at x0 x1 y0 y1
  clear h1 h2 k2 b1 b2 hl hw2
  go_enter Try.func12, Try.ntmps12
  go_wp2_with fail
  rw [← HW.out]
  go_loopw [5] (fun v wr => ∃ k q : Nat, k ≤ n ∧ v = .int .i64 k ∧ wr = w2.drewN q) (fun v _ => n - (intOf v).toNat)
  case atStart => exact ⟨0, 0, Nat.zero_le _, rfl, rfl⟩
  case round =>
    obtain ⟨k, q, hk, rfl, rfl⟩ := hrel
    by_cases hkn : k < n
    · obtain ⟨t, ht⟩ : ∃ t, T[k]? = some t := ⟨_, List.getElem?_eq_getElem (by rw [HL.out]; exact hkn)⟩
      obtain ⟨ad, hA, hc⟩ := R1.out.at_ ht
      obtain ⟨ad', hA', hc'⟩ := R2.out.at_ ht
      subst hA hA'
      have p0 := hc 0 _ rfl
      have p1 := hc 1 _ rfl
      have p2 := hc 2 _ rfl
      have p3 := hc 3 _ rfl
      have p4 := hc 4 _ rfl
      have p5 := hc 5 _ rfl
      have q0 := hc' 0 _ rfl
      have q1 := hc' 1 _ rfl
      have q2 := hc' 2 _ rfl
      have q3 := hc' 3 _ rfl
      have q4 := hc' 4 _ rfl
      have q5 := hc' 5 _ rfl
      simp [total] at p0 p1 p2 p3 p4 p5 q0 q1 q2 q3 q4 q5
      rw [← add_add, add_pos _ (by decide : 0 < 1)] at p1 q1
      rw [← add_add, add_pos _ (by decide : 0 < 2)] at p2 q2
      rw [← add_add, add_pos _ (by decide : 0 < 3)] at p3 q3
      rw [← add_add, add_pos _ (by decide : 0 < 4)] at p4 q4
      rw [← add_add, add_pos _ (by decide : 0 < 5)] at p5 q5
      clear hc hc' ht
      go_wp2_with fail
      go_quiet (fail)
      go_wp2_with fail
      refine ⟨⟨k + 1, _, by omega, by go_num, rfl⟩, by simp [intOf]; omega⟩
    · go_wp2_with fail
      go_ret
      exact ⟨rfl, K2.out.drewN q⟩
end Go.Proofs.Ytbobmilbcbileaa
