/- A day cut; the last day: walked. -/
import Derived.Test.YtbobmilbcbileaaW6
import Derived.Deep.RegionHeld3
import Derived.Laws.ResultCell
namespace Go.Proofs.Ytbobmilbcbileaa
open Go.RowKit Mem
set_option maxHeartbeats 3200000 in
theorem cut_any {w : World} {g : Nat} {no : Int} {A : Option Addr} {n c : Nat} {no2 : Int} {A2 : Option Addr} {n2 c2 : Nat} {cl : Bool} {T T2 : List T6} (d : S5 w g no A n c no2 A2 n2 c2 cl T T2) (hno : 0 ≤ no) (hno' : no ≤ 1000000) :
    Calls Try.prog 11 #[.pointer (some ⟨g, 0, none⟩)] w fun e w' => ∃ A' c' A3 c3, e = .returned (.agg #[.int .i64 no, .slice A' n c']) ∧ Own total w' w.heap.size 41 (.slice A' n c') T ∧ S5 w' g (no + 1) A3 n c3 no A n c true (zeros n) T ∧ Keeps (fun b => b = g) w w' := by
  have D := Lib.hid d
  have c0 := d.box.cell 0
  have c1 := d.box.cell 1
  have c2' := d.box.cell 2
  have c3' := d.box.cell 3
  have c4' := d.box.cell 4
  have f2 := d.box.frozen 2
  have f3 := d.box.frozen 3
  have f4 := d.box.frozen 4
  simp at c0 c1 c2' c3' c4'
  have hf := d.few
  have hgl := d.box.lt
  have hfl := field61
  have hwr : IntKind.i64.wrap (no + 1) = no + 1 := IntWalk.i64_in _ (by omega)
  clear d
  go_enter Try.func11, Try.ntmps11
  go_wp2_with fail
  obtain ⟨w2, hw2⟩ : ∃ w2, w2 = (((w.setCell ⟨g, 2, none⟩ (.int .i64 no)).setCell ⟨g, 3, none⟩ (.slice A n c)).setCell ⟨g, 4, none⟩ (.bool true)).alloc (.cells #[.int .i64 0, .slice none 0 0] 38) := ⟨_, rfl⟩
  rw [← hw2]
  have b2 : Blk w2 g 64 #[.int .i64 no, .slice A n c, .int .i64 no, .slice A n c, .bool true] := by
    rw [hw2]
    exact (((D.out.box.set 2 (.int .i64 no)).set 3 (.slice A n c)).set 4 (.bool true)).alloc _
  have k2 : Keeps (fun b => b = g) w w2 := by
    rw [hw2]
    exact ((((Keeps.refl (fun b => b = g) w).setCell _ _ (fun _ => rfl)).setCell _ _ (fun _ => rfl)).setCell _ _ (fun _ => rfl)).alloc _
  have r2 : Blk w2 w.heap.size 38 #[.int .i64 0, .slice none 0 0] := by
    rw [hw2]
    exact Blk.new _ 38 _ _ (by simp)
  have row2 := D.out.row.keeps k2 (fun q hq e => by subst e; exact D.out.row.blk_ne D.out.box (by decide) hq)
  have d2 := b2.cell 2
  have d3 := b2.cell 3
  simp at d2 d3
  have hz2 := k2.size
  have hr2l := r2.lt
  have B2 := Lib.hid b2
  have K2 := Lib.hid k2
  have R2 := Lib.hid r2
  have ROW2 := Lib.hid row2
  clear b2 k2 r2 row2 hw2 c0 c1 c2' c3' c4' f2 f3 f4
  go_region_held3 (fun w' => w'.cell? ⟨g, 2, none⟩ = some (.int .i64 no) ∧ w'.cell? ⟨g, 3, none⟩ = some (.slice A n c)) (first | exact ⟨d2, d3⟩ | exact ⟨u2, u3⟩ | exact ⟨z2, z3⟩)
    (first | (go_at_call 23; refine (begin_any (no + 1) n w2.drew hf).mono ?_
              rintro e w3 ⟨A3, c3, rfl, o3, k3⟩
              have b3 := (B2.out.drew).keeps k3 (fun h => h)
              have k3' : Keeps (fun _ => False) w2 w3 := ((Keeps.refl (fun _ => False) w2).drew).trans k3 (fun _ _ h => h)
              have u0 := b3.cell 0
              have u1 := b3.cell 1
              have v0 := b3.frozen 0
              have v1 := b3.frozen 1
              have u2 := b3.cell 2
              have u3 := b3.cell 3
              have b4 := (b3.set 0 (.int .i64 (no + 1))).set 1 (.slice A3 n c3)
              have z2 := b4.cell 2
              have z3 := b4.cell 3
              simp at u0 u1 u2 u3
              simp at z2 z3
              have B4 := Lib.hid b4
              have B3 := Lib.hid b3
              have O3 := Lib.hid o3
              have K3 := Lib.hid k3'
              clear b3 b4 o3 k3 k3'))
  obtain ⟨w4, hw4⟩ : ∃ w4, w4 = (w3.setCell ⟨g, 0, none⟩ (.int .i64 (no + 1))).setCell ⟨g, 1, none⟩ (.slice A3 n c3) := ⟨_, rfl⟩
  rw [← hw4]
  have hz3 : w2.heap.size ≤ w3.heap.size := K3.out.size
  have k34 : Keeps (fun b => b = g) w2 w4 := by
    rw [hw4]
    exact ((K3.out.mono (S' := fun b => b = g) (fun _ _ h => h.elim)).setCell _ _ (fun _ => rfl)).setCell _ _ (fun _ => rfl)
  have k4 : Keeps (fun b => b = g) w w4 := K2.out.trans k34 (fun _ _ h => h)
  have x4 : Blk w4 g 64 #[.int .i64 (no + 1), .slice A3 n c3, .int .i64 no, .slice A n c, .bool true] := by rw [hw4]; exact B4.out
  have row4 : Own total w4 0 41 (.slice A n c) T := ROW2.out.keeps k34 (fun q hq e => by subst e; exact ROW2.out.blk_ne B2.out (by decide) hq)
  have o4 : Own total w4 0 41 (.slice A3 n c3) (zeros n) := by
    rw [hw4]
    have hne : ∀ q, (Value.slice A3 n c3).ownBlock = some q → q ≠ g := fun q hq e => by subst e; exact O3.out.blk_ne B3.out (by decide) hq
    exact ((O3.out.setCell _ _ (fun q hq e => hne q hq (by simpa using e))).setCell _ _ (fun q hq e => hne q hq (by simpa using e))).rebase 0 (fun _ _ => Nat.zero_le _)
  have r4 : Blk w4 w.heap.size 38 #[.int .i64 0, .slice none 0 0] := R2.out.keeps k34 (fun e => by omega)
  have a2 := x4.cell 2
  have a3 := x4.cell 3
  simp at a2 a3
  obtain ⟨_, _, er, hrow, _⟩ := row4.slice
  injection er with er1 er2 er3
  rw [← er1, ← er2] at hrow
  have HROW := Lib.hid hrow
  have HNO := Lib.hid (own_none row4)
  have X4 := Lib.hid x4
  have ROW4 := Lib.hid row4
  have O4 := Lib.hid o4
  have R4 := Lib.hid r4
  have K4 := Lib.hid k4
  have hz4 := k4.size
  have hr4l := r4.lt
  clear er1 er2 er3 hrow x4 row4 o4 r4 k4 k34 hw4 u0 u1 u2 u3 v0 v1 z2 z3 d2 d3
  go_wp2_with (go_at_call 24; refine (copied_any no T A n c w4 HROW.out HNO.out (by omega)).mono ?_
               rintro e w5 ⟨A', c', rfl, o5, k5⟩
               have hb := R4.out.keeps k5 (fun h => h)
               have b0 := hb.cell 0
               have b1 := hb.cell 1
               have f0 := hb.frozen 0
               have f1 := hb.frozen 1
               simp at b0 b1
               have HB := Lib.hid hb
               have O5 := Lib.hid o5
               have K5 := Lib.hid k5
               clear o5 k5 hb)
  have hb3 : Blk ((w5.setCell ⟨w.heap.size, 0, none⟩ (.int .i64 no)).setCell ⟨w.heap.size, 1, none⟩ (.slice A' n c')) w.heap.size 38 #[.int .i64 no, .slice A' n c'] := (HB.out.set 0 _).set 1 _
  (try simp only [Exit.inBlock, Exit.then])
  refine bodyPost_ret (results_cell_row rfl _ _ w.heap.size 38 #[.int .i64 no, .slice A' n c'] (0, 0) _ rfl hb3 Try.underlying38 rfl (by kernel_rfl)) rfl ?_
  have k45 : Keeps (fun b => b = w.heap.size) w4 ((w5.setCell ⟨w.heap.size, 0, none⟩ (.int .i64 no)).setCell ⟨w.heap.size, 1, none⟩ (.slice A' n c')) :=
    ((K5.out.mono (S' := fun b => b = w.heap.size) (fun _ _ h => h.elim)).setCell _ _ (fun _ => rfl)).setCell _ _ (fun _ => rfl)
  have hlt : ∀ q, (Value.slice A' n c').ownBlock = some q → w4.heap.size ≤ q := fun q hq => O5.out.base_le hq
  refine ⟨A', c', A3, c3, rfl, ?_, ⟨X4.out.keeps k45 (fun e => by omega), O4.out.keeps k45 (fun q hq e => by subst e; exact O4.out.blk_ne R4.out (by decide) hq), ROW4.out.keeps k45 (fun q hq e => by subst e; exact ROW4.out.blk_ne R4.out (by decide) hq), zeros_isT n, hf, hf⟩, K4.out.trans k45 (fun b hb e => by omega)⟩
  exact ((O5.out.setCell _ _ (fun q hq e => by have := hlt q hq; simp at e; omega)).setCell _ _ (fun q hq e => by have := hlt q hq; simp at e; omega)).rebase _ (fun q hq => by have := hlt q hq; omega)
theorem results_cell_row_tmp {P : Program} {fn : Func} {p u : Tmp} {ty : TypeId} (h : fn.results = #[.cell p ty, .tmp u]) (tmps : Array Value) (w : World) (g : Nat) (t : TypeId) (cs : Array Value) (fr : Nat × Nat) (d : TypeDesc)
    (hp : tmps.getD p undef = .pointer (some ⟨g, 0, none⟩)) (hg : w.heap[g]? = some (.cells cs t fr))
    (hu : P.underlying ty = some d) (hd : (match d with | .struct _ | .array _ _ => true | _ => false) = true) (hi : (P.info? ty).map (·.size) = some cs.size) :
    (results fn tmps).run P w = .ok (.tuple #[.agg cs, tmps.getD u undef]) w := by
  rw [results_cell_tmp h, hp]
  simp [asAddr, run_loadVar_row w g t ty cs fr d hg hu hd hi, Result.andThen]
set_option maxHeartbeats 1600000 in
theorem last_any {w : World} {g : Nat} {no : Int} {A : Option Addr} {n c : Nat} {no2 : Int} {A2 : Option Addr} {n2 c2 : Nat} {cl : Bool} {T T2 : List T6} (d : S5 w g no A n c no2 A2 n2 c2 cl T T2) :
    Calls Try.prog 14 #[.pointer (some ⟨g, 0, none⟩)] w fun e w' => ∃ A' c', e = .returned (.tuple #[.agg #[.int .i64 no2, .slice A' n2 c'], .bool cl]) ∧ Own total w' w.heap.size 41 (.slice A' n2 c') T2 ∧ Keeps (fun _ => False) w w' := by
  obtain ⟨w1, hw1⟩ : ∃ w1, w1 = w.alloc (.cells #[.int .i64 0, .slice none 0 0] 38) := ⟨_, rfl⟩
  have k1 : Keeps (fun _ => False) w w1 := by rw [hw1]; exact (Keeps.refl _ w).alloc _
  have r1 : Blk w1 w.heap.size 38 #[.int .i64 0, .slice none 0 0] := by rw [hw1]; exact Blk.new w 38 _ _ rfl
  have d1 := d.keep k1
  have c2' := d1.box.cell 2
  have c3' := d1.box.cell 3
  have c4' := d1.box.cell 4
  have l0 := r1.cell 0
  have l1 := r1.cell 1
  simp at c2' c3' c4' l0 l1
  obtain ⟨_, _, er, hrow, _⟩ := d1.last.slice
  injection er with er1 er2 er3
  rw [← er1, ← er2] at hrow
  have HROW := Lib.hid hrow
  have HNO := Lib.hid (own_none d1.last)
  have hf := d.few2
  have hgl := d.box.lt
  have hfl := field61
  have R1 := Lib.hid r1
  have K1 := Lib.hid k1
  have D1 := Lib.hid d1
  have HW1 := Lib.hid hw1
  clear d d1 er1 er2 er3 hrow r1 k1 hw1
  go_enter Try.func14, Try.ntmps14
  go_wp2_with fail
  rw [← HW1.out]
  go_region_held3 (fun w' => w'.cell? ⟨g, 2, none⟩ = some (.int .i64 no2) ∧ w'.cell? ⟨g, 3, none⟩ = some (.slice A2 n2 c2) ∧ w'.cell? ⟨g, 4, none⟩ = some (.bool cl)) (first | exact ⟨c2', c3', c4'⟩ | exact ⟨u2, u3, u4⟩ | exact ⟨z2, z3, z4⟩)
    (first | (go_at_call 24; refine (copied_any no2 T2 A2 n2 c2 w1.drew HROW.out HNO.out (by omega)).mono ?_
              rintro e w3 ⟨A', c', rfl, o3, k3⟩
              have b3 := (D1.out.box.drew).keeps k3 (fun h => h)
              have hb := (R1.out.drew).keeps k3 (fun h => h)
              have u2 := b3.cell 2
              have u3 := b3.cell 3
              have u4 := b3.cell 4
              have b0 := hb.cell 0
              have b1 := hb.cell 1
              have f0 := hb.frozen 0
              have f1 := hb.frozen 1
              have hgne : g ≠ w.heap.size := by omega
              have b4 := (b3.far (p := ⟨w.heap.size, 0, none⟩) hgne (.int .i64 no2)).far (p := ⟨w.heap.size, 1, none⟩) hgne (.slice A' n2 c')
              have z2 := b4.cell 2
              have z3 := b4.cell 3
              have z4 := b4.cell 4
              simp at u2 u3 u4 b0 b1
              simp at z2 z3 z4
              have HB := Lib.hid hb
              have O3 := Lib.hid o3
              have K3 := Lib.hid k3
              clear b3 b4 hb o3 k3))
  all_goals
    go_wp2_with fail
    have hb3 : Blk ((w3.setCell ⟨w.heap.size, 0, none⟩ (.int .i64 no2)).setCell ⟨w.heap.size, 1, none⟩ (.slice A' n2 c')) w.heap.size 38 #[.int .i64 no2, .slice A' n2 c'] := (HB.out.set 0 _).set 1 _
    (try simp only [Exit.inBlock, Exit.then])
    refine bodyPost_ret (results_cell_row_tmp rfl _ _ w.heap.size 38 #[.int .i64 no2, .slice A' n2 c'] (0, 0) _ rfl hb3 Try.underlying38 rfl (by kernel_rfl)) rfl ?_
    have ks : Keeps (fun _ => False) w ((w3.setCell ⟨w.heap.size, 0, none⟩ (.int .i64 no2)).setCell ⟨w.heap.size, 1, none⟩ (.slice A' n2 c')) :=
      ((((K1.out.mono (S' := fun b => b = w.heap.size) (fun _ _ h => h.elim)).drew.trans K3.out (fun _ _ h => h.elim)).setCell ⟨w.heap.size, 0, none⟩ (.int .i64 no2) (fun _ => rfl)).setCell ⟨w.heap.size, 1, none⟩ (.slice A' n2 c') (fun _ => rfl)).mono (fun b hb h => by omega)
    refine ⟨A', c', rfl, ?_, ks⟩
    have hlw := R1.out.lt
    have hlt : ∀ q, (Value.slice A' n2 c').ownBlock = some q → w1.heap.size ≤ q := fun q hq => O3.out.base_le hq
    exact ((O3.out.setCell _ _ (fun q hq e => by have := hlt q hq; simp at e; omega)).setCell _ _ (fun q hq e => by have := hlt q hq; simp at e; omega)).rebase _ (fun q hq => by have := hlt q hq; omega)
end Go.Proofs.Ytbobmilbcbileaa
