/- A day cut, once more: where its book lies; any calls: walked. -/
import Derived.Test.YtbobmilbcbileaaLike
namespace Go.Proofs.Ytbobmilbcbileaa
open Go.RowKit Mem
set_option maxHeartbeats 3200000 in
theorem cut_any2 {w : World} {g : Nat} {no : Int} {A : Option Addr} {n c : Nat} {no2 : Int} {A2 : Option Addr} {n2 c2 : Nat} {cl : Bool} {T T2 : List T6} (d : S5 w g no A n c no2 A2 n2 c2 cl T T2) (hno : 0 ≤ no) (hno' : no ≤ 1000000) :
    Calls Try.prog 11 #[.pointer (some ⟨g, 0, none⟩)] w fun e w' => ∃ A' c' A3 c3, e = .returned (.agg #[.int .i64 no, .slice A' n c']) ∧ Own total w' w.heap.size 41 (.slice A' n c') T ∧ S5 w' g (no + 1) A3 n c3 no A n c true (zeros n) T ∧ Keeps (fun b => b = g) w w' ∧ (∀ q, (Value.slice A' n c').ownBlock = some q → w.heap.size ≤ q ∧ (Value.slice A3 n c3).ownBlock ≠ some q ∧ (Value.slice A n c).ownBlock ≠ some q) := by
  have D := Lib.hid d
  have c0 := d.box.cell 0
  have c1 := d.box.cell 1
  have c2' := d.box.cell 2
  have c3' := d.box.cell 3
  have c4' := d.box.cell 4
  have f2 := d.box.frozen 2
  have f3 := d.box.frozen 3
  have f4 := d.box.frozen 4
  simp at c0 c1 c2' c3' c4'
  have hf := d.few
  have hgl := d.box.lt
  have hfl := field61
  have hwr : IntKind.i64.wrap (no + 1) = no + 1 := IntWalk.i64_in _ (by omega)
  clear d
  go_enter Try.func11, Try.ntmps11
  go_wp2_with fail
  obtain ⟨w2, hw2⟩ : ∃ w2, w2 = (((w.setCell ⟨g, 2, none⟩ (.int .i64 no)).setCell ⟨g, 3, none⟩ (.slice A n c)).setCell ⟨g, 4, none⟩ (.bool true)).alloc (.cells #[.int .i64 0, .slice none 0 0] 38) := ⟨_, rfl⟩
  rw [← hw2]
  have b2 : Blk w2 g 64 #[.int .i64 no, .slice A n c, .int .i64 no, .slice A n c, .bool true] := by
    rw [hw2]
    exact (((D.out.box.set 2 (.int .i64 no)).set 3 (.slice A n c)).set 4 (.bool true)).alloc _
  have k2 : Keeps (fun b => b = g) w w2 := by
    rw [hw2]
    exact ((((Keeps.refl (fun b => b = g) w).setCell _ _ (fun _ => rfl)).setCell _ _ (fun _ => rfl)).setCell _ _ (fun _ => rfl)).alloc _
  have r2 : Blk w2 w.heap.size 38 #[.int .i64 0, .slice none 0 0] := by
    rw [hw2]
    exact Blk.new _ 38 _ _ (by simp)
  have row2 := D.out.row.keeps k2 (fun q hq e => by subst e; exact D.out.row.blk_ne D.out.box (by decide) hq)
  have d2 := b2.cell 2
  have d3 := b2.cell 3
  simp at d2 d3
  have hz2 := k2.size
  have hr2l := r2.lt
  have B2 := Lib.hid b2
  have K2 := Lib.hid k2
  have R2 := Lib.hid r2
  have ROW2 := Lib.hid row2
  clear b2 k2 r2 row2 hw2 c0 c1 c2' c3' c4' f2 f3 f4
  go_region_held3 (fun w' => w'.cell? ⟨g, 2, none⟩ = some (.int .i64 no) ∧ w'.cell? ⟨g, 3, none⟩ = some (.slice A n c)) (first | exact ⟨d2, d3⟩ | exact ⟨u2, u3⟩ | exact ⟨z2, z3⟩)
    (first | (go_at_call 23; refine (begin_any (no + 1) n w2.drew hf).mono ?_
              rintro e w3 ⟨A3, c3, rfl, o3, k3⟩
              have b3 := (B2.out.drew).keeps k3 (fun h => h)
              have k3' : Keeps (fun _ => False) w2 w3 := ((Keeps.refl (fun _ => False) w2).drew).trans k3 (fun _ _ h => h)
              have u0 := b3.cell 0
              have u1 := b3.cell 1
              have v0 := b3.frozen 0
              have v1 := b3.frozen 1
              have u2 := b3.cell 2
              have u3 := b3.cell 3
              have b4 := (b3.set 0 (.int .i64 (no + 1))).set 1 (.slice A3 n c3)
              have z2 := b4.cell 2
              have z3 := b4.cell 3
              simp at u0 u1 u2 u3
              simp at z2 z3
              have B4 := Lib.hid b4
              have B3 := Lib.hid b3
              have O3 := Lib.hid o3
              have K3 := Lib.hid k3'
              clear b3 b4 o3 k3 k3'))
  obtain ⟨w4, hw4⟩ : ∃ w4, w4 = (w3.setCell ⟨g, 0, none⟩ (.int .i64 (no + 1))).setCell ⟨g, 1, none⟩ (.slice A3 n c3) := ⟨_, rfl⟩
  rw [← hw4]
  have hz3 : w2.heap.size ≤ w3.heap.size := K3.out.size
  have k34 : Keeps (fun b => b = g) w2 w4 := by
    rw [hw4]
    exact ((K3.out.mono (S' := fun b => b = g) (fun _ _ h => h.elim)).setCell _ _ (fun _ => rfl)).setCell _ _ (fun _ => rfl)
  have k4 : Keeps (fun b => b = g) w w4 := K2.out.trans k34 (fun _ _ h => h)
  have x4 : Blk w4 g 64 #[.int .i64 (no + 1), .slice A3 n c3, .int .i64 no, .slice A n c, .bool true] := by rw [hw4]; exact B4.out
  have row4 : Own total w4 0 41 (.slice A n c) T := ROW2.out.keeps k34 (fun q hq e => by subst e; exact ROW2.out.blk_ne B2.out (by decide) hq)
  have o4 : Own total w4 0 41 (.slice A3 n c3) (zeros n) := by
    rw [hw4]
    have hne : ∀ q, (Value.slice A3 n c3).ownBlock = some q → q ≠ g := fun q hq e => by subst e; exact O3.out.blk_ne B3.out (by decide) hq
    exact ((O3.out.setCell _ _ (fun q hq e => hne q hq (by simpa using e))).setCell _ _ (fun q hq e => hne q hq (by simpa using e))).rebase 0 (fun _ _ => Nat.zero_le _)
  have r4 : Blk w4 w.heap.size 38 #[.int .i64 0, .slice none 0 0] := R2.out.keeps k34 (fun e => by omega)
  have a2 := x4.cell 2
  have a3 := x4.cell 3
  simp at a2 a3
  obtain ⟨_, _, er, hrow, _⟩ := row4.slice
  injection er with er1 er2 er3
  rw [← er1, ← er2] at hrow
  have HROW := Lib.hid hrow
  have HNO := Lib.hid (own_none row4)
  have X4 := Lib.hid x4
  have ROW4 := Lib.hid row4
  have O4 := Lib.hid o4
  have R4 := Lib.hid r4
  have K4 := Lib.hid k4
  have hz4 := k4.size
  have hr4l := r4.lt
  clear er1 er2 er3 hrow x4 row4 o4 r4 k4 k34 hw4 u0 u1 u2 u3 v0 v1 z2 z3 d2 d3
  go_wp2_with (go_at_call 24; refine (copied_any no T A n c w4 HROW.out HNO.out (by omega)).mono ?_
               rintro e w5 ⟨A', c', rfl, o5, k5⟩
               have hb := R4.out.keeps k5 (fun h => h)
               have b0 := hb.cell 0
               have b1 := hb.cell 1
               have f0 := hb.frozen 0
               have f1 := hb.frozen 1
               simp at b0 b1
               have HB := Lib.hid hb
               have O5 := Lib.hid o5
               have K5 := Lib.hid k5
               clear o5 k5 hb)
  have hb3 : Blk ((w5.setCell ⟨w.heap.size, 0, none⟩ (.int .i64 no)).setCell ⟨w.heap.size, 1, none⟩ (.slice A' n c')) w.heap.size 38 #[.int .i64 no, .slice A' n c'] := (HB.out.set 0 _).set 1 _
  (try simp only [Exit.inBlock, Exit.then])
  refine bodyPost_ret (results_cell_row rfl _ _ w.heap.size 38 #[.int .i64 no, .slice A' n c'] (0, 0) _ rfl hb3 Try.underlying38 rfl (by kernel_rfl)) rfl ?_
  have k45 : Keeps (fun b => b = w.heap.size) w4 ((w5.setCell ⟨w.heap.size, 0, none⟩ (.int .i64 no)).setCell ⟨w.heap.size, 1, none⟩ (.slice A' n c')) :=
    ((K5.out.mono (S' := fun b => b = w.heap.size) (fun _ _ h => h.elim)).setCell _ _ (fun _ => rfl)).setCell _ _ (fun _ => rfl)
  have hlt : ∀ q, (Value.slice A' n c').ownBlock = some q → w4.heap.size ≤ q := fun q hq => O5.out.base_le hq
  refine ⟨A', c', A3, c3, rfl, ?_, ⟨X4.out.keeps k45 (fun e => by omega), O4.out.keeps k45 (fun q hq e => by subst e; exact O4.out.blk_ne R4.out (by decide) hq), ROW4.out.keeps k45 (fun q hq e => by subst e; exact ROW4.out.blk_ne R4.out (by decide) hq), zeros_isT n, hf, hf⟩, K4.out.trans k45 (fun b hb e => by omega), fun q hq => ?_⟩
  rotate_left
  · have h1 := hlt q hq
    exact ⟨by omega, fun h => by have := O4.out.lt h; omega, fun h => by have := ROW4.out.lt h; omega⟩
  exact ((O5.out.setCell _ _ (fun q hq e => by have := hlt q hq; simp at e; omega)).setCell _ _ (fun q hq e => by have := hlt q hq; simp at e; omega)).rebase _ (fun q hq => by have := hlt q hq; omega)

theorem S5.far {w : World} {g : Nat} {no : Int} {A : Option Addr} {n c : Nat} {no2 : Int} {A2 : Option Addr} {n2 c2 : Nat} {cl : Bool} {T T2 : List T6} (h : S5 w g no A n c no2 A2 n2 c2 cl T T2) {b i : Nat} {u : Value} (h0 : g ≠ b) (h1 : (Value.slice A n c).ownBlock ≠ some b) (h2 : (Value.slice A2 n2 c2).ownBlock ≠ some b) : S5 (w.setCell ⟨b, i, none⟩ u) g no A n c no2 A2 n2 c2 cl T T2 :=
  ⟨h.box.far h0 _, h.row.setCell _ _ (fun q hq e => h1 (by rw [hq, show q = b from e])), h.last.setCell _ _ (fun q hq e => h2 (by rw [hq, show q = b from e])), h.ts, h.few, h.few2⟩
theorem RS.far {w : World} {g n : Nat} {no : Int} {A : Option Addr} {ln c : Nat} {no2 : Int} {A2 : Option Addr} {n2 c2 : Nat} {cl : Bool} {L : List (Int × Int)} {T T2 : List T6} (h : RS w g n no A ln c no2 A2 n2 c2 cl L T T2) {b i : Nat} {u : Value} (h0 : g ≠ b) (h1 : (Value.slice A ln c).ownBlock ≠ some b) (h2 : (Value.slice A2 n2 c2).ownBlock ≠ some b) : RS (w.setCell ⟨b, i, none⟩ u) g n no A ln c no2 A2 n2 c2 cl L T T2 :=
  ⟨h.box.far h0 _, h.row.setCell _ _ (fun q hq e => h1 (by rw [hq, show q = b from e])), h.past.setCell _ _ (fun q hq e => h2 (by rw [hq, show q = b from e])), h.ok, h.all, h.fold, h.one, h.few, h.few2⟩
/-- So many entries a row at most. -/
def bulkM : Nat := 1048576
theorem bulk_le {k ln : Nat} (h : ln ≤ k * bulkM) (hk : k ≤ 65) : ln ≤ 69000000 := Nat.le_trans h (Nat.le_trans (Nat.mul_le_mul_right _ hk) (by decide))
theorem bulk_up {k ln n : Nat} (h : ln ≤ k * bulkM) (hn : n ≤ bulkM) : ln + n ≤ (k + 1) * bulkM := by rw [Nat.succ_mul]; exact Nat.add_le_add h hn
/-- Sums, and the document's that are as they. -/
def PairS (w : World) (gx gy n k : Nat) : Prop := ∃ (no : Int) (A : Option Addr) (c : Nat) (AL : Option Addr) (ln lc : Nat) (no2 : Int) (A2 A3 : Option Addr) (n2 c2 c3 : Nat) (cl : Bool) (L : List (Int × Int)) (T T2 : List T6),
  S5 w gx no A n c no2 A2 n2 c2 cl T T2 ∧ RS w gy n no AL ln lc no2 A3 n2 c3 cl L T T2 ∧ 0 ≤ no ∧ no ≤ (k : Int) + 1 ∧ ln ≤ k * bulkM
theorem PairS.up {w : World} {gx gy n k : Nat} (h : PairS w gx gy n k) : PairS w gx gy n (k + 1) := by
  obtain ⟨no, A, c, AL, ln, lc, no2, A2, A3, n2, c2, c3, cl, L, T, T2, h1, h2, h3, h4, h5⟩ := h
  exact ⟨no, A, c, AL, ln, lc, no2, A2, A3, n2, c2, c3, cl, L, T, T2, h1, h2, h3, by omega, bulk_up (n := 0) h5 (Nat.zero_le _)⟩
theorem PairS.keep {w w' : World} {gx gy n k : Nat} (h : PairS w gx gy n k) (K : Keeps (fun _ => False) w w') : PairS w' gx gy n k := by
  obtain ⟨no, A, c, AL, ln, lc, no2, A2, A3, n2, c2, c3, cl, L, T, T2, h1, h2, h3, h4, h5⟩ := h
  exact ⟨no, A, c, AL, ln, lc, no2, A2, A3, n2, c2, c3, cl, L, T, T2, h1.keep K, h2.keep K, h3, h4, h5⟩
/-- Two other boxes may have changed. -/
theorem PairS.keep2 {w w' : World} {gx gy n k : Nat} (h : PairS w gx gy n k) {bx bY : Nat} {cx cy : Array Value} (hx : Blk w bx 64 cx) (hy : Blk w bY 68 cy) (nx : gx ≠ bx) (ny : gy ≠ bY) (K : Keeps (fun b => b = bx ∨ b = bY) w w') : PairS w' gx gy n k := by
  obtain ⟨no, A, c, AL, ln, lc, no2, A2, A3, n2, c2, c3, cl, L, T, T2, h1, h2, h3, h4, h5⟩ := h
  have key : ∀ {α : Type} {E : Enc α} {base : Nat} {e : TypeId} {v : Value} {l : List α}, Own E w base e v l → e ≠ 64 → e ≠ 68 → Own E w' base e v l := fun ho e1 e2 => ho.keeps K (fun q hq hs => by
    rcases hs with hs | hs
    · rw [hs] at hq; exact ho.blk_ne hx e1 hq
    · rw [hs] at hq; exact ho.blk_ne hy e2 hq)
  refine ⟨no, A, c, AL, ln, lc, no2, A2, A3, n2, c2, c3, cl, L, T, T2, ⟨h1.box.keeps K (fun hs => ?_), key h1.row (by decide) (by decide), key h1.last (by decide) (by decide), h1.ts, h1.few, h1.few2⟩, ⟨h2.box.keeps K (fun hs => ?_), key h2.row (by decide) (by decide), key h2.past (by decide) (by decide), h2.ok, h2.all, h2.fold, h2.one, h2.few, h2.few2⟩, h3, h4, h5⟩
  · rcases hs with hs | hs
    · exact nx hs
    · exact h1.box.ne_ hy (by decide) hs
  · rcases hs with hs | hs
    · exact h2.box.ne_ hx (by decide) hs
    · exact ny hs
theorem PairS.box {w : World} {gx gy n k : Nat} (h : PairS w gx gy n k) : (∃ cs, Blk w gx 64 cs) ∧ ∃ cs, Blk w gy 68 cs := by
  obtain ⟨no, A, c, AL, ln, lc, no2, A2, A3, n2, c2, c3, cl, L, T, T2, h1, h2, _⟩ := h
  exact ⟨⟨_, h1.box⟩, ⟨_, h2.box⟩⟩
theorem pair_like {w : World} {gx gy n k : Nat} (h : PairS w gx gy n k) (hk : k ≤ 61) : Calls Try.prog 22 #[.pointer (some ⟨gx, 0, none⟩), .pointer (some ⟨gy, 0, none⟩)] w fun e w' => e = .returned (.bool true) ∧ Keeps (fun _ => False) w w' := by
  obtain ⟨no, A, c, AL, ln, lc, no2, A2, A3, n2, c2, c3, cl, L, T, T2, h1, h2, h3, h4, h5⟩ := h
  exact like_any h1 h2 (by have := bulk_le h5 (by omega); omega)
theorem pair_clone {w : World} {gx gy n k : Nat} (h : PairS w gx gy n k) : Calls Try.prog 17 #[.pointer (some ⟨gx, 0, none⟩)] w fun e w' => ∃ g', e = .returned (.pointer (some ⟨g', 0, none⟩)) ∧ w.heap.size ≤ g' ∧ Keeps (fun _ => False) w w' ∧ PairS w' g' gy n k := by
  obtain ⟨no, A, c, AL, ln, lc, no2, A2, A3, n2, c2, c3, cl, L, T, T2, h1, h2, h3, h4, h5⟩ := h
  refine (clone_any h1).mono ?_
  rintro e w' ⟨g', rfl, d, hg, K⟩
  exact ⟨g', rfl, hg, K, no, A, c, AL, ln, lc, no2, A2, A3, n2, c2, c3, cl, L, T, T2, d, h2.keep K, h3, h4, h5⟩
theorem pair_refClone {w : World} {gx gy n k : Nat} (h : PairS w gx gy n k) : Calls Try.prog 18 #[.pointer (some ⟨gy, 0, none⟩)] w fun e w' => ∃ g', e = .returned (.pointer (some ⟨g', 0, none⟩)) ∧ w.heap.size ≤ g' ∧ Keeps (fun _ => False) w w' ∧ PairS w' gx g' n k := by
  obtain ⟨no, A, c, AL, ln, lc, no2, A2, A3, n2, c2, c3, cl, L, T, T2, h1, h2, h3, h4, h5⟩ := h
  refine (refClone_any h2).mono ?_
  rintro e w' ⟨g', rfl, d, hg, K⟩
  exact ⟨g', rfl, hg, K, no, A, c, AL, ln, lc, no2, A2, A3, n2, c2, c3, cl, L, T, T2, h1.keep K, d, h3, h4, h5⟩
end Go.Proofs.Ytbobmilbcbileaa
