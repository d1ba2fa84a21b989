/- The document's sums: an open book, a count, a cut: walked. -/
import Derived.Test.YtbobmilbcbileaaRefs
import Derived.Deep.Cut
import Derived.StillTailTactics
namespace Go.Proofs.Ytbobmilbcbileaa
open Go.RowKit Mem
theorem own_grow {w W w' : World} {v : Value} (h : Keeps (fun _ => False) w W) (gr : W.grownBy w' v.ownBlock) (hv : ∀ q, v.ownBlock = some q → w.heap.size ≤ q) : Keeps (fun _ => False) w w' :=
  (Keeps.grown (S := fun b => w.heap.size ≤ b) (h.mono (fun _ _ h => h.elim)) gr (fun k hk _ => hv k hk)).mono (fun b hb h => by omega)
theorem book_yes (no : Int) (n : Nat) (hn : n ≤ 7) (es : List (Int × Int)) (A0 : Option Addr) (n0 c0 : Nat) (w : World) (hr : Reads entry w A0 n0 es) (hok : ∀ e ∈ es, okE e) (hn0 : n0 ≤ 100000000) (hin : inAll n es) {T : List T6} (hT : foldT (zeros n) es = some T) :
    Calls Try.prog 27 #[.int .i64 no, .int .i64 n, .slice A0 n0 c0] w fun e w' => ∃ A c, e = .returned (.tuple #[.agg #[.int .i64 no, .slice A n c], .bool true]) ∧ Own total w' w.heap.size 41 (.slice A n c) T ∧ Keeps (fun _ => False) w w' := by
  refine (book_any no n hn es A0 n0 c0 w hr hok hn0 hin).mono ?_
  rintro e w' (⟨T', A, c, h1, h2, h3, h4⟩ | ⟨h1, _⟩)
  · rw [hT] at h1
    injection h1 with h1
    subst h1
    exact ⟨A, c, h2, h3, h4⟩
  · rw [hT] at h1; cases h1
theorem book_no (no : Int) (n : Nat) (hn : n ≤ 7) (es : List (Int × Int)) (A0 : Option Addr) (n0 c0 : Nat) (w : World) (hr : Reads entry w A0 n0 es) (hok : ∀ e ∈ es, okE e) (hn0 : n0 ≤ 100000000) (hin : inAll n es) (hT : foldT (zeros n) es = none) :
    Calls Try.prog 27 #[.int .i64 no, .int .i64 n, .slice A0 n0 c0] w fun e w' => e = .returned (.tuple #[.agg #[.int .i64 0, .slice none 0 0], .bool false]) ∧ Keeps (fun _ => False) w w' := by
  refine (book_any no n hn es A0 n0 c0 w hr hok hn0 hin).mono ?_
  rintro e w' (⟨T', A, c, h1, h2, h3, h4⟩ | ⟨h1, h2, h3⟩)
  · rw [hT] at h1; cases h1
  · exact ⟨h2, h3⟩
section
variable {w : World} {g n : Nat} {no : Int} {A : Option Addr} {ln c : Nat} {no2 : Int} {A2 : Option Addr} {n2 c2 : Nat} {cl : Bool} {L : List (Int × Int)} {T T2 : List T6}
set_option maxHeartbeats 3200000 in
theorem refOpen_any (d : RS w g n no A ln c no2 A2 n2 c2 cl L T T2) (hln : ln ≤ 100000000) :
    Calls Try.prog 26 #[.pointer (some ⟨g, 0, none⟩)] w fun e w' => ∃ A' c', e = .returned (.agg #[.int .i64 no, .slice A' n c']) ∧ Own total w' w.heap.size 41 (.slice A' n c') T ∧ Keeps (fun _ => False) w w' := by
  obtain ⟨w1, hw1⟩ : ∃ w1, w1 = w.alloc (.cells #[.int .i64 0, .slice none 0 0] 38) := ⟨_, rfl⟩
  have k1 : Keeps (fun _ => False) w w1 := by rw [hw1]; exact (Keeps.refl _ w).alloc _
  have r1 : Blk w1 w.heap.size 38 #[.int .i64 0, .slice none 0 0] := by rw [hw1]; exact Blk.new w 38 _ _ rfl
  have d1 := d.keep k1
  have c0 := d1.box.cell 0
  have c1 := d1.box.cell 1
  have c2' := d1.box.cell 2
  simp at c0 c1 c2'
  have hf := d.few
  have hgl := d.box.lt
  have hrl := r1.lt
  have hgl1 := d1.box.lt
  have sf : ∀ W : World, Blk W g 68 #[.int .i64 n, .int .i64 no, .slice A ln c, .int .i64 no2, .slice A2 n2 c2, .bool cl] → W.cell? ⟨g, 0, none⟩ = some (.int .i64 n) ∧ W.cell? ⟨g, 1, none⟩ = some (.int .i64 no) ∧ W.cell? ⟨g, 2, none⟩ = some (.slice A ln c) := fun W h => ⟨(h.cell 0).trans rfl, (h.cell 1).trans rfl, (h.cell 2).trans rfl⟩
  have SF := Lib.hid sf
  clear sf
  have D := Lib.hid d
  have R1 := Lib.hid r1
  have K1 := Lib.hid k1
  have D1 := Lib.hid d1
  have HW1 := Lib.hid hw1
  clear d d1 r1 k1 hw1
  go_enter Try.func26, Try.ntmps26
  go_wp2_with fail
  rw [← HW1.out]
  go_region_held3 (fun w' => w'.cell? ⟨g, 0, none⟩ = some (.int .i64 n) ∧ w'.cell? ⟨g, 1, none⟩ = some (.int .i64 no) ∧ w'.cell? ⟨g, 2, none⟩ = some (.slice A ln c)) (first | exact SF.out _ D1.out.box | exact SF.out _ D1.out.box.drew | exact SF.out _ ((D1.out.box.alloc _).drew) | exact SF.out _ B3.out | exact SF.out _ (B3.out.alloc _) | exact SF.out _ ((B3.out.far hgx _).far hgx _))
    (first
     | (go_at_call 27; refine (book_yes no n hf L A ln c w1.drew (own_reads D1.out.row.drew) D.out.ok hln D.out.all D.out.fold).mono ?_
        rintro e w3 ⟨A', c', rfl, o3, k3⟩
        have b3 := (D1.out.box.drew).keeps k3 (fun h => h)
        have hb := (R1.out.drew).keeps k3 (fun h => h)
        have b0 := hb.cell 0
        have b1 := hb.cell 1
        have f0 := hb.frozen 0
        have f1 := hb.frozen 1
        have hz3 := k3.size
        simp at b0 b1 hz3
        have HB := Lib.hid hb
        have B3 := Lib.hid b3
        have O3 := Lib.hid o3
        have K3 := Lib.hid (K1.out.drew.trans k3 (fun _ _ h => h))
        clear b3 hb o3 k3)
     | (go_at_call 27; refine (book_yes no n hf L A ln c (w1.alloc (.cells #[.int .i64 0, .slice none 0 0] 38)).drew (own_reads ((D1.out.row.alloc (.cells #[.int .i64 0, .slice none 0 0] 38)).drew)) D.out.ok hln D.out.all D.out.fold).mono ?_
        rintro e w3 ⟨A', c', rfl, o3, k3⟩
        have b3 := ((D1.out.box.alloc (.cells #[.int .i64 0, .slice none 0 0] 38)).drew).keeps k3 (fun h => h)
        have hb := ((R1.out.alloc (.cells #[.int .i64 0, .slice none 0 0] 38)).drew).keeps k3 (fun h => h)
        have b0 := hb.cell 0
        have b1 := hb.cell 1
        have f0 := hb.frozen 0
        have f1 := hb.frozen 1
        have hz3 := k3.size
        simp at b0 b1 hz3
        have HB := Lib.hid hb
        have B3 := Lib.hid b3
        have O3 := Lib.hid o3
        have K3 := Lib.hid ((K1.out.alloc (.cells #[.int .i64 0, .slice none 0 0] 38)).drew.trans k3 (fun _ _ h => h))
        have hx := ((Blk.new w1 38 #[.int .i64 0, .slice none 0 0] _ rfl).drew).keeps k3 (fun h => h)
        have x0 := hx.cell 0
        have x1 := hx.cell 1
        have xf0 := hx.frozen 0
        have xf1 := hx.frozen 1
        simp at x0 x1
        have HX := Lib.hid hx
        have hgx : g ≠ w1.heap.size := by omega
        clear hx
        clear b3 hb o3 k3))
  · obtain ⟨w4, hw4⟩ : ∃ w4, w4 = w3.alloc (.cells #[.int .i64 no, .slice A' n c'] 38) := ⟨_, rfl⟩
    rw [← hw4]
    have k4 : Keeps (fun _ => False) w3 w4 := by rw [hw4]; exact (Keeps.refl _ w3).alloc _
    have x4 : Blk w4 w3.heap.size 38 #[.int .i64 no, .slice A' n c'] := by rw [hw4]; exact Blk.new w3 38 _ _ rfl
    have hb4 := HB.out.keeps k4 (fun h => h)
    have x0 := x4.cell 0
    have x1 := x4.cell 1
    have y0 := hb4.cell 0
    have y1 := hb4.cell 1
    have e0 := hb4.frozen 0
    have e1 := hb4.frozen 1
    simp at x0 x1 y0 y1
    have HB4 := Lib.hid hb4
    have O4 := Lib.hid (O3.out.keeps k4 (fun _ _ h => h))
    have K4 := Lib.hid (K3.out.trans k4 (fun _ _ h => h))
    clear hw4 k4 x4 hb4
    go_wp2_with fail
    have hb5 : Blk ((w4.setCell ⟨w.heap.size, 0, none⟩ (.int .i64 no)).setCell ⟨w.heap.size, 1, none⟩ (.slice A' n c')) w.heap.size 38 #[.int .i64 no, .slice A' n c'] := (HB4.out.set 0 _).set 1 _
    (try simp only [Exit.inBlock, Exit.then])
    refine bodyPost_ret (results_cell_row rfl _ _ w.heap.size 38 #[.int .i64 no, .slice A' n c'] (0, 0) _ rfl hb5 Try.underlying38 rfl (by kernel_rfl)) rfl ?_
    have hne : ∀ q, (Value.slice A' n c').ownBlock = some q → q ≠ w.heap.size := fun q hq e => by rw [e] at hq; exact O4.out.blk_ne HB4.out (by decide) hq
    have hle : ∀ q, (Value.slice A' n c').ownBlock = some q → w.heap.size ≤ q := fun q hq => by have := O3.out.base_le hq; simp at this; omega
    exact ⟨A', c', rfl, ((O4.out.setCell ⟨w.heap.size, 0, none⟩ _ hne).setCell ⟨w.heap.size, 1, none⟩ _ hne).rebase _ hle, (K4.out.setCell _ _ (fun h => by simp at h)).setCell _ _ (fun h => by simp at h)⟩
  · obtain ⟨w4, hw4⟩ : ∃ w4, w4 = (w3.setCell ⟨w1.heap.size, 0, none⟩ (.int .i64 no)).setCell ⟨w1.heap.size, 1, none⟩ (.slice A' n c') := ⟨_, rfl⟩
    rw [← hw4]
    have k4 : Keeps (fun b => b = w1.heap.size) w3 w4 := by rw [hw4]; exact ((Keeps.refl (fun b => b = w1.heap.size) w3).setCell _ _ (fun _ => rfl)).setCell _ _ (fun _ => rfl)
    have x4 : Blk w4 w1.heap.size 38 #[.int .i64 no, .slice A' n c'] := by rw [hw4]; exact (HX.out.set 0 _).set 1 _
    have hb4 := HB.out.keeps k4 (fun h => by omega)
    have x0 := x4.cell 0
    have x1 := x4.cell 1
    have y0 := hb4.cell 0
    have y1 := hb4.cell 1
    have e0 := hb4.frozen 0
    have e1 := hb4.frozen 1
    simp at x0 x1 y0 y1
    have HB4 := Lib.hid hb4
    have hsz1 := K1.out.size
    have O4 := Lib.hid (O3.out.keeps k4 (fun q hq e => by rw [e] at hq; exact O3.out.blk_ne HX.out (by decide) hq))
    have K4 := Lib.hid (K3.out.trans k4 (fun b hb h => by omega))
    clear hw4 k4 x4 hb4
    go_wp2_with fail
    have hb5 : Blk ((w4.setCell ⟨w.heap.size, 0, none⟩ (.int .i64 no)).setCell ⟨w.heap.size, 1, none⟩ (.slice A' n c')) w.heap.size 38 #[.int .i64 no, .slice A' n c'] := (HB4.out.set 0 _).set 1 _
    (try simp only [Exit.inBlock, Exit.then])
    refine bodyPost_ret (results_cell_row rfl _ _ w.heap.size 38 #[.int .i64 no, .slice A' n c'] (0, 0) _ rfl hb5 Try.underlying38 rfl (by kernel_rfl)) rfl ?_
    have hne : ∀ q, (Value.slice A' n c').ownBlock = some q → q ≠ w.heap.size := fun q hq e => by rw [e] at hq; exact O4.out.blk_ne HB4.out (by decide) hq
    have hle : ∀ q, (Value.slice A' n c').ownBlock = some q → w.heap.size ≤ q := fun q hq => by have := O3.out.base_le hq; simp at this; omega
    exact ⟨A', c', rfl, ((O4.out.setCell ⟨w.heap.size, 0, none⟩ _ hne).setCell ⟨w.heap.size, 1, none⟩ _ hne).rebase _ hle, (K4.out.setCell _ _ (fun h => by simp at h)).setCell _ _ (fun h => by simp at h)⟩
set_option maxHeartbeats 3200000 in
theorem refCut_any (d : RS w g n no A ln c no2 A2 n2 c2 cl L T T2) (hln : ln ≤ 100000000) (hno : 0 ≤ no) (hno' : no ≤ 1000000) :
    Calls Try.prog 20 #[.pointer (some ⟨g, 0, none⟩)] w fun e w' => ∃ A' c', e = .returned (.agg #[.int .i64 no, .slice A' n c']) ∧ RS w' g n (no + 1) none 0 0 no A' n c' true [] (zeros n) T ∧ Keeps (fun b => b = g) w w' ∧ (∀ q, (Value.slice A' n c').ownBlock = some q → w.heap.size ≤ q) := by
  obtain ⟨w1, hw1⟩ : ∃ w1, w1 = w.alloc (.cells #[.int .i64 0, .slice none 0 0] 38) := ⟨_, rfl⟩
  have k1 : Keeps (fun _ => False) w w1 := by rw [hw1]; exact (Keeps.refl _ w).alloc _
  have R1 := Lib.hid (show Blk w1 w.heap.size 38 #[.int .i64 0, .slice none 0 0] by rw [hw1]; exact Blk.new w 38 _ _ rfl)
  have hgl := d.box.lt
  have D1 := Lib.hid (d.keep k1)
  have K1 := Lib.hid k1
  have HW1 := Lib.hid hw1
  clear d k1 hw1
  go_enter Try.func20, Try.ntmps20
  go_wp2_with fail
  rw [← HW1.out]
  go_wp2_with (go_at_call 26; refine (refOpen_any D1.out hln).mono ?_
               rintro e w2 ⟨A', c', rfl, o2, k2⟩
               have d2 := D1.out.keep k2
               have r2 := R1.out.keeps k2 (fun h => h)
               have x1 := d2.box.cell 1
               have x2 := d2.box.cell 2
               have x3 := d2.box.cell 3
               have x4 := d2.box.cell 4
               have x5 := d2.box.cell 5
               have f1 := d2.box.frozen 1
               have f2 := d2.box.frozen 2
               have f3 := d2.box.frozen 3
               have f4 := d2.box.frozen 4
               have f5 := d2.box.frozen 5
               have y0 := r2.cell 0
               have y1 := r2.cell 1
               have e0 := r2.frozen 0
               have e1 := r2.frozen 1
               simp at x1 x2 x3 x4 x5 y0 y1
               have D2 := Lib.hid d2
               have R2 := Lib.hid r2
               have O2 := Lib.hid (o2.rebase 0 (fun _ _ => Nat.zero_le _))
               have HB2 : Hid (∀ q, (Value.slice A' n c').ownBlock = some q → w.heap.size ≤ q) := Lib.hid (fun q hq => by have h1 := o2.base_le hq; have h2 := K1.out.size; omega)
               have K2 := Lib.hid (K1.out.trans k2 (fun _ _ h => h))
               have hgne : g ≠ w.heap.size := by omega
               have hgne' : w.heap.size ≠ g := by omega
               clear d2 r2 o2 k2)
  obtain ⟨w3, hw3⟩ : ∃ w3, w3 = ((((w2.setCell ⟨g, 3, none⟩ (.int .i64 no)).setCell ⟨g, 4, none⟩ (.slice A' n c')).setCell ⟨g, 5, none⟩ (.bool true)).setCell ⟨g, 1, none⟩ (.int .i64 (no + 1))).setCell ⟨g, 2, none⟩ (.slice none 0 0) := ⟨_, rfl⟩
  have k3 : Keeps (fun b => b = g) w2 w3 := by rw [hw3]; exact (((((Keeps.refl (fun b => b = g) w2).setCell _ _ (fun _ => rfl)).setCell _ _ (fun _ => rfl)).setCell _ _ (fun _ => rfl)).setCell _ _ (fun _ => rfl)).setCell _ _ (fun _ => rfl)
  have b3 : Blk w3 g 68 #[.int .i64 n, .int .i64 (no + 1), .slice none 0 0, .int .i64 no, .slice A' n c', .bool true] := by rw [hw3]; exact ((((D2.out.box.set 3 _).set 4 _).set 5 _).set 1 _).set 2 _
  have o3 := O2.out.keeps k3 (fun q hq e => by rw [e] at hq; exact O2.out.blk_ne D2.out.box (by decide) hq)
  have r3 := R2.out.keeps k3 hgne'
  have hb5 : Blk ((w3.setCell ⟨w.heap.size, 0, none⟩ (.int .i64 no)).setCell ⟨w.heap.size, 1, none⟩ (.slice A' n c')) w.heap.size 38 #[.int .i64 no, .slice A' n c'] := (r3.set 0 _).set 1 _
  have hko : Keeps (fun b => b = w.heap.size) w3 ((w3.setCell ⟨w.heap.size, 0, none⟩ (.int .i64 no)).setCell ⟨w.heap.size, 1, none⟩ (.slice A' n c')) := ((Keeps.refl (fun b => b = w.heap.size) w3).setCell _ _ (fun _ => rfl)).setCell _ _ (fun _ => rfl)
  have hne : ∀ q, (Value.slice A' n c').ownBlock = some q → q ≠ w.heap.size := fun q hq e => by rw [e] at hq; exact o3.blk_ne r3 (by decide) hq
  rw [← hw3]
  (try simp only [Exit.inBlock, Exit.then])
  refine bodyPost_ret (results_cell_row rfl _ _ w.heap.size 38 #[.int .i64 no, .slice A' n c'] (0, 0) _ rfl hb5 Try.underlying38 rfl (by kernel_rfl)) rfl ?_
  refine ⟨A', c', rfl, ⟨b3.keeps hko hgne, Own.nil _ _ _ _, o3.keeps hko (fun q hq e => hne q hq e), by simp, fun e he => by simp at he, rfl, D2.out.one, D2.out.few, D2.out.few⟩, ?_, HB2.out⟩
  exact ((K2.out.mono (S' := fun b => b = g) (fun _ _ h => h.elim)).trans k3 (fun _ _ h => h)).trans hko (fun b hb h => by omega)
set_option maxHeartbeats 6400000 in
theorem refCount_any (d : RS w g n no A ln c no2 A2 n2 c2 cl L T T2) (es : List (Int × Int)) (A1 : Option Addr) (n1 c1 : Nat) (hr : Reads entry w A1 n1 es) (hok : ∀ e ∈ es, okE e) (hn1 : n1 ≤ 1048576) (hln : ln ≤ 70000000) :
    Calls Try.prog 21 #[.pointer (some ⟨g, 0, none⟩), .slice A1 n1 c1] w fun e w' => e = .returned (.int .i64 (countE T es)) ∧ (∃ A' ln' c' L', RS w' g n no A' ln' c' no2 A2 n2 c2 cl L' (countT T es) T2 ∧ ln' ≤ ln + n1) ∧ Keeps (fun b => b = g) w w' := by
  have HL := Lib.hid hr.1
  have R := Lib.hid hr
  have OK := Lib.hid hok
  have D := Lib.hid d
  have hf := d.few
  have hgl := d.box.lt
  have hTl : T.length = n := by rw [foldT_length d.fold, zeros_length]
  have TL := Lib.hid hTl
  have LL := Lib.hid (d.row.len_eq rfl)
  have hfold : foldT (zeros n) (L ++ es) = foldT T es := by rw [foldT_append, d.fold]; rfl
  have FOLD := Lib.hid hfold
  have sf : ∀ W : World, Blk W g 68 #[.int .i64 n, .int .i64 no, .slice A ln c, .int .i64 no2, .slice A2 n2 c2, .bool cl] → W.cell? ⟨g, 0, none⟩ = some (.int .i64 n) ∧ W.cell? ⟨g, 1, none⟩ = some (.int .i64 no) := fun W h => ⟨(h.cell 0).trans rfl, (h.cell 1).trans rfl⟩
  have SF := Lib.hid sf
  clear d hr hok hTl hfold sf
  go_enter Try.func21, Try.ntmps21
  go_wp2_with fail
  go_loopw [5] (fun v wr => ∃ k q : Nat, k ≤ n1 ∧ v = .int .i64 k ∧ inAll n (es.take k) ∧ wr = w.drewN q) (fun v _ => n1 - (intOf v).toNat)
  case atStart => exact ⟨0, 0, Nat.zero_le _, rfl, by unfold inAll; simp, rfl⟩
  case round =>
    obtain ⟨k, q, hk, rfl, hall, rfl⟩ := hrel
    have c0 := (D.out.box.drewN q).cell 0
    have ALL := Lib.hid hall
    simp at c0
    clear hall
    by_cases hkn : k < n1
    · obtain ⟨⟨x, y⟩, he⟩ : ∃ e, es[k]? = some e := ⟨_, List.getElem?_eq_getElem (by rw [HL.out]; exact hkn)⟩
      obtain ⟨ad, hA, hc⟩ := (R.out.drewN q).at_ he
      subst hA
      have p0 := hc 0 _ rfl
      simp [entry] at p0
      have HE := Lib.hid he
      clear hc he
      by_cases hin : 0 ≤ x ∧ x < n
      · have t1 : decide (x < 0) = false := by simp; omega
        have t2 : decide ((n : Int) ≤ x) = false := by simp; omega
        have HIN := Lib.hid hin
        clear hin
        go_wp2_with fail
        go_quiet (fail)
        go_wp2_with fail
        refine ⟨⟨k + 1, _, by omega, by go_num, fun z hz => ?_, rfl⟩, by simp [intOf]; omega⟩
        rw [List.take_add_one, HE.out] at hz
        simp at hz
        rcases hz with hz | rfl
        · exact ALL.out z hz
        · exact HIN.out
      · have hE : countE T es = 121 := if_pos (fun h => hin (by rw [TL.out] at h; exact h _ (List.mem_of_getElem? HE.out)))
        have hT : countT T es = T := if_pos (fun h => hin (by rw [TL.out] at h; exact h _ (List.mem_of_getElem? HE.out)))
        have HEE := Lib.hid hE
        have HTT := Lib.hid hT
        have hcase : decide (x < 0) = true ∨ (decide (x < 0) = false ∧ decide ((n : Int) ≤ x) = true) := by
          by_cases h : x < 0
          · left; simpa using h
          · right; exact ⟨by simpa using h, by simp; omega⟩
        clear hin hE hT
        rcases hcase with t1 | ⟨t1, t2⟩
        all_goals
          go_wp2_with fail
          go_quiet (fail)
          go_wp2_with fail
          go_ret
          rw [HEE.out, HTT.out]
          exact ⟨rfl, ⟨_, _, _, _, D.out.keep (((Keeps.refl _ w).drewN _).drewN _), by omega⟩, ((Keeps.refl _ w).drewN _).drewN _⟩
    · have hall : inAll n es := by
        have := ALL.out
        rw [List.take_of_length_le (by rw [HL.out]; omega)] at this
        exact this
      obtain ⟨w4, hw4⟩ : ∃ w4, w4 = w.drewN q := ⟨_, rfl⟩
      rw [← hw4]
      clear c0
      have K4 := Lib.hid (show Keeps (fun _ => False) w w4 by rw [hw4]; exact (Keeps.refl _ w).drewN q)
      have c2' := (D.out.keep K4.out).box.cell 2
      simp at c2'
      have hl4 := (D.out.keep K4.out).box.lt
      have HALL : Hid (inAll n (L ++ es)) := Lib.hid (fun e he => by
        rcases List.mem_append.1 he with h | h
        · exact D.out.all e h
        · exact hall e h)
      have HOK : Hid (∀ e ∈ L ++ es, okE e) := Lib.hid (fun e he => by
        rcases List.mem_append.1 he with h | h
        · exact D.out.ok e h
        · exact OK.out e h)
      have HALLE := Lib.hid hall
      have m0 : True := trivial
      clear hw4 hall
      go_upto_region 7 with (first
        | (at_builtin; clear m0; refine wp_append elem34 (by rfl) (.tmp 33) (.tmp 37) (by rfl) w4.heap.size (.slice (some ⟨w4.heap.size, 0, none⟩) 0 0) [] L A ln c rfl rfl (own_empty _ _ _ _ _ rfl (Nat.le_refl _)) ((own_reads (D.out.keep K4.out).row).alloc _) (by simp; omega) (by simp [maxLen]; omega) (by simp) ?_
           intro v5 w5 own5 gr5 at5
           rw [List.nil_append] at own5
           obtain ⟨A4, c4, hv5, _⟩ := Own.val own5 LL.out
           rw [hv5]
           rw [hv5] at own5
           have O5 := Lib.hid own5
           have K5 := Lib.hid (app_empty w4 w4.heap.size rfl gr5)
           clear own5 gr5 at5 hv5)
        | (at_builtin; refine wp_append elem34 (by rfl) (.tmp 38) (.tmp 39) (by rfl) w4.heap.size (.slice A4 ln c4) L es A1 n1 c1 rfl rfl O5.out ((R.out.keeps K4.out (fun _ _ _ h => h)).keeps K5.out (fun _ _ _ h => h)) (by rw [LL.out]; omega) (by rw [LL.out]; simp [maxLen]; omega) K5.out.size ?_
           intro v6 w6 own6 gr6 at6
           obtain ⟨A5, c5, hv6, _⟩ := Own.val (n := ln + n1) own6 (by rw [List.length_append, LL.out, HL.out])
           rw [hv6]
           rw [hv6] at own6
           have O6 := Lib.hid own6
           have K46 := Lib.hid (own_grow K5.out gr6 (fun q hq => O5.out.base_le hq))
           clear own6 gr6 at6 hv6))
      have K6 := Lib.hid (K4.out.trans K46.out (fun _ _ h => h))
      have D6 := Lib.hid (D.out.keep K6.out)
      have hl6 := D6.out.box.lt
      have hz4 := K46.out.size
      clear c2' K5 O5 K46
      cases hff : foldT T es with
      | none =>
        have hfo : foldT (zeros n) (L ++ es) = none := by rw [FOLD.out, hff]
        have HFOLD := Lib.hid hfo
        have hE : countE T es = 100 := by unfold countE; rw [if_neg (fun h => h (by rw [TL.out]; exact HALLE.out)), hff]
        have hT : countT T es = T := by unfold countT; rw [if_neg (fun h => h (by rw [TL.out]; exact HALLE.out)), hff]; rfl
        have HEE := Lib.hid hE
        have HTT := Lib.hid hT
        clear hfo hE hT hff
        go_region_held3 (fun w' => w'.cell? ⟨g, 0, none⟩ = some (.int .i64 n) ∧ w'.cell? ⟨g, 1, none⟩ = some (.int .i64 no)) (first | exact SF.out _ D6.out.box | exact SF.out _ D6.out.box.drew | exact SF.out _ ((D6.out.box.alloc _).drew) | exact SF.out _ B8.out | exact SF.out _ (B8.out.alloc _) | exact SF.out _ ((B8.out.far hgx _).far hgx _))
          (first
          | (go_at_call 27; refine (book_no no n hf (L ++ es) A5 (ln + n1) c5 w6.drew (own_reads (O6.out.drew)) HOK.out (by omega) HALL.out HFOLD.out).mono ?_
             rintro e w8 ⟨rfl, k3⟩
             have b8 := (D6.out.box.drew).keeps k3 (fun h => h)
             have hz8 := k3.size
             simp at hz8
             have B8 := Lib.hid b8
             have O8 := Lib.hid ((O6.out.drew).keeps k3 (fun _ _ h => h))
             have K8 := Lib.hid (K6.out.drew.trans k3 (fun _ _ h => h))
             clear b8 k3)
          | (go_at_call 27; refine (book_no no n hf (L ++ es) A5 (ln + n1) c5 (w6.alloc (.cells #[.int .i64 0, .slice none 0 0] 38)).drew (own_reads ((O6.out.alloc (.cells #[.int .i64 0, .slice none 0 0] 38)).drew)) HOK.out (by omega) HALL.out HFOLD.out).mono ?_
             rintro e w8 ⟨rfl, k3⟩
             have b8 := ((D6.out.box.alloc (.cells #[.int .i64 0, .slice none 0 0] 38)).drew).keeps k3 (fun h => h)
             have hz8 := k3.size
             simp at hz8
             have B8 := Lib.hid b8
             have O8 := Lib.hid (((O6.out.alloc (.cells #[.int .i64 0, .slice none 0 0] 38)).drew).keeps k3 (fun _ _ h => h))
             have K8 := Lib.hid ((K6.out.alloc (.cells #[.int .i64 0, .slice none 0 0] 38)).drew.trans k3 (fun _ _ h => h))
             have hx := ((Blk.new w6 38 #[.int .i64 0, .slice none 0 0] _ rfl).drew).keeps k3 (fun h => h)
             have x0 := hx.cell 0
             have x1 := hx.cell 1
             have xf0 := hx.frozen 0
             have xf1 := hx.frozen 1
             simp at x0 x1
             have HX := Lib.hid hx
             have hgx : g ≠ w6.heap.size := by omega
             clear hx
             clear b8 k3))

        · go_wp2_with fail
          go_ret
          rw [HEE.out, HTT.out]
          exact ⟨rfl, ⟨_, _, _, _, D.out.keep (K8.out.alloc _), by omega⟩, (K8.out.alloc _).mono (fun _ _ h => h.elim)⟩
        · go_wp2_with fail
          go_ret
          rw [HEE.out, HTT.out]
          have hsz6 := K6.out.size
          have hk := (K8.out.setCell ⟨w6.heap.size, 0, none⟩ (.int .i64 0) (fun h => by simp at h; omega)).setCell ⟨w6.heap.size, 1, none⟩ (.slice none 0 0) (fun h => by simp at h; omega)
          exact ⟨rfl, ⟨_, _, _, _, D.out.keep hk, by omega⟩, hk.mono (fun _ _ h => h.elim)⟩
      | some T' =>
        have hfo : foldT (zeros n) (L ++ es) = some T' := by rw [FOLD.out, hff]
        have HFOLD := Lib.hid hfo
        have hE : countE T es = 0 := by unfold countE; rw [if_neg (fun h => h (by rw [TL.out]; exact HALLE.out)), hff]
        have hT : countT T es = T' := by unfold countT; rw [if_neg (fun h => h (by rw [TL.out]; exact HALLE.out)), hff]; rfl
        have HEE := Lib.hid hE
        have HTT := Lib.hid hT
        clear hfo hE hT hff
        go_region_held3 (fun w' => w'.cell? ⟨g, 0, none⟩ = some (.int .i64 n) ∧ w'.cell? ⟨g, 1, none⟩ = some (.int .i64 no)) (first | exact SF.out _ D6.out.box | exact SF.out _ D6.out.box.drew | exact SF.out _ ((D6.out.box.alloc _).drew) | exact SF.out _ B8.out | exact SF.out _ (B8.out.alloc _) | exact SF.out _ ((B8.out.far hgx _).far hgx _))
          (first
          | (go_at_call 27; refine (book_yes no n hf (L ++ es) A5 (ln + n1) c5 w6.drew (own_reads (O6.out.drew)) HOK.out (by omega) HALL.out HFOLD.out).mono ?_
             rintro e w8 ⟨A', c', rfl, o3, k3⟩
             have b8 := (D6.out.box.drew).keeps k3 (fun h => h)
             have hz8 := k3.size
             simp at hz8
             have B8 := Lib.hid b8
             have O8 := Lib.hid ((O6.out.drew).keeps k3 (fun _ _ h => h))
             have K8 := Lib.hid (K6.out.drew.trans k3 (fun _ _ h => h))
             clear b8 k3 o3)
          | (go_at_call 27; refine (book_yes no n hf (L ++ es) A5 (ln + n1) c5 (w6.alloc (.cells #[.int .i64 0, .slice none 0 0] 38)).drew (own_reads ((O6.out.alloc (.cells #[.int .i64 0, .slice none 0 0] 38)).drew)) HOK.out (by omega) HALL.out HFOLD.out).mono ?_
             rintro e w8 ⟨A', c', rfl, o3, k3⟩
             have b8 := ((D6.out.box.alloc (.cells #[.int .i64 0, .slice none 0 0] 38)).drew).keeps k3 (fun h => h)
             have hz8 := k3.size
             simp at hz8
             have B8 := Lib.hid b8
             have O8 := Lib.hid (((O6.out.alloc (.cells #[.int .i64 0, .slice none 0 0] 38)).drew).keeps k3 (fun _ _ h => h))
             have K8 := Lib.hid ((K6.out.alloc (.cells #[.int .i64 0, .slice none 0 0] 38)).drew.trans k3 (fun _ _ h => h))
             have hx := ((Blk.new w6 38 #[.int .i64 0, .slice none 0 0] _ rfl).drew).keeps k3 (fun h => h)
             have x0 := hx.cell 0
             have x1 := hx.cell 1
             have xf0 := hx.frozen 0
             have xf1 := hx.frozen 1
             simp at x0 x1
             have HX := Lib.hid hx
             have hgx : g ≠ w6.heap.size := by omega
             clear hx
             clear b8 k3 o3))

        · obtain ⟨w9, hw9⟩ : ∃ w9, w9 = w8.alloc (.cells #[.int .i64 no, .slice A' n c'] 38) := ⟨_, rfl⟩
          rw [← hw9]
          have k9 : Keeps (fun _ => False) w8 w9 := by rw [hw9]; exact (Keeps.refl _ w8).alloc _
          have b9 := B8.out.keeps k9 (fun h => h)
          have g2 := b9.cell 2
          have f2 := b9.frozen 2
          simp at g2
          have B9 := Lib.hid b9
          have O9 := Lib.hid (O8.out.keeps k9 (fun _ _ h => h))
          have K9 := Lib.hid (K8.out.trans k9 (fun _ _ h => h))
          clear hw9 k9 b9
          go_wp2_with fail
          go_ret
          rw [HEE.out, HTT.out]
          refine ⟨rfl, ⟨A5, ln + n1, c5, L ++ es, ⟨B9.out.set 2 _, (O9.out.setCell ⟨g, 2, none⟩ _ (fun q hq e => by rw [show q = g from e] at hq; exact O9.out.blk_ne B9.out (by decide) hq)).rebase 0 (fun _ _ => Nat.zero_le _), ((D.out.past.keeps K9.out (fun _ _ h => h)).setCell ⟨g, 2, none⟩ _ (fun q hq e => by rw [show q = g from e] at hq; exact (D.out.past.keeps K9.out (fun _ _ h => h)).blk_ne B9.out (by decide) hq)), HOK.out, HALL.out, HFOLD.out, D.out.one, D.out.few, D.out.few2⟩, Nat.le_refl _⟩, (K9.out.mono (S' := fun b => b = g) (fun _ _ h => h.elim)).setCell _ _ (fun _ => rfl)⟩
        · obtain ⟨w9, hw9⟩ : ∃ w9, w9 = (w8.setCell ⟨w6.heap.size, 0, none⟩ (.int .i64 no)).setCell ⟨w6.heap.size, 1, none⟩ (.slice A' n c') := ⟨_, rfl⟩
          rw [← hw9]
          have k9 : Keeps (fun b => b = w6.heap.size) w8 w9 := by rw [hw9]; exact ((Keeps.refl (fun b => b = w6.heap.size) w8).setCell _ _ (fun _ => rfl)).setCell _ _ (fun _ => rfl)
          have b9 := B8.out.keeps k9 hgx
          have g2 := b9.cell 2
          have f2 := b9.frozen 2
          simp at g2
          have B9 := Lib.hid b9
          have hsz6 := K6.out.size
          have O9 := Lib.hid (O8.out.keeps k9 (fun q hq e => by rw [e] at hq; exact O8.out.blk_ne HX.out (by decide) hq))
          have K9 := Lib.hid (K8.out.trans k9 (fun b hb h => by omega))
          clear hw9 k9 b9
          go_wp2_with fail
          go_ret
          rw [HEE.out, HTT.out]
          refine ⟨rfl, ⟨A5, ln + n1, c5, L ++ es, ⟨B9.out.set 2 _, (O9.out.setCell ⟨g, 2, none⟩ _ (fun q hq e => by rw [show q = g from e] at hq; exact O9.out.blk_ne B9.out (by decide) hq)).rebase 0 (fun _ _ => Nat.zero_le _), ((D.out.past.keeps K9.out (fun _ _ h => h)).setCell ⟨g, 2, none⟩ _ (fun q hq e => by rw [show q = g from e] at hq; exact (D.out.past.keeps K9.out (fun _ _ h => h)).blk_ne B9.out (by decide) hq)), HOK.out, HALL.out, HFOLD.out, D.out.one, D.out.few, D.out.few2⟩, Nat.le_refl _⟩, (K9.out.mono (S' := fun b => b = g) (fun _ _ h => h.elim)).setCell _ _ (fun _ => rfl)⟩
end
end Go.Proofs.Ytbobmilbcbileaa
