/- The document's sums: walked. -/
import Derived.Test.YtbobmilbcbileaaBook
import Derived.Test.YtbobmilbcbileaaStep
namespace Go.Proofs.Ytbobmilbcbileaa
open Go.RowKit Mem
/-- The document's sums: the entries of today, the last day's book. -/
structure RS (w : World) (g : Nat) (n : Nat) (no : Int) (A : Option Addr) (ln c : Nat) (no2 : Int) (A2 : Option Addr) (n2 c2 : Nat) (cl : Bool) (L : List (Int × Int)) (T T2 : List T6) : Prop where
  box : Blk w g 68 #[.int .i64 n, .int .i64 no, .slice A ln c, .int .i64 no2, .slice A2 n2 c2, .bool cl]
  row : Own entry w 0 34 (.slice A ln c) L
  past : Own total w 0 41 (.slice A2 n2 c2) T2
  ok : ∀ e ∈ L, okE e
  all : inAll n L
  fold : foldT (zeros n) L = some T
  one : 1 ≤ n
  few : n ≤ 7
  few2 : n2 ≤ 7
section
variable {w w' : World} {g n : Nat} {no : Int} {A : Option Addr} {ln c : Nat} {no2 : Int} {A2 : Option Addr} {n2 c2 : Nat} {cl : Bool} {L : List (Int × Int)} {T T2 : List T6}
theorem RS.keep (h : RS w g n no A ln c no2 A2 n2 c2 cl L T T2) (K : Keeps (fun _ => False) w w') : RS w' g n no A ln c no2 A2 n2 c2 cl L T T2 :=
  ⟨h.box.keeps K (fun h => h), h.row.keeps K (fun _ _ h => h), h.past.keeps K (fun _ _ h => h), h.ok, h.all, h.fold, h.one, h.few, h.few2⟩
theorem RS.keepl (h : RS w g n no A ln c no2 A2 n2 c2 cl L T T2) {g' : Nat} {cs : Array Value} (hb : Blk w g' 64 cs) (K : Keeps (fun b => b = g') w w') : RS w' g n no A ln c no2 A2 n2 c2 cl L T T2 :=
  ⟨h.box.keeps K (h.box.ne_ hb (by decide)), h.row.keeps K (fun k hk e => by rw [e] at hk; exact h.row.blk_ne hb (by decide) hk), h.past.keeps K (fun k hk e => by rw [e] at hk; exact h.past.blk_ne hb (by decide) hk), h.ok, h.all, h.fold, h.one, h.few, h.few2⟩
theorem RS.keepg (h : RS w g n no A ln c no2 A2 n2 c2 cl L T T2) {g' : Nat} {cs : Array Value} (hb : Blk w g' 68 cs) (hne : g ≠ g') (K : Keeps (fun b => b = g') w w') : RS w' g n no A ln c no2 A2 n2 c2 cl L T T2 :=
  ⟨h.box.keeps K hne, h.row.keeps K (fun k hk e => by rw [e] at hk; exact h.row.blk_ne hb (by decide) hk), h.past.keeps K (fun k hk e => by rw [e] at hk; exact h.past.blk_ne hb (by decide) hk), h.ok, h.all, h.fold, h.one, h.few, h.few2⟩
theorem S5.keepr {g5 : Nat} {no5 : Int} {A5 : Option Addr} {n5 c5 : Nat} {no6 : Int} {A6 : Option Addr} {n6 c6 : Nat} {cl5 : Bool} {T5 T6' : List T6} (h : S5 w g5 no5 A5 n5 c5 no6 A6 n6 c6 cl5 T5 T6') {g' : Nat} {cs : Array Value} (hb : Blk w g' 68 cs) (K : Keeps (fun b => b = g') w w') : S5 w' g5 no5 A5 n5 c5 no6 A6 n6 c6 cl5 T5 T6' :=
  ⟨h.box.keeps K (h.box.ne_ hb (by decide)), h.row.keeps K (fun k hk e => by rw [e] at hk; exact h.row.blk_ne hb (by decide) hk), h.last.keeps K (fun k hk e => by rw [e] at hk; exact h.last.blk_ne hb (by decide) hk), h.ts, h.few, h.few2⟩
theorem RS.acc {d : RS w g n no A ln c no2 A2 n2 c2 cl L T T2} : ln = L.length := (d.row.len_eq rfl).symm
end
theorem refNew_any (n : Nat) (w : World) (h1 : 1 ≤ n) (h7 : n ≤ 7) :
    Calls Try.prog 16 #[.int .i64 n] w fun e w' => ∃ g, e = .returned (.tuple #[.pointer (some ⟨g, 0, none⟩), .int .i64 0]) ∧ RS w' g n 1 none 0 0 0 none 0 0 false [] (zeros n) [] ∧ w.heap.size ≤ g ∧ Keeps (fun _ => False) w w' := by
  have t1 : decide ((n : Int) < 1) = false := by simp; omega
  have t2 : decide ((7 : Int) < (n : Int)) = false := by simp; omega
  have t3 : decide (7 < n) = false := by simp; omega
  have t4 : decide (n < 1) = false := by simp; omega
  go_enter Try.func16, Try.ntmps16
  go_wp2_with fail
  go_ret2
  exact ⟨w.heap.size, rfl, ⟨Blk.new w 68 _ _ rfl, Own.nil _ _ _ _, Own.nil _ _ _ _, by simp, fun e he => by simp at he, rfl, h1, h7, by omega⟩, Nat.le_refl _, (Keeps.refl _ w).alloc _⟩
theorem refNew_no (n : Int) (w : World) (h : n < 1 ∨ 7 < n) : Calls Try.prog 16 #[.int .i64 n] w fun e w' => e = .returned (.tuple #[.pointer none, .int .i64 1]) ∧ w' = w := by
  rcases (show n < 1 ∨ (¬ n < 1 ∧ 7 < n) by omega) with h1 | ⟨h1, h2⟩
  all_goals
    clear h
    go_enter Try.func16, Try.ntmps16
    go_wp2_with fail
    go_ret2
    exact ⟨rfl, rfl⟩
theorem new_no (n : Int) (w : World) (h : n < 1 ∨ 7 < n) : Calls Try.prog 8 #[.int .i64 n] w fun e w' => e = .returned (.tuple #[.pointer none, .int .i64 1]) ∧ w' = w := by
  rcases (show n < 1 ∨ (¬ n < 1 ∧ 7 < n) by omega) with h1 | ⟨h1, h2⟩
  all_goals
    clear h
    go_enter Try.func8, Try.ntmps8
    go_wp2_with fail
    go_ret2
    exact ⟨rfl, rfl⟩
section
variable {w : World} {g n : Nat} {no : Int} {A : Option Addr} {ln c : Nat} {no2 : Int} {A2 : Option Addr} {n2 c2 : Nat} {cl : Bool} {L : List (Int × Int)} {T T2 : List T6}
theorem clone_any (d : S5 w g no A n c no2 A2 n2 c2 cl T T2) : Calls Try.prog 17 #[.pointer (some ⟨g, 0, none⟩)] w fun e w' => ∃ g', e = .returned (.pointer (some ⟨g', 0, none⟩)) ∧ S5 w' g' no A n c no2 A2 n2 c2 cl T T2 ∧ w.heap.size ≤ g' ∧ Keeps (fun _ => False) w w' := by
  have c0 := d.box.cell 0
  have c1 := d.box.cell 1
  have c2' := d.box.cell 2
  have c3 := d.box.cell 3
  have c4 := d.box.cell 4
  simp at c0 c1 c2' c3 c4
  have D := Lib.hid d
  clear d
  go_enter Try.func17, Try.ntmps17
  go_wp2_with fail
  go_ret
  exact ⟨w.heap.size, rfl, ⟨Blk.new w 64 _ _ rfl, D.out.row.alloc _, D.out.last.alloc _, D.out.ts, D.out.few, D.out.few2⟩, Nat.le_refl _, (Keeps.refl _ w).alloc _⟩
theorem refClone_any (d : RS w g n no A ln c no2 A2 n2 c2 cl L T T2) : Calls Try.prog 18 #[.pointer (some ⟨g, 0, none⟩)] w fun e w' => ∃ g', e = .returned (.pointer (some ⟨g', 0, none⟩)) ∧ RS w' g' n no A ln c no2 A2 n2 c2 cl L T T2 ∧ w.heap.size ≤ g' ∧ Keeps (fun _ => False) w w' := by
  have c0 := d.box.cell 0
  have c1 := d.box.cell 1
  have c2' := d.box.cell 2
  have c3 := d.box.cell 3
  have c4 := d.box.cell 4
  have c5 := d.box.cell 5
  simp at c0 c1 c2' c3 c4 c5
  have D := Lib.hid d
  clear d
  go_enter Try.func18, Try.ntmps18
  go_wp2_with fail
  go_ret
  exact ⟨w.heap.size, rfl, ⟨Blk.new w 68 _ _ rfl, D.out.row.alloc _, D.out.past.alloc _, D.out.ok, D.out.all, D.out.fold, D.out.one, D.out.few, D.out.few2⟩, Nat.le_refl _, (Keeps.refl _ w).alloc _⟩
end
def knd (c : Int) : Int := (if c < 0 then -(c + 1) else c) % 6
theorem kind_any (c : Int) (hc : isInt c) (w : World) : Calls Try.prog 19 #[.int .i64 c] w fun e w' => e = .returned (.int .i64 (knd c)) ∧ w' = w := by
  unfold isInt at hc
  unfold knd
  by_cases h : c < 0
  · rw [if_pos h]
    have h3 : (-(c + 1)).tmod 6 = (-(c + 1)) % 6 := Int.tmod_eq_emod_of_nonneg (by omega)
    obtain ⟨r, hr⟩ : ∃ r, r = (-(c + 1)) % 6 := ⟨_, rfl⟩
    rw [← hr] at h3 ⊢
    have hr1 : 0 ≤ r ∧ r < 6 := by omega
    clear hr
    go_enter Try.func19, Try.ntmps19
    go_wp2_with fail
    go_ret
    exact ⟨rfl, rfl⟩
  · rw [if_neg h]
    have h3 : c.tmod 6 = c % 6 := Int.tmod_eq_emod_of_nonneg (by omega)
    obtain ⟨r, hr⟩ : ∃ r, r = c % 6 := ⟨_, rfl⟩
    rw [← hr] at h3 ⊢
    have hr1 : 0 ≤ r ∧ r < 6 := by omega
    clear hr
    go_enter Try.func19, Try.ntmps19
    go_wp2_with fail
    go_ret
    exact ⟨rfl, rfl⟩
end Go.Proofs.Ytbobmilbcbileaa
