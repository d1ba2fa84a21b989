/- The document's ledger: walked. -/
import Derived.Test.YtklcooepolmemaaW10
import Derived.Test.YtklcooepolmemaaStep
namespace Go.Proofs.Ytklcooepolmemaa
open Go.RowKit Mem
/-- The document's ledger. -/
structure RLed (w : World) (g : Nat) (A : Option Addr) (n c : Nat) (bs : List Int) : Prop where
  box : Blk w g 41 #[.slice A n c]
  row : Own (num .i64) w 0 3 (.slice A n c) bs
  ints : ∀ b ∈ bs, isInt b
  one : 1 ≤ n
  few : n ≤ 7
section
variable {w w' : World} {g : Nat} {A : Option Addr} {n c : Nat} {bs : List Int}
theorem RLed.keep (h : RLed w g A n c bs) (K : Keeps (fun _ => False) w w') : RLed w' g A n c bs :=
  ⟨h.box.keeps K (fun h => h), h.row.keeps K (fun _ _ h => h), h.ints, h.one, h.few⟩
theorem RLed.keepl (h : RLed w g A n c bs) {g' : Nat} {cs : Array Value} (hb : Blk w g' 59 cs) (K : Keeps (fun b => b = g') w w') : RLed w' g A n c bs :=
  ⟨h.box.keeps K (h.box.ne_ hb (by decide)), h.row.keeps K (fun k hk e => by subst e; exact h.row.blk_ne hb (by decide) hk), h.ints, h.one, h.few⟩
theorem RLed.keepg (h : RLed w g A n c bs) {g' : Nat} {cs : Array Value} (hb : Blk w g' 41 cs) (hne : g ≠ g') (K : Keeps (fun b => b = g') w w') : RLed w' g A n c bs :=
  ⟨h.box.keeps K hne, h.row.keeps K (fun k hk e => by subst e; exact h.row.blk_ne hb (by decide) hk), h.ints, h.one, h.few⟩
theorem Led.keepr (h : Led w g A n c bs) {g' : Nat} {cs : Array Value} (hb : Blk w g' 41 cs) (K : Keeps (fun b => b = g') w w') : Led w' g A n c bs :=
  ⟨h.box.keeps K (h.box.ne_ hb (by decide)), h.row.keeps K (fun k hk e => by subst e; exact h.row.blk_ne hb (by decide) hk), h.ints, h.one, h.few⟩
end
theorem refNew_any (n : Nat) (w : World) (h1 : 1 ≤ n) (h7 : n ≤ 7) :
    Calls Try.prog 13 #[.int .i64 n] w fun e w' => ∃ g A c, e = .returned (.tuple #[.pointer (some ⟨g, 0, none⟩), .int .i64 0]) ∧ RLed w' g A n c (List.replicate n 0) ∧ w.heap.size ≤ g ∧ Keeps (fun _ => False) w w' := by
  have t1 : decide ((n : Int) < 1) = false := by simp; omega
  have t2 : decide ((7 : Int) < (n : Int)) = false := by simp; omega
  have t3 : decide (7 < n) = false := by simp; omega
  have t4 : decide (n < 1) = false := by simp; omega
  have hmk := make_ints n (by omega)
  go_enter Try.func13, Try.ntmps13
  go_wp2_with fail
  go_ret2
  refine ⟨w.heap.size + 1, some ⟨w.heap.size, 0, none⟩, n, rfl, ⟨Blk.new _ 41 _ _ (by simp), ?_, fun b hb => by rw [List.eq_of_mem_replicate hb]; decide, h1, h7⟩, by omega, ((Keeps.refl _ w).alloc _).alloc _⟩
  exact ((Own.new w w.heap.size 3 (madeCells #[.int .i64 0] n) (List.replicate n 0) (by rw [made_one, all_zeros]) _ rfl (Nat.le_refl _) n (by simp) (by unfold maxLen; omega)).alloc _).rebase 0 (fun _ _ => Nat.zero_le _)
theorem refNew_no (n : Int) (w : World) (h : n < 1 ∨ 7 < n) : Calls Try.prog 13 #[.int .i64 n] w fun e w' => e = .returned (.tuple #[.pointer none, .int .i64 1]) ∧ w' = w := by
  rcases (show n < 1 ∨ (¬ n < 1 ∧ 7 < n) by omega) with h1 | ⟨h1, h2⟩
  all_goals
    clear h
    go_enter Try.func13, Try.ntmps13
    go_wp2_with fail
    go_ret2
    exact ⟨rfl, rfl⟩
/-- A ledger is as the document's. -/
theorem like_any {w : World} {g : Nat} {A : Option Addr} {n c : Nat} {bs : List Int} (d : Led w g A n c bs) {g' : Nat} {A' : Option Addr} {c' : Nat} (r : RLed w g' A' n c' bs) :
    Calls Try.prog 16 #[.pointer (some ⟨g, 0, none⟩), .pointer (some ⟨g', 0, none⟩)] w fun e w' => e = .returned (.bool true) ∧ Keeps (fun _ => False) w w' := by
  have c0 := r.box.cell 0
  simp at c0
  have D := Lib.hid d
  have R := Lib.hid r
  have hln : bs.length = n := d.row.len_eq rfl
  have HLN := Lib.hid hln
  have h7 := d.few
  clear d r hln
  go_enter Try.func16, Try.ntmps16
  go_wp2_with fail
  go_loop [5] (fun v => ∃ (k : Nat) (q : Int), k ≤ n + 2 ∧ q ≤ (k : Int) - 1 ∧ (k : Int) - 1 ≤ q ∧ v = .int .i64 q) (fun v => (n + 1 - intOf v).toNat)
  case atStart => exact ⟨0, -1, by omega, by omega, by omega, rfl⟩
  case round =>
    obtain ⟨k, q, hk, hq1, hq2, rfl⟩ := hrel
    rcases (show q = -1 ∨ (0 ≤ q ∧ q < n) ∨ q = n ∨ (n : Int) < q by omega) with h | ⟨h1, h2⟩ | h | h
    · subst h
      have t1 : decide ((n : Int) < -1) = false := by simp
      have t2 : decide (-1 ≤ (n : Int)) = true := by simp
      go_wp2_with (go_at_call 11; refine (balance_out D.out (-1) (by omega)).mono ?_
                   rintro e w1 ⟨rfl, hw1⟩
                   rw [hw1]
                   clear hw1)
      refine ⟨⟨1, 0, by omega, by omega, by omega, rfl⟩, by simp [intOf]; omega⟩
    · obtain ⟨i, rfl⟩ := Int.eq_ofNat_of_zero_le h1
      have hin : i < n := by omega
      obtain ⟨b, hb⟩ : ∃ b, bs[i]? = some b := ⟨_, List.getElem?_eq_getElem (by rw [HLN.out]; exact hin)⟩
      obtain ⟨ad, hA, hc⟩ := (own_reads R.out.row).at_ hb
      subst hA
      have p0 := hc 0 _ rfl
      simp [num] at p0
      have HB := Lib.hid hb
      have t1 : decide ((n : Int) ≤ (i : Int)) = false := by simp; omega
      have t3 : decide (n ≤ i) = false := by simp; omega
      have t4 : decide ((i : Int) ≤ (n : Int)) = true := by simp; omega
      have t5 : decide (i ≤ n) = true := by simp; omega
      clear hc hb
      go_wp2_with (go_at_call 11; refine (balance_in D.out i b HB.out).mono ?_
                   rintro e w1 ⟨rfl, hw1⟩
                   rw [hw1]
                   clear hw1)
      refine ⟨⟨i + 2, (i : Int) + 1, by omega, by omega, by omega, rfl⟩, by simp [intOf]; omega⟩
    · subst h
      have t1 : decide ((n : Int) ≤ (n : Int)) = true := by simp
      have t3 : decide (n ≤ n) = true := by simp
      go_wp2_with (go_at_call 11; refine (balance_out D.out (n : Int) (by omega)).mono ?_
                   rintro e w1 ⟨rfl, hw1⟩
                   rw [hw1]
                   clear hw1)
      refine ⟨⟨n + 2, (n : Int) + 1, by omega, by omega, by omega, rfl⟩, by simp [intOf]⟩
    · have t1 : decide (q ≤ (n : Int)) = false := by simp; omega
      go_wp2_with fail
      go_quiet ((go_at_call 21; exact Calls.quiet_of_same (len_any (D.out.keep ((Keeps.refl _ w).drewN _)))))
      go_wp2_with fail
      go_ret
      exact ⟨rfl, (Keeps.refl _ w).drewN _⟩
end Go.Proofs.Ytklcooepolmemaa
