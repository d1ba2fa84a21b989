/- A ledger: new, its balances, its clone: walked. -/
import Derived.Test.YtklcooepolmemaaW1
import Derived.Laws.MakeOwn
namespace Go.Proofs.Ytklcooepolmemaa
open Go.RowKit Mem
theorem elem3 : Elem Try.prog 39 3 (num .i64) 8 := Elem.of Try.underlying39 (z := .int .i64 0) (by kernel_rfl) rfl
theorem own_empty {α : Type} (E : Enc α) (w : World) (e : TypeId) (base H : Nat) (hH : w.heap.size = H) (hb : base ≤ H) : Own E (w.alloc (.cells #[] e)) base e (.slice (some ⟨H, 0, none⟩) 0 0) [] :=
  Own.new w base e #[] [] rfl H hH hb 0 rfl (Nat.zero_le _)
theorem app_empty {t : TypeId} (w : World) (H : Nat) (hH : w.heap.size = H) {w' : World} (gr : (w.alloc (.cells #[] t)).grownBy w' (Value.slice (some ⟨H, 0, none⟩) 0 0).ownBlock) : Keeps (fun _ => False) w w' :=
  (Keeps.grown (S := fun k => k = H) ((Keeps.refl _ w).alloc _) gr (fun k hk _ => by simpa [Value.ownBlock] using hk.symm)).mono (fun b hb e => by omega)
theorem own_reads {α : Type} {E : Enc α} {w : World} {base : Nat} {e : TypeId} {A : Option Addr} {n c : Nat} {l : List α} (h : Own E w base e (.slice A n c) l) : Reads E w A n l := by
  obtain ⟨_, _, er, hr, _⟩ := h.slice
  injection er with e1 e2 e3
  rw [← e1, ← e2] at hr
  exact hr
/-- A ledger: its balances in a row. -/
structure Led (w : World) (g : Nat) (A : Option Addr) (n c : Nat) (bs : List Int) : Prop where
  box : Blk w g 59 #[.slice A n c]
  row : Own (num .i64) w 0 3 (.slice A n c) bs
  ints : ∀ b ∈ bs, isInt b
  one : 1 ≤ n
  few : n ≤ 7
section
variable {w w' : World} {g : Nat} {A : Option Addr} {n c : Nat} {bs : List Int}
theorem Led.keep (h : Led w g A n c bs) (K : Keeps (fun _ => False) w w') : Led w' g A n c bs :=
  ⟨h.box.keeps K (fun h => h), h.row.keeps K (fun _ _ h => h), h.ints, h.one, h.few⟩
theorem Led.keepg (h : Led w g A n c bs) {g' : Nat} {cs : Array Value} (hb : Blk w g' 59 cs) (hne : g ≠ g') (K : Keeps (fun b => b = g') w w') : Led w' g A n c bs :=
  ⟨h.box.keeps K hne, h.row.keeps K (fun k hk e => by subst e; exact h.row.blk_ne hb (by decide) hk), h.ints, h.one, h.few⟩
end
theorem intsClone_any (L : List Int) (ad : Addr) (n c : Nat) (w : World) (hr : Reads (num .i64) w (some ad) n L) (hn : n ≤ 1000) :
    Calls Try.prog 24 #[.slice (some ad) n c] w fun e w' => ∃ A' c', e = .returned (.slice A' n c') ∧ Own (num .i64) w' w.heap.size 3 (.slice A' n c') L ∧ Keeps (fun _ => False) w w' := by
  have HL := Lib.hid hr.1
  have R := Lib.hid hr
  have he : ∀ W, (binOp BinOp.eql 39 (.slice (some ad) n c) (.slice none 0 0)).run Try.prog W = .ok (.bool false) W := fun W => by kernel_rfl
  clear hr
  go_enter Try.func24, Try.ntmps24
  go_wp2_with (at_builtin; refine wp_append elem3 (by rfl) (.tmp 5) (.tmp 6) (by rfl) w.heap.size (.slice (some ⟨w.heap.size, 0, none⟩) 0 0) [] L (some ad) n c rfl rfl (own_empty _ _ _ _ _ rfl (Nat.le_refl _)) (R.out.alloc _) (by simp; omega) (by simp [maxLen]; omega) (by simp) ?_
               intro v3 w3 own3 gr3 at3
               rw [List.nil_append] at own3
               obtain ⟨A3, c3, hv3, _⟩ := Own.val own3 HL.out
               rw [hv3]
               rw [hv3] at own3
               have O := Lib.hid own3
               have K := Lib.hid (app_empty w w.heap.size rfl gr3)
               clear own3 gr3 at3 hv3)
  go_ret
  exact ⟨A3, c3, rfl, O.out, K.out⟩
theorem len_any {w : World} {g : Nat} {A : Option Addr} {n c : Nat} {bs : List Int} (d : Led w g A n c bs) :
    Calls Try.prog 21 #[.pointer (some ⟨g, 0, none⟩)] w fun e w' => e = .returned (.int .i64 n) ∧ w' = w := by
  have c0 := d.box.cell 0
  simp at c0
  clear d
  go_enter Try.func21, Try.ntmps21
  go_wp2_with fail
  go_ret
  exact ⟨rfl, rfl⟩
theorem balance_in {w : World} {g : Nat} {A : Option Addr} {n c : Nat} {bs : List Int} (d : Led w g A n c bs) (i : Nat) (b : Int) (hb : bs[i]? = some b) :
    Calls Try.prog 11 #[.pointer (some ⟨g, 0, none⟩), .int .i64 i] w fun e w' => e = .returned (.tuple #[.int .i64 b, .int .i64 0]) ∧ w' = w := by
  have c0 := d.box.cell 0
  simp at c0
  have hl : bs.length = n := d.row.len_eq rfl
  have hi : i < n := by have := (List.getElem?_eq_some_iff.1 hb).1; omega
  obtain ⟨ad, hA, hc⟩ := (own_reads d.row).at_ hb
  subst hA
  have q0 : w.cell? (ad.add i) = some (.int .i64 b) := by
    have := hc 0 _ rfl
    simpa [num] using this
  have t1 : decide ((i : Int) < 0) = false := by simp
  have t2 : decide ((n : Int) ≤ (i : Int)) = false := by simp; omega
  have t3 : decide (n ≤ i) = false := by simp; omega
  clear d hc hb hl
  go_enter Try.func11, Try.ntmps11
  go_wp2_with fail
  go_ret2
  exact ⟨rfl, rfl⟩
theorem balance_out {w : World} {g : Nat} {A : Option Addr} {n c : Nat} {bs : List Int} (d : Led w g A n c bs) (i : Int) (h : i < 0 ∨ (n : Int) ≤ i) :
    Calls Try.prog 11 #[.pointer (some ⟨g, 0, none⟩), .int .i64 i] w fun e w' => e = .returned (.tuple #[.int .i64 0, .int .i64 121]) ∧ w' = w := by
  have c0 := d.box.cell 0
  simp at c0
  clear d
  rcases (show i < 0 ∨ (¬ i < 0 ∧ (n : Int) ≤ i) by omega) with h | ⟨h, h'⟩
  all_goals
    go_enter Try.func11, Try.ntmps11
    go_wp2_with fail
    go_ret2
    exact ⟨rfl, rfl⟩
theorem clone_any {w : World} {g : Nat} {A : Option Addr} {n c : Nat} {bs : List Int} (d : Led w g A n c bs) :
    Calls Try.prog 12 #[.pointer (some ⟨g, 0, none⟩)] w fun e w' => ∃ g' A' c', e = .returned (.pointer (some ⟨g', 0, none⟩)) ∧ Led w' g' A' n c' bs ∧ w.heap.size ≤ g' ∧ Keeps (fun _ => False) w w' := by
  have c0 := d.box.cell 0
  simp at c0
  have hl : bs.length = n := d.row.len_eq rfl
  have hone := d.one
  have hfew := d.few
  obtain ⟨ad, hA, _⟩ := (own_reads d.row).2 (by omega)
  subst hA
  have R := Lib.hid (own_reads d.row)
  have D := Lib.hid d
  clear d hl
  go_enter Try.func12, Try.ntmps12
  go_wp2_with (go_at_call 24; refine (intsClone_any bs ad n c w R.out (by omega)).mono ?_
               rintro e w3 ⟨A3, c3, rfl, o3, k3⟩
               have O3 := Lib.hid o3
               have K3 := Lib.hid k3
               clear o3 k3)
  go_ret
  exact ⟨w3.heap.size, A3, c3, rfl, ⟨Blk.new w3 59 _ _ rfl, (O3.out.alloc _).rebase 0 (fun _ _ => Nat.zero_le _), D.out.ints, hone, hfew⟩, K3.out.size, K3.out.alloc _⟩
theorem made_one (z : Value) (n : Nat) : (madeCells #[z] n).toList = List.replicate n z := by
  apply List.ext_getElem?
  intro k
  by_cases h : k < n
  · rw [List.getElem?_eq_getElem (by simp [madeCells]; exact h), List.getElem?_eq_getElem (by simp; exact h)]
    simp [madeCells, Nat.mod_one]
  · rw [List.getElem?_eq_none (by simp [madeCells]; omega), List.getElem?_eq_none (by simp; omega)]
theorem all_zeros (n : Nat) : (num .i64).all (List.replicate n 0) = List.replicate n (.int .i64 0) := by
  induction n with
  | zero => rfl
  | succ n ih =>
    rw [List.replicate_succ, List.replicate_succ]
    show (num .i64).enc 0 ++ (num .i64).all (List.replicate n 0) = _
    rw [ih]
    rfl
theorem make_ints (n : Nat) (hn : n ≤ 1000) (W : World) : (Instr.makeSlice 39 (.int .i64 n) (.int .i64 n)).run Try.prog W = .ok (.slice (some ⟨W.heap.size, 0, none⟩) n n) (W.alloc (.cells (madeCells #[.int .i64 0] n) 3)) := by
  have hinf : (Try.prog.info? 3).map (fun i => (i.zero, i.size, i.bytes)) = some (some (.int .i64 0), 1, 8) := by kernel_rfl
  obtain ⟨i, hi, hz⟩ := Option.map_eq_some_iff.1 hinf
  simp only [Prod.mk.injEq] at hz
  obtain ⟨hz0, hz1, hz2⟩ := hz
  have := run_makeSlice (P := Try.prog) W 39 3 i (.int .i64 0) Try.underlying39 hi hz0 .i64 .i64 n n (by omega) (Int.le_refl _) (by rw [hz1]; simp; omega) (by rw [hz2]; omega) (by omega)
  rw [hz1] at this
  simpa [Value.cells] using this
theorem new_any (n : Nat) (w : World) (h1 : 1 ≤ n) (h7 : n ≤ 7) :
    Calls Try.prog 9 #[.int .i64 n] w fun e w' => ∃ g A c, e = .returned (.tuple #[.pointer (some ⟨g, 0, none⟩), .int .i64 0]) ∧ Led w' g A n c (List.replicate n 0) ∧ w.heap.size ≤ g ∧ Keeps (fun _ => False) w w' := by
  have t1 : decide ((n : Int) < 1) = false := by simp; omega
  have t2 : decide ((7 : Int) < (n : Int)) = false := by simp; omega
  have t3 : decide (7 < n) = false := by simp; omega
  have t4 : decide (n < 1) = false := by simp; omega
  have hmk := make_ints n (by omega)
  go_enter Try.func9, Try.ntmps9
  go_wp2_with fail
  go_ret2
  refine ⟨w.heap.size + 1, some ⟨w.heap.size, 0, none⟩, n, rfl, ⟨Blk.new _ 59 _ _ (by simp), ?_, fun b hb => by rw [List.eq_of_mem_replicate hb]; decide, h1, h7⟩, by omega, ((Keeps.refl _ w).alloc _).alloc _⟩
  exact ((Own.new w w.heap.size 3 (madeCells #[.int .i64 0] n) (List.replicate n 0) (by rw [made_one, all_zeros]) _ rfl (Nat.le_refl _) n (by simp) (by unfold maxLen; omega)).alloc _).rebase 0 (fun _ _ => Nat.zero_le _)
end Go.Proofs.Ytklcooepolmemaa
