/- The small functions of a link, walked. -/
import Derived.Test.YtaccdbiajcnlaaaProg
import Derived.Test.YtaccdbiajcnlaaaMem
import Derived.Test.YtaccdbiajcnlaaaPlain
import Derived.Deep.QuietTactic
import Derived.BigQuiet
import Derived.Outline
namespace Go.Proofs.Ytaccdbiajcnlaaa
open Go.RowKit Mem
theorem may_yes (n : Int) (h1 : 0 < n) (h2 : n ≤ 512) (w : World) : Calls Try.prog 18 #[.int .i64 n] w fun e w' => e = .returned (.bool true) ∧ w' = w := by
  go_enter Try.func18, Try.ntmps18
  go_wp2
  go_ret
  exact ⟨rfl, rfl⟩
theorem may_no (n : Int) (h : n ≤ 0 ∨ 512 < n) (w : World) : Calls Try.prog 18 #[.int .i64 n] w fun e w' => e = .returned (.bool false) ∧ w' = w := by
  rcases h with h | h
  · go_enter Try.func18, Try.ntmps18
    go_wp2
    go_ret
    exact ⟨rfl, rfl⟩
  · have h0 : 0 < n := by omega
    have hd : decide (n ≤ 512) = false := by simpa using h
    go_enter Try.func18, Try.ntmps18
    go_wp2
    go_ret
    exact ⟨rfl, rfl⟩
theorem wraps_i64 (n : Int) (h₀ : 0 ≤ n) (h₁ : n < 2 ^ 63) : IntKind.i64.wrap n = n := IntWalk.i64_in n (by omega)
/-- Two bytes put together, the higher one first. -/
theorem or_bytes {x y : Nat} (hx : x < 256) (hy : y < 256) : bits .or .i64 ((x : Int) * 256) (y : Int) = ((256 * x + y : Nat) : Int) := by
  rw [bits_join .i64 63 (by decide) wraps_i64 8 ((x : Int) * 256) (y : Int) (by omega) (by omega) (by omega) (by omega) (by omega) (by omega)]
  omega
set_option maxRecDepth 100000 in
set_option maxHeartbeats 800000 in
/-- The closure of Feed: is the next frame whole, or its length wrong? -/
theorem whole_long (B : Nat) (A : Option Addr) (m c : Nat) (R : List Nat) (w : World) (hb : Blk w B 22 #[.slice A m c]) (hr : Reads byte w A m R) (hl : ∀ x ∈ R, x < 256) (h2 : 2 ≤ m) (hm : m ≤ 281474976710000) :
    Calls Try.prog 19 #[.pointer (some ⟨B, 0, none⟩)] w fun e w' => ∃ q, e = .returned (.tuple #[.int .i64 (num2 R), .bool (decide (num2 R = 0 ∨ 512 < num2 R) || decide (2 + num2 R ≤ m))]) ∧ w' = w.drewN q := by
  have hc := hb.cell 0
  simp at hc
  obtain ⟨a, rfl, c0⟩ := hr.byteAt (show 0 < m by omega)
  obtain ⟨a', e, c1⟩ := hr.byteAt (show 1 < m by omega)
  injection e with e
  subst e
  rw [add_zero'] at c0
  rw [add_pos a (by decide)] at c1
  have x0 := nth_lt hl 0
  have x1 := nth_lt hl 1
  have hn : num2 R = 256 * nth R 0 + nth R 1 := rfl
  have HN := Lib.hid hn
  have HB := Lib.hid hb
  have HR := Lib.hid hr
  clear hb hr hl hn
  have i3 : 0 < m := by omega
  have i4 : 1 < m := by omega
  have y0 : IntKind.i64.wrap ((nth R 0 : Nat) : Int) = ((nth R 0 : Nat) : Int) := IntWalk.i64_in _ (by omega)
  have y1 : IntKind.i64.wrap ((nth R 1 : Nat) : Int) = ((nth R 1 : Nat) : Int) := IntWalk.i64_in _ (by omega)
  have y2 : IntKind.i64.wrap (((nth R 0 : Nat) : Int) * 256) = ((nth R 0 : Nat) : Int) * 256 := IntWalk.i64_in _ (by omega)
  have y3 : bits .or .i64 (((nth R 0 : Nat) : Int) * 256) ((nth R 1 : Nat) : Int) = ((num2 R : Nat) : Int) := by rw [HN.out]; exact or_bytes x0 x1
  have y4 : IntKind.i64.wrap (2 + ((num2 R : Nat) : Int)) = 2 + ((num2 R : Nat) : Int) := IntWalk.i64_in _ (by rw [HN.out]; omega)
  go_enter Try.func19, Try.ntmps19
  go_wp2_with fail
  go_quiet (fail)
  clear y0 y1 y2 y3
  have hc1 : (w.drewN nq).cell? ⟨B, 0, none⟩ = some (.slice (some a) m c) := hc
  generalize hw1 : w.drewN nq = w1 at hc1 ⊢
  have HW := Lib.hid hw1
  clear hw1 hc
  by_cases hbad : num2 R = 0 ∨ 512 < num2 R
  · have d1 : (decide (num2 R = 0 ∨ 512 < num2 R) || decide (2 + num2 R ≤ m)) = true := by simp [hbad]
    have D := Lib.hid d1
    clear d1
    go_wp2_with fail
    go_quiet ((go_at_call 18; exact Calls.quiet_of_same (may_no _ (by omega) _)))
    go_wp2_with fail
    refine bodyPost_ret (v := .tuple #[.int .i64 (num2 R), .bool true]) (by simp [results, Try.results19, go_sem]) rfl ⟨_, by rw [D.out], by rw [← HW.out, World.drewN_drewN]⟩
  · have d1 : (decide (num2 R = 0 ∨ 512 < num2 R) || decide (2 + num2 R ≤ m)) = decide (2 + num2 R ≤ m) := by simp [hbad]
    have D := Lib.hid d1
    clear d1
    go_wp2_with fail
    go_quiet ((go_at_call 18; exact Calls.quiet_of_same (may_yes _ (by omega) (by omega) _)))
    go_wp2_with fail
    go_ret2
    refine ⟨_, ?_, by rw [← HW.out, World.drewN_drewN]⟩
    rw [D.out]
    have e : decide (2 + ((num2 R : Nat) : Int) ≤ (m : Int)) = decide (2 + num2 R ≤ m) := decide_eq_decide.2 (by omega)
    rw [← e]
    rfl
theorem whole_short (B : Nat) (A : Option Addr) (m c : Nat) (w : World) (hb : Blk w B 22 #[.slice A m c]) (h2 : m < 2) :
    Calls Try.prog 19 #[.pointer (some ⟨B, 0, none⟩)] w fun e w' => e = .returned (.tuple #[.int .i64 0, .bool false]) ∧ w' = w := by
  have hc := hb.cell 0
  simp at hc
  have HB := Lib.hid hb
  clear hb
  go_enter Try.func19, Try.ntmps19
  go_wp2_with fail
  go_ret2
  exact ⟨rfl, rfl⟩
end Go.Proofs.Ytaccdbiajcnlaaa
