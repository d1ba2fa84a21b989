/- The desk's words, walked. -/
import Derived.Test.YtpkmdhplbpejhaaIntMap
import Derived.Test.YtpkmdhplbpejhaaStr
import Derived.Test.YtpkmdhplbpejhaaLem
import Derived.Test.YtpkmdhplbpejhaaOpen
import Derived.Deep.QuietTactic
import Derived.BigQuiet
import Derived.Outline
import Derived.RegionTactic
import Derived.ChangeAlike
namespace Go.Proofs.Ytpkmdhplbpejhaa
open Go.RowKit Mem
/-- The greatest amount. -/
theorem may_any (n : Int) (w : World) : Calls Try.prog 18 #[.int .i64 n] w fun e w' => e = .returned (.bool (decide (0 ≤ n ∧ n ≤ 999999999999))) ∧ w' = w := by
  rcases (show n < 0 ∨ (0 ≤ n ∧ n ≤ 999999999999) ∨ (0 ≤ n ∧ 999999999999 < n) by omega) with h | ⟨h1, h2⟩ | ⟨h1, h2⟩
  all_goals
    go_enter Try.func18, Try.ntmps18
    go_wp2_with fail
    go_ret
    refine ⟨?_, rfl⟩
    simp
    try omega
theorem add_any (a b : Int) (ha : isInt a) (hb : isInt b) (hs : isInt (a + b)) (w : World) : Calls Try.prog 20 #[.int .i64 a, .int .i64 b] w fun e w' => e = .returned (.tuple #[.int .i64 (a + b), .int .i64 0]) ∧ w' = w := by
  unfold isInt at ha hb hs
  have h := (Lem.add_test a b ha.1 ha.2 hb.1 hb.2).2 hs
  have hw : wrap64 (a + b) = a + b := Lem.wrap_in hs.1 hs.2
  rw [hw] at h
  go_enter Try.func20, Try.ntmps20
  go_wp2_with fail
  go_ret2
  exact ⟨rfl, rfl⟩
theorem kind_any (n : Int) (hn : isInt n) (w : World) : Calls Try.prog 8 #[.int .i64 n] w fun e w' => ∃ k : Int, 0 ≤ k ∧ k < 8 ∧ e = .returned (.int .i64 k) ∧ w' = w := by
  unfold isInt at hn
  rcases (show n < 0 ∨ 0 ≤ n by omega) with h | h
  · go_enter Try.func8, Try.ntmps8
    go_wp2_with fail
    go_ret
    refine ⟨(-(n + 1)).tmod 8, Int.tmod_nonneg _ (by omega), Int.tmod_lt_of_pos _ (by decide), ?_, rfl⟩
    first | rfl | simp
  · go_enter Try.func8, Try.ntmps8
    go_wp2_with fail
    go_ret
    refine ⟨n.tmod 8, Int.tmod_nonneg _ (by omega), Int.tmod_lt_of_pos _ (by decide), ?_, rfl⟩
    first | rfl | (simp; done) | (simp [Int.tmod_eq_emod_of_nonneg h])
/-- A member's limits: for one payment, for a day. -/
def stand : Enc (Int × Int) where
  enc := fun p => [.int .i64 p.1, .int .i64 p.2]
  size := 2
  len := fun _ => rfl
  one := fun x u h => by
    simp at h
    rcases h with rfl | rfl <;> rfl
  pos := by decide
theorem elem35 : Elem Try.prog 22 35 stand 16 := Elem.of Try.underlying22 (z := .agg #[.int .i64 0, .int .i64 0]) (by kernel_rfl) rfl
/-- A desk: its limits, and what each card has had. -/
structure Desk (w : World) (g m k : Nat) (A : Option Addr) (n c : Nat) (ls : List (Int × Int)) (M : Int → ByteArray → Int) : Prop where
  box : Blk w g 49 #[.slice A n c, .map (some m)]
  rows : Reads stand w A n ls
  far : ∀ ad, A = some ad → 0 < n → ad.block ≠ g
  map : MapIs w m k M
  good : ∀ p ∈ ls, 0 ≤ p.1 ∧ p.1 ≤ 999999999999 ∧ 0 ≤ p.2 ∧ p.2 ≤ 999999999999
  few : n ≤ 6
  had : ∀ i s, 0 ≤ M i s ∧ M i s ≤ 999999999999
section
variable {w w' : World} {g m k : Nat} {A : Option Addr} {n c : Nat} {ls : List (Int × Int)} {M : Int → ByteArray → Int} {S : Nat → Prop}
theorem Desk.farm (h : Desk w g m k A n c ls M) : ∀ ad, A = some ad → 0 < n → ad.block ≠ m := by
  intro ad e h0
  obtain ⟨ad', e', hc⟩ := h.rows.2 h0
  rw [e] at e'
  injection e' with e'
  subst e'
  have hl := h.rows.1
  have := hc 0 ls[0] 0 _ (List.getElem?_eq_getElem (by omega)) rfl
  have := h.map.ne_cell this
  rwa [block_add] at this
theorem Desk.ne (h : Desk w g m k A n c ls M) : m ≠ g := h.map.ne_blk h.box
theorem Desk.keeps (h : Desk w g m k A n c ls M) (K : Keeps S w w') (h1 : ¬ S g) (h2 : ¬ S m) (h3 : ∀ ad, A = some ad → 0 < n → ¬ S ad.block) : Desk w' g m k A n c ls M :=
  ⟨h.box.keeps K h1, h.rows.keeps K h3, h.far, h.map.keeps K h2, h.good, h.few, h.had⟩
end
theorem had_any {w : World} {g m k : Nat} {A : Option Addr} {n c : Nat} {ls : List (Int × Int)} {M : Int → ByteArray → Int} (d : Desk w g m k A n c ls M) (i : Int) (s : ByteArray) (hi : isInt i) (hs : isStr s) :
    Calls Try.prog 10 #[.pointer (some ⟨g, 0, none⟩), .int .i64 i, .string s] w fun e w' => e = .returned (.int .i64 (M i s)) ∧ w' = w := by
  have hr := d.map.look hi hs
  unfold kval at hr
  have c1 := d.box.cell 1
  simp at c1
  clear d
  go_enter Try.func10, Try.ntmps10
  go_wp2_with fail
  go_ret
  exact ⟨rfl, rfl⟩
theorem reset_any {w : World} {g m k : Nat} {A : Option Addr} {n c : Nat} {ls : List (Int × Int)} {M : Int → ByteArray → Int} (d : Desk w g m k A n c ls M) :
    Calls Try.prog 9 #[.pointer (some ⟨g, 0, none⟩)] w fun e w' => e = .returned (.tuple #[]) ∧ Desk w' g m 0 A n c ls (fun _ _ => 0) ∧ Keeps (fun b => b = m) w w' := by
  have D := Lib.hid d
  obtain ⟨w1, hr, hm, hg⟩ := d.map.clear 0
  have hr' : ∀ ty, (Builtin.clear_ #[47] ty #[.map (some m)]).run Try.prog w = .ok (.tuple #[]) w1 := fun ty => hr
  have c1 := d.box.cell 1
  simp at c1
  have kk : Keeps (fun b => b = m) w w1 := (Keeps.refl _ w).grown hg (fun b hb _ => by injection hb with hb; exact hb.symm)
  have K := Lib.hid kk
  have HM := Lib.hid hm
  clear d hm hg hr kk
  go_enter Try.func9, Try.ntmps9
  go_wp2_with fail
  go_end0
  exact ⟨rfl, ⟨D.out.box.keeps K.out (fun h => D.out.ne h.symm), D.out.rows.keeps K.out (fun ad e h0 h => D.out.farm ad e h0 h), D.out.far, HM.out, D.out.good, D.out.few, fun _ _ => by decide⟩, K.out⟩
end Go.Proofs.Ytpkmdhplbpejhaa
