/- What is due: how it lies; how two are compared: walked. -/
import Derived.Test.YteeginfbonfhlaaProg
import Derived.Test.YteeginfbonfhlaaCopy
import Derived.Test.YteeginfbonfhlaaStep
import Derived.Test.YteeginfbonfhlaaLem
import Derived.Test.YteeginfbonfhlaaOpen
import Derived.Laws.MakeOwn
import Derived.Laws.ResultCell
import Derived.IntWalk
import Derived.Deep.QuietTactic
import Derived.BigQuiet
import Derived.BigRegion
import Derived.Outline
import Derived.RegionTactic
import Derived.Deep.RegionHeld3
import Derived.Deep.RegionLaw
import Derived.Deep.Cut
import Derived.Deep.CutBlock
import Derived.Deep.DeepCutAuto
import Derived.StillTailTactics
import Derived.ChangeAlike
import Derived.Laws.Cover1
namespace Go.Proofs.Yteeginfbonfhlaa
open Go.RowKit Mem
/-- What is due: when, its key and its kind. -/
structure DU where
  at_ : Int
  key : ByteArray
  kind : Int
def due : Enc DU where
  enc := fun d => [.int .i64 d.at_, .string d.key, .int .i64 d.kind]
  size := 3
  len := fun _ => rfl
  one := fun x u h => by
    simp at h
    rcases h with rfl | rfl | rfl <;> rfl
  pos := by decide
def intE : Enc Int where
  enc := fun i => [.int .i64 i]
  size := 1
  len := fun _ => rfl
  one := fun x u h => by
    simp at h
    subst h
    rfl
  pos := by decide
def cmpI (a b : Int) : Int := if a < b then -1 else if b < a then 1 else 0
theorem nanI (a : Int) (w : World) : Calls Try.prog 58 #[.int .i64 a] w fun e w' => e = .returned (.bool false) ∧ w' = w := by
  go_enter Try.func58, Try.ntmps58
  go_wp2_with fail
  go_ret
  exact ⟨rfl, rfl⟩
theorem nanS (a : ByteArray) (w : World) : Calls Try.prog 59 #[.string a] w fun e w' => e = .returned (.bool false) ∧ w' = w := by
  go_enter Try.func59, Try.ntmps59
  go_wp2_with fail
  go_ret
  exact ⟨rfl, rfl⟩
theorem cmp_int (a b : Int) (w : World) : Calls Try.prog 56 #[.int .i64 a, .int .i64 b] w fun e w' => e = .returned (.int .i64 (cmpI a b)) ∧ w' = w := by
  rcases (show (a < b ∧ cmpI a b = -1) ∨ (¬ a < b ∧ b < a ∧ cmpI a b = 1) ∨ (¬ a < b ∧ ¬ b < a ∧ cmpI a b = 0) by unfold cmpI; by_cases h1 : a < b <;> by_cases h2 : b < a <;> simp [h1, h2] <;> omega) with ⟨h1, h3⟩ | ⟨h1, h2, h3⟩ | ⟨h1, h2, h3⟩
  all_goals
    rw [h3]
    clear h3
    go_enter Try.func56, Try.ntmps56
    go_wp2_with (first
      | (go_at_call 58; refine (nanI _ _).mono ?_
         rintro e w2 ⟨rfl, hw2⟩
         rw [hw2]
         clear hw2))
    go_ret
    exact ⟨rfl, rfl⟩
def lessS (a b : ByteArray) : Bool := Op.bytesLess a.toList b.toList
def cmpS (a b : ByteArray) : Int := if lessS a b then -1 else if a.toList == b.toList then 0 else 1
theorem cmp_str (a b : ByteArray) (w : World) : Calls Try.prog 57 #[.string a, .string b] w fun e w' => e = .returned (.int .i64 (cmpS a b)) ∧ w' = w := by
  rcases (show (Op.bytesLess a.toList b.toList = true ∧ cmpS a b = -1) ∨ (Op.bytesLess a.toList b.toList = false ∧ (a.toList == b.toList) = true ∧ cmpS a b = 0) ∨ (Op.bytesLess a.toList b.toList = false ∧ (a.toList == b.toList) = false ∧ cmpS a b = 1) by unfold cmpS lessS; cases Op.bytesLess a.toList b.toList <;> cases (a.toList == b.toList) <;> simp) with ⟨h1, h3⟩ | ⟨h1, h2, h3⟩ | ⟨h1, h2, h3⟩
  all_goals
    rw [h3]
    clear h3
    go_enter Try.func57, Try.ntmps57
    go_wp2_with (first
      | (go_at_call 59; refine (nanS _ _).mono ?_
         rintro e w2 ⟨rfl, hw2⟩
         rw [hw2]
         clear hw2))
    go_ret
    exact ⟨rfl, rfl⟩
def orI (a b c : Int) : Int := if a != 0 then a else if b != 0 then b else c
theorem elem3 : Elem Try.prog 22 3 (intE) 8 := Elem.of Try.underlying22 (z := .int .i64 0) (by kernel_rfl) rfl
theorem or_int (a b c : Int) (g : Nat) (n2 : Nat) (w : World) (hg : Blk w g 3 #[.int .i64 a, .int .i64 b, .int .i64 c]) (hn : n2 = 3) : Calls Try.prog 55 #[.slice (some ⟨g, 0, none⟩) 3 n2] w fun e w' => e = .returned (.int .i64 (orI a b c)) ∧ w' = w := by
  subst hn
  have c0 := hg.cell 0
  have c1 := hg.cell 1
  have c2 := hg.cell 2
  simp at c0 c1 c2
  clear hg
  go_enter Try.func55, Try.ntmps55
  go_wp2_with fail
  go_loopw [8] (fun v wr => ∃ k : Nat, k ≤ 3 ∧ v = .int .i64 k ∧ wr = w ∧ (0 < k → a = 0) ∧ (1 < k → b = 0) ∧ (2 < k → c = 0)) (fun v _ => 3 - (intOf v).toNat)
  case atStart => exact ⟨0, by omega, rfl, rfl, by omega, by omega, by omega⟩
  case round =>
    obtain ⟨k, hk, rfl, hwr, z0, z1, z2⟩ := hrel
    subst hwr
    rcases (show k = 0 ∨ k = 1 ∨ k = 2 ∨ k = 3 by omega) with rfl | rfl | rfl | rfl
    · clear z0 z1 z2
      by_cases h : a = 0
      · subst h
        go_wp2_with fail
        exact ⟨⟨1, by omega, by go_num, by first | rfl | trivial, by simp, by simp, by simp⟩, by simp [intOf]⟩
      · have h1 : (a == 0) = false := by simpa using h
        have hz : orI a b c = a := by unfold orI; simp [h]
        go_wp2_with fail
        go_ret
        exact ⟨by rw [hz]; rfl, rfl⟩
    · have ha := z0 (by omega)
      subst ha
      clear z0 z1 z2
      by_cases h : b = 0
      · subst h
        go_wp2_with fail
        exact ⟨⟨2, by omega, by go_num, by first | rfl | trivial, by simp, by simp, by simp⟩, by simp [intOf]⟩
      · have h1 : (b == 0) = false := by simpa using h
        have hz : orI 0 b c = b := by unfold orI; simp [h]
        go_wp2_with fail
        go_ret
        exact ⟨by rw [hz]; rfl, rfl⟩
    · have ha := z0 (by omega)
      have hb := z1 (by omega)
      subst ha hb
      clear z0 z1 z2
      by_cases h : c = 0
      · subst h
        go_wp2_with fail
        exact ⟨⟨3, by omega, by go_num, by first | rfl | trivial, by simp, by simp, by simp⟩, by simp [intOf]⟩
      · have h1 : (c == 0) = false := by simpa using h
        have hz : orI 0 0 c = c := by unfold orI; simp
        go_wp2_with fail
        go_ret
        exact ⟨by rw [hz]; rfl, rfl⟩
    · have ha := z0 (by omega)
      have hb := z1 (by omega)
      have hc := z2 (by omega)
      subst ha hb hc
      clear z0 z1 z2
      go_wp2_with fail
      go_ret
      exact ⟨rfl, rfl⟩
/-- Is one due ahead of the other? -/
def ltD (a b : DU) : Bool := decide (a.at_ < b.at_) || (a.at_ == b.at_ && (lessS a.key b.key || (a.key.toList == b.key.toList && decide (a.kind < b.kind))))
theorem less_irr : ∀ l : List UInt8, Op.bytesLess l l = false
  | [] => by simp [Op.bytesLess]
  | a :: l => by simp [Op.bytesLess, less_irr l]
theorem ltD_or (a b : DU) : decide (orI (cmpI a.at_ b.at_) (cmpS a.key b.key) (cmpI a.kind b.kind) < 0) = ltD a b := by
  unfold orI cmpI cmpS ltD lessS
  by_cases h1 : a.at_ < b.at_
  · simp [h1]
  · by_cases h2 : b.at_ < a.at_
    · have h3 : ¬ a.at_ = b.at_ := by omega
      simp [h1, h2, h3]
    · have h3 : a.at_ = b.at_ := by omega
      simp only [h3]
      cases h4 : Op.bytesLess a.key.toList b.key.toList
      · cases h5 : (a.key.toList == b.key.toList)
        · simp
        · by_cases h6 : a.kind < b.kind
          · simp [h6]
          · by_cases h7 : b.kind < a.kind <;> simp [h6, h7]
      · simp
set_option maxHeartbeats 3200000 in
theorem before_any (a b : DU) (w : World) : Calls Try.prog 54 #[.agg (due.enc a).toArray, .agg (due.enc b).toArray] w fun e w' => e = .returned (.bool (ltD a b)) ∧ Keeps (fun _ => False) w w' := by
  rw [← ltD_or]
  obtain ⟨w1, hw1⟩ : ∃ w1, w1 = (w.alloc (.cells (due.enc a).toArray 34)).alloc (.cells (due.enc b).toArray 34) := ⟨_, rfl⟩
  have b1 : Blk w1 w.heap.size 34 (due.enc a).toArray := by rw [hw1]; exact (Blk.new w 34 _ _ rfl).alloc _
  have b2 : Blk w1 (w.heap.size + 1) 34 (due.enc b).toArray := by rw [hw1]; exact Blk.new _ 34 _ _ (by simp)
  have k1 : Keeps (fun _ => False) w w1 := by rw [hw1]; exact ((Keeps.refl _ w).alloc _).alloc _
  have p0 := b1.cell 0
  have p1 := b1.cell 1
  have p2 := b1.cell 2
  have q0 := b2.cell 0
  have q1 := b2.cell 1
  have q2 := b2.cell 2
  simp [due] at p0 p1 p2 q0 q1 q2
  have K1 := Lib.hid k1
  have HW := Lib.hid hw1
  have FA := Lib.hid (show (w1.cell? ⟨w.heap.size, 0, none⟩ = some (.int .i64 a.at_) ∧ w1.cell? ⟨w.heap.size, 1, none⟩ = some (.string a.key) ∧ w1.cell? ⟨w.heap.size, 2, none⟩ = some (.int .i64 a.kind)) ∧ w1.cell? ⟨w.heap.size + 1, 0, none⟩ = some (.int .i64 b.at_) ∧ w1.cell? ⟨w.heap.size + 1, 1, none⟩ = some (.string b.key) ∧ w1.cell? ⟨w.heap.size + 1, 2, none⟩ = some (.int .i64 b.kind) from ⟨⟨p0, p1, p2⟩, q0, q1, q2⟩)
  clear b1 b2 k1 hw1
  simp only [due]
  simp only [due] at HW
  go_enter Try.func54, Try.ntmps54
  go_upto_region 1 with fail
  rw [← HW.out]
  have ks : ∀ W, Keeps (fun _ => False) w1 W → (W.cell? ⟨w.heap.size, 0, none⟩ = some (.int .i64 a.at_) ∧ W.cell? ⟨w.heap.size, 1, none⟩ = some (.string a.key) ∧ W.cell? ⟨w.heap.size, 2, none⟩ = some (.int .i64 a.kind)) ∧ W.cell? ⟨w.heap.size + 1, 0, none⟩ = some (.int .i64 b.at_) ∧ W.cell? ⟨w.heap.size + 1, 1, none⟩ = some (.string b.key) ∧ W.cell? ⟨w.heap.size + 1, 2, none⟩ = some (.int .i64 b.kind) := fun W k => ⟨⟨k.cell (fun h => h) p0, k.cell (fun h => h) p1, k.cell (fun h => h) p2⟩, k.cell (fun h => h) q0, k.cell (fun h => h) q1, k.cell (fun h => h) q2⟩
  have KS := Lib.hid ks
  clear ks FA
  go_region_held3 (fun W => (W.cell? ⟨w.heap.size, 0, none⟩ = some (.int .i64 a.at_) ∧ W.cell? ⟨w.heap.size, 1, none⟩ = some (.string a.key) ∧ W.cell? ⟨w.heap.size, 2, none⟩ = some (.int .i64 a.kind)) ∧ W.cell? ⟨w.heap.size + 1, 0, none⟩ = some (.int .i64 b.at_) ∧ W.cell? ⟨w.heap.size + 1, 1, none⟩ = some (.string b.key) ∧ W.cell? ⟨w.heap.size + 1, 2, none⟩ = some (.int .i64 b.kind)) (exact KS.out _ (by (repeat first | assumption | exact Lib.Hid.out (by assumption) | exact Keeps.refl _ _ | refine Keeps.alloc ?_ _ | refine Keeps.drewN ?_ _ | refine Keeps.drew ?_ | refine Keeps.setCell ?_ _ _ (fun h => by simp at h <;> omega)))) (first
    | (go_at_call 57; refine (cmp_str _ _ _).mono ?_
       rintro e w2 ⟨rfl, hw2⟩
       rw [hw2]
       clear hw2)
    | (go_at_call 56; refine (cmp_int _ _ _).mono ?_
       rintro e w2 ⟨rfl, hw2⟩
       rw [hw2]
       clear hw2)
    | (go_at_call 55; refine (or_int _ _ _ w1.heap.size _ _ (Blk.new w1.drew 3 _ _ rfl) rfl).mono ?_
       rintro e w2 ⟨rfl, hw2⟩
       rw [hw2]
       clear hw2))
  all_goals
    go_wp2_with fail
    go_ret
    exact ⟨rfl, K1.out.trans (w1 := w1) (by (repeat first | assumption | exact Lib.Hid.out (by assumption) | exact Keeps.refl _ _ | refine Keeps.alloc ?_ _ | refine Keeps.drewN ?_ _ | refine Keeps.drew ?_ | refine Keeps.setCell ?_ _ _ (fun h => by simp at h <;> omega))) (fun _ _ h => h)⟩
end Go.Proofs.Yteeginfbonfhlaa
