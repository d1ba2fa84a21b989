/- The document's examples hold: the walk of 'shown'. -/
import Derived.Test.YteincbegfamhpaaDoorW1
import Derived.Below
import Derived.Lib.SlBytesConst
import Derived.Deep.OwnRows
import Derived.Deep.Draws
namespace Go.Proofs.YteincbegfamhpaaDoor
open Go.RowKit
theorem more_eq (s : Nat) (L : List Nat) : more s L = 4294967295 ^^^ Math.reg (4294967295 ^^^ s) L := by unfold more; rw [turn_eq, turn_eq]
theorem ex_nine : more 0 [49, 50, 51, 52, 53, 54, 55, 56, 57] = 3808858755 := by rw [more_eq]; decide +kernel
theorem ex_nought : more 0 [0] = 1383945041 := by rw [more_eq]; decide +kernel
theorem ex_nine' : ((more 0 [49, 50, 51, 52, 53, 54, 55, 56, 57] : Nat) : Int) = 3808858755 := by rw [ex_nine]; decide
theorem ex_nought' : ((more 0 [0] : Nat) : Int) = 1383945041 := by rw [ex_nought]; decide
theorem more_nil (s : Nat) : more s [] = s := turn_turn s
theorem Bytes.nil (w : World) : Bytes w none 0 [] := ⟨rfl, by omega, by simp, fun h => absurd h (by omega)⟩
/-- A block of the call's own that holds just these bytes. -/
theorem bytes_new (w : World) (L : List Nat) (hL : ∀ c ∈ L, c < 256) (hn : L.length ≤ 281474976710000) (t : TypeId) (cs : Array Value) (fr : Nat × Nat) (hcs : cs = (L.map fun c : Nat => Value.int .u8 c).toArray)
    (H : Nat) (hH : w.heap.size = H) (n : Nat) (hn' : L.length = n) : Bytes (w.alloc (.cells cs t fr)) (some ⟨H, 0, none⟩) n L := by
  subst hH hn'
  refine ⟨rfl, hn, hL, fun _ => ⟨_, rfl, fun j hj => ?_⟩⟩
  have ha : (⟨w.heap.size, 0, none⟩ : Addr).add j = ⟨w.heap.size, j, none⟩ := by unfold Addr.add; split <;> simp_all
  rw [ha, World.cell?_alloc_mark, hcs]
  unfold at_
  simp [List.getElem?_eq_getElem hj, List.getD_eq_getElem?_getD]
theorem Tab.alloc {w : World} (h : Tab w) (h0 : 0 < w.heap.size) (o : Obj) : Tab (w.alloc o) := fun i hi => (World.cell?_alloc_lt w o _ h0).trans (h i hi)
theorem Tab.below {w w' : World} (h : Tab w) (h0 : 0 < w.heap.size) (hb : Below w.heap.size w w') : Tab w' := fun i hi => (hb.cell (p := ⟨0, i, none⟩) h0).trans (h i hi)

theorem Bytes.below {w w' : World} {A : Option Addr} {n : Nat} {L : List Nat} (h : Bytes w A n L) (hb : Below w.heap.size w w') : Bytes w' A n L :=
  ⟨h.1, h.2.1, h.2.2.1, fun h0 => by
    obtain ⟨ad, e, hc⟩ := h.2.2.2 h0
    exact ⟨ad, e, fun j hj => (hb.cell (World.block_lt_of_cell? w _ (hc j hj))).trans (hc j hj)⟩⟩
theorem Bytes.take {w : World} {A : Option Addr} {n : Nat} {L : List Nat} (h : Bytes w A n L) {k : Nat} (hk : k ≤ n) : Bytes w A k (L.take k) := by
  obtain ⟨h1, h2, h3, h4⟩ := h
  refine ⟨by rw [List.length_take]; omega, by omega, fun c hc => h3 c (List.mem_of_mem_take hc), fun h0 => ?_⟩
  obtain ⟨ad, e, hc⟩ := h4 (by omega)
  refine ⟨ad, e, fun j hj => ?_⟩
  rw [hc j (by omega)]
  unfold at_
  rw [List.getD_eq_getElem?_getD, List.getD_eq_getElem?_getD, List.getElem?_take_of_lt hj]
theorem Bytes.drewN {w : World} {A : Option Addr} {n : Nat} {L : List Nat} (h : Bytes w A n L) (q : Nat) : Bytes (w.drewN q) A n L := h
theorem Tab.drewN {w : World} (h : Tab w) (q : Nat) : Tab (w.drewN q) := h
theorem bytes_row {w : World} {B n : Nat} {t : TypeId} {f : Nat → Value} (h : w.rowIs B t n f) (X : List Nat) (hX : X.length = n) (hn : n ≤ 281474976710000) (hb : ∀ c ∈ X, c < 256) (hf : ∀ j, j < n → f j = .int .u8 (at_ X j)) :
    Bytes w (some ⟨B, 0, none⟩) n X := by
  refine ⟨hX, hn, hb, fun _ => ⟨_, rfl, fun j hj => ?_⟩⟩
  have ha : (⟨B, 0, none⟩ : Addr).add j = ⟨B, j, none⟩ := by unfold Addr.add; split <;> simp_all
  rw [ha, h.cell hj, hf j hj]
theorem below_then {B : Nat} {w w1 w2 : World} (h : Below B w w1) (hB : B ≤ w1.heap.size) (k : Below w1.heap.size w1 w2) : Below B w w2 :=
  h.trans ⟨k.os, k.tape, k.output, k.size, fun i hi => k.block i (Nat.lt_of_lt_of_le hi hB)⟩

set_option maxHeartbeats 400000 in
theorem shown_any (w : World) (ht : Tab w) (h0 : 0 < w.heap.size) : Calls Tryd.prog 8 #[] w fun e w' => e = .returned (.bool true) ∧ Below w.heap.size w w' := by
  have HT := Lib.hid ht
  clear ht
  have kc := fun (w : World) (C : Array Value) (n c : Nat) => Lib.run_convert_bytes_const (P := Tryd.prog) w 22 5 C n c Tryd.underlying22 Tryd.underlying5
  go_enter Tryd.func8, Tryd.ntmps8
  go_wp2_with fail
  refine (sum_any _ _ _ [49, 50, 51, 52, 53, 54, 55, 56, 57] _ (HT.out.alloc h0 _) (bytes_new w _ (by decide) (by decide) _ _ _ rfl _ (by simp) _ rfl)).mono ?_
  rintro e w1 ⟨rfl, rfl⟩
  rw [ex_nine']
  go_wp2_with fail
  refine (sum_any _ _ _ [0] _ ((HT.out.alloc h0 _).alloc (by simp) _) (bytes_new _ _ (by decide) (by decide) _ _ _ rfl _ (by simp) _ rfl)).mono ?_
  rintro e w1 ⟨rfl, rfl⟩
  rw [ex_nought']
  go_wp2_with fail
  refine (sum_any _ _ _ [] _ ((HT.out.alloc h0 _).alloc (by simp) _) (Bytes.nil _)).mono ?_
  rintro e w1 ⟨rfl, rfl⟩
  rw [more_nil]
  go_wp2_with fail

  refine (more_any 3808858755 (by decide) _ _ _ [] _ ((HT.out.alloc h0 _).alloc (by simp) _) (Bytes.nil _)).mono ?_
  rintro e w1 ⟨rfl, rfl⟩
  rw [more_nil]
  go_wp2_with fail
  go_ret
  exact ⟨rfl, ((Below.refl _ _).alloc (Nat.le_refl _) _).alloc (by simp) _⟩
end Go.Proofs.YteincbegfamhpaaDoor
