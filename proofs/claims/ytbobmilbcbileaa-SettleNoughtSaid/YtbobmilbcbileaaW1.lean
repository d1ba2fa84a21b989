/- Sums that are checked; rows of totals: walked. -/
import Derived.Test.YtbobmilbcbileaaProg
import Derived.Test.YtbobmilbcbileaaFoot
import Derived.Test.YtbobmilbcbileaaStr
import Derived.Test.YtbobmilbcbileaaLem
import Derived.Test.YtbobmilbcbileaaOpen
import Derived.Deep.QuietTactic
import Derived.BigQuiet
import Derived.BigRegion
import Derived.Outline
import Derived.RegionTactic
import Derived.Deep.RegionWith
import Derived.ChangeAlike
namespace Go.Proofs.Ytbobmilbcbileaa
open Go.RowKit Mem
/-- A number that an int may be. -/
def isInt (i : Int) : Prop := -9223372036854775808 ≤ i ∧ i ≤ 9223372036854775807
instance (i : Int) : Decidable (isInt i) := by unfold isInt; infer_instance
theorem wrap_isInt (i : Int) : isInt (wrap64 i) := Lem.wrap_range i
theorem add_ok (a b : Int) (ha : isInt a) (hb : isInt b) (hs : isInt (a + b)) (w : World) : Calls Try.prog 29 #[.int .i64 a, .int .i64 b] w fun e w' => e = .returned (.tuple #[.int .i64 (a + b), .int .i64 0]) ∧ w' = w := by
  unfold isInt at ha hb hs
  have h := (Lem.add_test a b ha.1 ha.2 hb.1 hb.2).2 hs
  have hw : wrap64 (a + b) = a + b := Lem.wrap_in hs.1 hs.2
  rw [hw] at h
  go_enter Try.func29, Try.ntmps29
  go_wp2_with fail
  go_ret2
  exact ⟨rfl, rfl⟩
theorem add_no (a b : Int) (ha : isInt a) (hb : isInt b) (hs : ¬ isInt (a + b)) (w : World) : Calls Try.prog 29 #[.int .i64 a, .int .i64 b] w fun e w' => e = .returned (.tuple #[.int .i64 0, .int .i64 100]) ∧ w' = w := by
  unfold isInt at ha hb hs
  have h := mt (Lem.add_test a b ha.1 ha.2 hb.1 hb.2).1 hs
  clear hs
  go_enter Try.func29, Try.ntmps29
  go_wp2_with fail
  go_ret2
  exact ⟨rfl, rfl⟩
theorem sub_ok (a b : Int) (ha : isInt a) (hb : isInt b) (hs : isInt (a - b)) (w : World) : Calls Try.prog 30 #[.int .i64 a, .int .i64 b] w fun e w' => e = .returned (.tuple #[.int .i64 (a - b), .int .i64 0]) ∧ w' = w := by
  unfold isInt at ha hb hs
  have h := (Lem.sub_test a b ha.1 ha.2 hb.1 hb.2).2 hs
  have hw : wrap64 (a - b) = a - b := Lem.wrap_in hs.1 hs.2
  rw [hw] at h
  go_enter Try.func30, Try.ntmps30
  go_wp2_with fail
  go_ret2
  exact ⟨rfl, rfl⟩
theorem sub_no (a b : Int) (ha : isInt a) (hb : isInt b) (hs : ¬ isInt (a - b)) (w : World) : Calls Try.prog 30 #[.int .i64 a, .int .i64 b] w fun e w' => e = .returned (.tuple #[.int .i64 0, .int .i64 100]) ∧ w' = w := by
  unfold isInt at ha hb hs
  have h := mt (Lem.sub_test a b ha.1 ha.2 hb.1 hb.2).1 hs
  clear hs
  go_enter Try.func30, Try.ntmps30
  go_wp2_with fail
  go_ret2
  exact ⟨rfl, rfl⟩
/-- What a day says of one account. -/
structure T6 where
  member : Int
  credits : Int
  debits : Int
  cs : Int
  ds : Int
  net : Int
  deriving DecidableEq
def total : Enc T6 where
  enc := fun t => [.int .i64 t.member, .int .i64 t.credits, .int .i64 t.debits, .int .i64 t.cs, .int .i64 t.ds, .int .i64 t.net]
  size := 6
  len := fun _ => rfl
  one := fun x u h => by
    simp at h
    rcases h with rfl | rfl | rfl | rfl | rfl | rfl <;> rfl
  pos := by decide
theorem elem41 : Elem Try.prog 36 41 total 48 := Elem.of Try.underlying36 (z := .agg #[.int .i64 0, .int .i64 0, .int .i64 0, .int .i64 0, .int .i64 0, .int .i64 0]) (by kernel_rfl) rfl
theorem own_empty {α : Type} (E : Enc α) (w : World) (e : TypeId) (base H : Nat) (hH : w.heap.size = H) (hb : base ≤ H) : Own E (w.alloc (.cells #[] e)) base e (.slice (some ⟨H, 0, none⟩) 0 0) [] :=
  Own.new w base e #[] [] rfl H hH hb 0 rfl (Nat.zero_le _)
theorem app_empty {t : TypeId} (w : World) (H : Nat) (hH : w.heap.size = H) {w' : World} (gr : (w.alloc (.cells #[] t)).grownBy w' (Value.slice (some ⟨H, 0, none⟩) 0 0).ownBlock) : Keeps (fun _ => False) w w' :=
  (Keeps.grown (S := fun k => k = H) ((Keeps.refl _ w).alloc _) gr (fun k hk _ => by simpa [Value.ownBlock] using hk.symm)).mono (fun b hb e => by omega)
theorem rowClone_any (T : List T6) (A : Option Addr) (n c : Nat) (w : World) (hr : Reads total w A n T) (hA : A = none → n = 0 ∧ c = 0) (hn : n ≤ 1000) :
    Calls Try.prog 28 #[.slice A n c] w fun e w' => ∃ A' c', e = .returned (.slice A' n c') ∧ Own total w' w.heap.size 41 (.slice A' n c') T ∧ Keeps (fun _ => False) w w' := by
  have hl := hr.1
  have HL := Lib.hid hl
  have R := Lib.hid hr
  clear hr hl
  cases A with
  | none =>
    obtain ⟨rfl, rfl⟩ := hA rfl
    have he : ∀ W, (binOp BinOp.eql 36 (.slice none 0 0) (.slice none 0 0)).run Try.prog W = .ok (.bool true) W := fun W => by kernel_rfl
    go_enter Try.func28, Try.ntmps28
    go_wp2_with fail
    go_ret
    refine ⟨none, 0, rfl, ?_, Keeps.refl _ _⟩
    have : T = [] := List.eq_nil_of_length_eq_zero HL.out
    rw [this]
    exact Own.nil _ _ _ _
  | some ad =>
    have he : ∀ W, (binOp BinOp.eql 36 (.slice (some ad) n c) (.slice none 0 0)).run Try.prog W = .ok (.bool false) W := fun W => by kernel_rfl
    clear hA
    go_enter Try.func28, Try.ntmps28
    go_wp2_with (at_builtin; refine wp_append elem41 (by rfl) (.tmp 5) (.tmp 6) (by rfl) w.heap.size (.slice (some ⟨w.heap.size, 0, none⟩) 0 0) [] T (some ad) n c rfl rfl (own_empty _ _ _ _ _ rfl (Nat.le_refl _)) (R.out.alloc _) (by simp; omega) (by simp [maxLen]; omega) (by simp) ?_
                 intro v3 w3 own3 gr3 at3
                 rw [List.nil_append] at own3
                 obtain ⟨A3, c3, hv3, _⟩ := Own.val own3 HL.out
                 rw [hv3]
                 rw [hv3] at own3
                 have O := Lib.hid own3
                 have K := Lib.hid (app_empty w w.heap.size rfl gr3)
                 clear own3 gr3 at3 hv3)
    go_ret
    exact ⟨A3, c3, rfl, O.out, K.out⟩
end Go.Proofs.Ytbobmilbcbileaa
