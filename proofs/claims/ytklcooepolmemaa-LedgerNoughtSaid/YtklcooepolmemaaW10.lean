/- The document's wide numbers: walked. -/
import Derived.Test.YtklcooepolmemaaW4
import Derived.Test.YtklcooepolmemaaWApart
namespace Go.Proofs.Ytklcooepolmemaa
open Go.RowKit Mem
theorem and32 (n : Int) : bits .and .i64 n 4294967295 = n % 4294967296 := by
  have h127 : (BitVec.ofInt 64 4294967295).toNat = 2 ^ 32 - 1 := by decide
  have key : (BitVec.ofInt 64 n &&& BitVec.ofInt 64 4294967295).toNat = (n % ((2 ^ 64 : Nat) : Int)).toNat % 2 ^ 32 := by
    rw [BitVec.toNat_and, BitVec.toNat_ofInt, h127, Nat.and_two_pow_sub_one_eq_mod]
  show IntKind.i64.wrap ((BitVec.ofInt 64 n &&& BitVec.ofInt 64 4294967295).toNat : Nat) = n % 4294967296
  rw [key, IntKind.wrap_i64]
  omega
set_option maxHeartbeats 1600000 in
theorem radd_any (h l n : Int) (hn : isInt n) (hh : -4611686018427387904 ≤ h ∧ h ≤ 4611686018427387904) (hl : 0 ≤ l ∧ l ≤ 4294967296) (w : World) :
    Calls Try.prog 25 #[.agg #[.int .i64 h, .int .i64 l], .int .i64 n] w fun e w' => e = .returned (.agg #[.int .i64 (h + n / 4294967296), .int .i64 (l + n % 4294967296)]) ∧ Keeps (fun _ => False) w w' := by
  unfold isInt at hn
  obtain ⟨a, ha⟩ : ∃ a, a = n / 4294967296 := ⟨_, rfl⟩
  obtain ⟨b, hb⟩ : ∃ b, b = n % 4294967296 := ⟨_, rfl⟩
  have ea := and32 n
  rw [← hb] at ea
  have e1 : n / 4294967296 = a := ha.symm
  have b1 : -2147483648 ≤ a ∧ a ≤ 2147483647 := by omega
  have b2 : 0 ≤ b ∧ b < 4294967296 := by omega
  rw [← ha, ← hb]
  clear ha hb
  go_enter Try.func25, Try.ntmps25
  go_wp2_with fail
  have hb : Blk ((w.alloc (.cells #[.int .i64 h, .int .i64 l] 69)).alloc (.cells #[.int .i64 (h + a), .int .i64 (l + b)] 69)) (w.heap.size + 1) 69 #[.int .i64 (h + a), .int .i64 (l + b)] := Blk.new _ 69 _ _ (by simp)
  (try simp only [Exit.inBlock, Exit.then])
  refine bodyPost_ret (results_cell_row rfl _ _ (w.heap.size + 1) 69 #[.int .i64 (h + a), .int .i64 (l + b)] (0, 0) _ rfl hb Try.underlying69 rfl (by kernel_rfl)) rfl ?_
  exact ⟨rfl, ((Keeps.refl (fun _ => False) w).alloc _).alloc _⟩
set_option maxHeartbeats 1600000 in
theorem reven_any (h l : Int) (hh : -4611686027017322496 ≤ h ∧ h ≤ 4611686027017322496) (hl : 0 ≤ l ∧ l ≤ 18446744073709) (w : World) :
    Calls Try.prog 26 #[.agg #[.int .i64 h, .int .i64 l]] w fun e w' => e = .returned (.agg #[.int .i64 (h + l / 4294967296), .int .i64 (l % 4294967296)]) ∧ Keeps (fun _ => False) w w' := by
  obtain ⟨a, ha⟩ : ∃ a, a = l / 4294967296 := ⟨_, rfl⟩
  obtain ⟨b, hb⟩ : ∃ b, b = l % 4294967296 := ⟨_, rfl⟩
  have ea := and32 l
  rw [← hb] at ea
  have e1 : l / 4294967296 = a := ha.symm
  have b1 : 0 ≤ a ∧ a ≤ 4294967296 := by omega
  rw [← ha, ← hb]
  clear ha hb
  go_enter Try.func26, Try.ntmps26
  go_wp2_with fail
  have hb : Blk ((w.alloc (.cells #[.int .i64 h, .int .i64 l] 69)).alloc (.cells #[.int .i64 (h + a), .int .i64 b] 69)) (w.heap.size + 1) 69 #[.int .i64 (h + a), .int .i64 b] := Blk.new _ 69 _ _ (by simp)
  (try simp only [Exit.inBlock, Exit.then])
  refine bodyPost_ret (results_cell_row rfl _ _ (w.heap.size + 1) 69 #[.int .i64 (h + a), .int .i64 b] (0, 0) _ rfl hb Try.underlying69 rfl (by kernel_rfl)) rfl ?_
  exact ⟨rfl, ((Keeps.refl (fun _ => False) w).alloc _).alloc _⟩
/-- The document's two halves. -/
def rh (v : Int) : Int := v / 4294967296
def rl (v : Int) : Int := v % 4294967296
theorem r_add (v n : Int) : rh v + n / 4294967296 + (rl v + n % 4294967296) / 4294967296 = rh (v + n) ∧ (rl v + n % 4294967296) % 4294967296 = rl (v + n) := by
  unfold rh rl
  omega
theorem rl_range (v : Int) : 0 ≤ rl v ∧ rl v < 4294967296 := by unfold rl; omega
theorem rh_range {v : Int} (h1 : -170141183460469231731687303715884105727 ≤ v * 8589934592) (h2 : v * 8589934592 ≤ 170141183460469231731687303715884105727) : -4611686018427387904 ≤ rh v ∧ rh v ≤ 4611686018427387904 := by unfold rh; omega
theorem r_zero (v : Int) : (rh v = 0 ∧ rl v = 0) ↔ v = 0 := by unfold rh rl; omega
theorem r_small (v : Int) : (rh v < -2147483648 ∨ 2147483647 < rh v) ↔ ¬ isInt v := by unfold rh isInt; omega
theorem r_back (v : Int) : rh v * 4294967296 + rl v = v := by unfold rh rl; omega
set_option maxHeartbeats 1600000 in
theorem rfits_yes (v : Int) (h : isInt v) (w : World) :
    Calls Try.prog 27 #[.agg #[.int .i64 (rh v), .int .i64 (rl v)]] w fun e w' => e = .returned (.tuple #[.int .i64 v, .bool true]) ∧ Keeps (fun _ => False) w w' := by
  have hr := rl_range v
  have hb := r_back v
  have hs := mt (r_small v).1 (fun h' => h' h)
  unfold isInt at h
  obtain ⟨a, ha⟩ : ∃ a, a = rh v := ⟨_, rfl⟩
  obtain ⟨b, hb'⟩ : ∃ b, b = rl v := ⟨_, rfl⟩
  rw [← ha, ← hb'] at hb
  rw [← ha] at hs
  rw [← hb'] at hr
  rw [← ha, ← hb']
  clear ha hb'
  have t1 : decide (a < -2147483648) = false := by simp; omega
  have t2 : decide (2147483647 < a) = false := by simp; omega
  have hs1 : -2147483648 ≤ a := by omega
  have hs2 : a ≤ 2147483647 := by omega
  have e1 : b / 4294967296 = 0 := by omega
  have e2 : b % 4294967296 = b := by omega
  have hx : a * 4294967296 = v - b := by omega
  have E1 := Lib.hid e1
  have E2 := Lib.hid e2
  have HX := Lib.hid hx
  have HB := Lib.hid hb
  clear e1 e2 hx hb hs
  go_enter Try.func27, Try.ntmps27
  go_wp2_with (go_at_call 26; refine (reven_any a b (by omega) (by omega) _).mono ?_
               rintro e w2 ⟨rfl, k2⟩
               rw [E1.out, E2.out, Int.add_zero]
               have b2 := (Blk.new w 69 #[.int .i64 a, .int .i64 b] _ rfl).keeps k2 (fun h => h)
               have c0 := b2.cell 0
               have c1 := b2.cell 1
               have f0 := b2.frozen 0
               have f1 := b2.frozen 1
               simp at c0 c1
               have K2 := Lib.hid (((Keeps.refl (fun _ => False) w).alloc _).trans k2 (fun _ _ h => h))
               clear b2 k2)
  go_ret2
  refine ⟨?_, (K2.out.setCell ⟨w.heap.size, 0, none⟩ _ (fun h => by simp at h)).setCell ⟨w.heap.size, 1, none⟩ _ (fun h => by simp at h)⟩
  show Ending.returned (.tuple #[.int .i64 (a * 4294967296 + b), .bool true]) = _
  rw [HB.out]
set_option maxHeartbeats 1600000 in
theorem rfits_no (v : Int) (h : ¬ isInt v) (hb1 : -4611686018427387904 ≤ rh v) (hb2 : rh v ≤ 4611686018427387904) (w : World) :
    Calls Try.prog 27 #[.agg #[.int .i64 (rh v), .int .i64 (rl v)]] w fun e w' => e = .returned (.tuple #[.int .i64 0, .bool false]) ∧ Keeps (fun _ => False) w w' := by
  have hr := rl_range v
  have hs := (r_small v).2 h
  obtain ⟨a, ha⟩ : ∃ a, a = rh v := ⟨_, rfl⟩
  obtain ⟨b, hb'⟩ : ∃ b, b = rl v := ⟨_, rfl⟩
  rw [← ha] at hs hb1 hb2
  rw [← hb'] at hr
  rw [← ha, ← hb']
  clear ha hb' h
  have e1 : b / 4294967296 = 0 := by omega
  have e2 : b % 4294967296 = b := by omega
  have E1 := Lib.hid e1
  have E2 := Lib.hid e2
  clear e1 e2
  rcases (show a < -2147483648 ∨ (¬ a < -2147483648 ∧ 2147483647 < a) by omega) with h1 | ⟨h1, h2⟩
  all_goals
    clear hs
    go_enter Try.func27, Try.ntmps27
    go_wp2_with (go_at_call 26; refine (reven_any a b (by omega) (by omega) _).mono ?_
                 rintro e w2 ⟨rfl, k2⟩
                 rw [E1.out, E2.out, Int.add_zero]
                 have b2 := (Blk.new w 69 #[.int .i64 a, .int .i64 b] _ rfl).keeps k2 (fun h => h)
                 have c0 := b2.cell 0
                 have c1 := b2.cell 1
                 have f0 := b2.frozen 0
                 have f1 := b2.frozen 1
                 simp at c0 c1
                 have K2 := Lib.hid ((((Keeps.refl (fun _ => False) w).alloc (.cells #[.int .i64 a, .int .i64 b] 69))).trans k2 (fun _ _ h => h))
                 clear b2 k2)
    go_ret2
    exact ⟨rfl, (K2.out.setCell ⟨w.heap.size, 0, none⟩ _ (fun h => by simp at h)).setCell ⟨w.heap.size, 1, none⟩ _ (fun h => by simp at h)⟩
end Go.Proofs.Ytklcooepolmemaa
