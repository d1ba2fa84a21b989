/- The law CrcResidue, walked: bytes with their own sum behind them have always one and the same sum. -/
import Derived.Test.YteincbegfamhpaaDoorW2
import Derived.Test.YteincbegfamhpaaDoorMem
namespace Go.Proofs.YteincbegfamhpaaDoor
open Go.RowKit
def tailOf (s : Nat) : List Nat := [s % 256, s / 256 % 256, s / 65536 % 256, s / 16777216]
theorem tail_lt {s : Nat} (hs : s < 4294967296) : ∀ c ∈ tailOf s, c < 256 := by intro c hc; simp [tailOf] at hc; omega
theorem tail_num {s : Nat} : Math.num (tailOf s) = s := by simp only [Math.num, tailOf]; omega
theorem residue_of {M : Nat} (hm : ∀ s, turn s = M ^^^ s) {s : Nat} (hs : s < 4294967296) : more s (tailOf s) = M ^^^ Math.sts 32 M := by
  unfold more
  rw [hm, hm, Math.reg_sts _ (tail_lt hs), tail_num, Nat.xor_assoc, Nat.xor_self, Nat.xor_zero]
  rfl
theorem residue {s : Nat} (hs : s < 4294967296) : more s (tailOf s) = 1214729159 := by
  rw [residue_of turn_eq hs]
  decide +kernel
theorem residue_int {s : Nat} (hs : s < 4294967296) : ((more s (tailOf s) : Nat) : Int) = 1214729159 := by
  rw [residue hs]
  decide
theorem more_append (s : Nat) (L M : List Nat) : more s (L ++ M) = more (more s L) M := by
  unfold more
  rw [Math.reg_append, turn_turn]
set_option maxRecDepth 100000 in
set_option maxHeartbeats 800000 in
theorem residue_any (A : Option Addr) (n c : Nat) (L : List Nat) (w : World) (ht : Tab w) (h0 : 0 < w.heap.size) (hr : Bytes w A n L) (hn : n ≤ 140737488351232) :
    Calls Tryd.prog 7 #[.slice A n c] w fun e w' => e = .returned (.bool true) ∧ Below w.heap.size w w' := by
  have HT := Lib.hid ht
  have HR := Lib.hid hr
  clear ht hr
  go_enter Tryd.func7, Tryd.ntmps7
  go_wp2_with fail
  refine (shown_any _ HT.out h0).mono ?_
  rintro e w1 ⟨rfl, hb⟩
  have HB := Lib.hid hb
  clear hb
  have HT1 := Lib.hid (HT.out.below h0 HB.out)
  have HR1 := Lib.hid (HR.out.below HB.out)
  go_wp2_with fail
  refine (sum_any _ _ _ L _ HT1.out HR1.out).mono ?_
  rintro e w2 ⟨rfl, rfl⟩
  obtain ⟨s, hs⟩ : ∃ s, s = more 0 L := ⟨_, rfl⟩
  rw [← hs]
  have hs1 : s < 4294967296 := by rw [hs]; exact turn_lt (Math.reg_lt _ HR.out.2.2.1 (turn_lt (by decide)))
  have HS := Lib.hid hs
  clear hs
  have HT2 := Lib.hid (HT1.out.alloc (Nat.lt_of_lt_of_le h0 HB.out.size) (.cells #[.int .u8 (s % 256), .int .u8 (s / 256 % 256), .int .u8 (s / 65536 % 256), .int .u8 (s / 16777216)] 5))
  have HY := Lib.hid (bytes_new w1 (tailOf s) (by intro c hc; simp [tailOf] at hc; omega) (by simp [tailOf]) 5 #[.int .u8 (s % 256), .int .u8 (s / 256 % 256), .int .u8 (s / 65536 % 256), .int .u8 (s / 16777216)] (0, 0) (by simp [tailOf]) _ rfl 4 rfl)
  go_wp2_with fail
  refine (more_any s hs1 _ _ _ (tailOf s) _ HT2.out HY.out).mono ?_
  rintro e w2 ⟨rfl, rfl⟩
  rw [residue_int hs1]
  have hz1 := HB.out.size
  have HR2 := Lib.hid ((HR1.out.below ((Below.refl _ _).alloc (Nat.le_refl _) (.cells #[.int .u8 (s % 256), .int .u8 (s / 256 % 256), .int .u8 (s / 65536 % 256), .int .u8 (s / 16777216)] 5))).below ((Below.refl _ _).alloc (Nat.le_refl _) (.cells #[] 5)))
  have HY2 := Lib.hid (HY.out.below ((Below.refl _ _).alloc (Nat.le_refl _) (.cells #[] 5)))
  have HT3 := Lib.hid (HT2.out.alloc (by simp) (.cells #[] 5))
  have hp1 : 0 < w1.heap.size := Nat.lt_of_lt_of_le h0 hz1
  have HB2 := Lib.hid (((Below.refl w1.heap.size w1).alloc (Nat.le_refl _) (.cells #[.int .u8 (s % 256), .int .u8 (s / 256 % 256), .int .u8 (s / 65536 % 256), .int .u8 (s / 16777216)] 5)).alloc (by simp) (.cells #[] 5))
  go_wp2_with (first
    | (at_builtin; refine wp_append (by rfl) (.tmp 29) (.tmp 30) (by rfl) (w1.heap.size + 1) (.slice (some ⟨w1.heap.size + 1, 0, none⟩) 0 0) [] L A n c rfl rfl (own_empty _ _ _ (by simp) (Nat.le_refl _)) HR2.out (by simp; omega) (by simp) ?_
       intro v2 w2 own2 gr2 at2
       have OWN2 := Lib.hid own2
       have GR2 := Lib.hid gr2
       clear own2 gr2 at2)
    | (at_builtin; refine wp_append (by rfl) (.tmp 31) (.tmp 32) (by rfl) (w1.heap.size + 1) v2 ([] ++ L) (tailOf s) (some ⟨w1.heap.size, 0, none⟩) 4 4 rfl rfl OWN2.out (HY2.out.grown GR2.out (fun ad e _ => by injection e with e; subst e; simp [Value.ownBlock])) (by simp; have := HR.out.1; omega) (by have := GR2.out.size; simp at this; omega) ?_
       intro v3 w3 own3 gr3 at3
       have OWN3 := Lib.hid own3
       have GR3 := Lib.hid gr3
       clear own3 gr3 at3))
  have hz2 : w1.heap.size + 2 ≤ w2.heap.size := by have := GR2.out.size; simp at this; omega
  have B2 := Lib.hid (HB2.out.grown GR2.out (by simp; omega) (fun k hk => by simp [Value.ownBlock] at hk; omega))
  have B3 := Lib.hid (B2.out.grown GR3.out (by omega) (fun k hk => by have := OWN2.out.base_le k hk; omega))
  have hX : ∀ c ∈ [] ++ L ++ tailOf s, c < 256 := by
    intro c hc
    rcases List.mem_append.1 hc with h | h
    · exact HR.out.2.2.1 c (by simpa using h)
    · exact tail_lt hs1 c h
  obtain ⟨A3, c3, hv3, hB3⟩ := OWN3.out.bytes hX (by simp [tailOf]; have := HR.out.1; omega)
  rw [hv3]
  have HV := Lib.hid hv3
  clear hv3
  refine (sum_any _ _ _ _ _ (HT1.out.below hp1 B3.out) hB3).mono ?_
  rintro e w4 ⟨rfl, rfl⟩
  have hend : ((more 0 ([] ++ L ++ tailOf s) : Nat) : Int) = 1214729159 := by
    rw [List.nil_append, more_append, ← HS.out, residue hs1]
    decide
  rw [hend]
  clear hB3 hX hend
  go_wp2_with fail
  go_ret
  exact ⟨rfl, below_then HB.out hz1 B3.out⟩
end Go.Proofs.YteincbegfamhpaaDoor
