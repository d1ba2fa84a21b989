/- The law CrcJoins, walked: bytes may be summed in pieces, where both pieces together have room. -/
import Derived.Test.YteincbegfamhpaaDoorMem
namespace Go.Proofs.YteincbegfamhpaaDoor
open Go.RowKit
theorem more_append' (s : Nat) (L M : List Nat) : more s (L ++ M) = more (more s L) M := by
  unfold more
  rw [Math.reg_append, turn_turn]
theorem more_lt' (s : Nat) (L : List Nat) (hs : s < 4294967296) (hL : ∀ c ∈ L, c < 256) : more s L < 4294967296 := turn_lt (Math.reg_lt _ hL (turn_lt hs))
set_option maxRecDepth 100000 in
set_option maxHeartbeats 800000 in
theorem joins_any (A0 A1 : Option Addr) (n0 c0 n1 c1 : Nat) (L0 L1 : List Nat) (s : Nat) (hs : s < 4294967296) (w : World) (ht : Tab w) (h0 : 0 < w.heap.size) (hr0 : Bytes w A0 n0 L0) (hr1 : Bytes w A1 n1 L1) (hn : n0 + n1 ≤ 140737488355328) :
    Calls Tryd.prog 4 #[.slice A0 n0 c0, .slice A1 n1 c1, .int .u32 s] w fun e w' => e = .returned (.bool true) ∧ Below w.heap.size w w' := by
  have HT := Lib.hid ht
  have HR0 := Lib.hid hr0
  have HR1 := Lib.hid hr1
  clear ht hr0 hr1
  go_enter Tryd.func4, Tryd.ntmps4
  go_wp2_with fail
  refine (shown_any _ HT.out h0).mono ?_
  rintro e w1 ⟨rfl, hb⟩
  have HB := Lib.hid hb
  clear hb
  have hz1 := HB.out.size
  have HT1 := Lib.hid (HT.out.below h0 HB.out)
  have hp1 : 0 < w1.heap.size := Nat.lt_of_lt_of_le h0 hz1
  have HA0 := Lib.hid ((HR0.out.below HB.out).below ((Below.refl _ _).alloc (Nat.le_refl _) (.cells #[] 5)))
  have HA1 := Lib.hid ((HR1.out.below HB.out).below ((Below.refl _ _).alloc (Nat.le_refl _) (.cells #[] 5)))
  have HB2 := Lib.hid ((Below.refl w1.heap.size w1).alloc (Nat.le_refl _) (.cells #[] 5))
  have HOLD := Lib.hid (HR1.out.below HB.out)
  go_wp2_with (first
    | (at_builtin; refine wp_append (by rfl) (.tmp 12) (.tmp 13) (by rfl) w1.heap.size (.slice (some ⟨w1.heap.size, 0, none⟩) 0 0) [] L0 A0 n0 c0 rfl rfl (own_empty _ _ _ rfl (Nat.le_refl _)) HA0.out (by simp; omega) (by simp) ?_
       intro v2 w2 own2 gr2 at2
       have OWN2 := Lib.hid own2
       have GR2 := Lib.hid gr2
       clear own2 gr2 at2)
    | (at_builtin; refine wp_append (by rfl) (.tmp 14) (.tmp 15) (by rfl) w1.heap.size v2 ([] ++ L0) L1 A1 n1 c1 rfl rfl OWN2.out (HOLD.out.below (HB2.out.grown GR2.out (by simp) (fun k hk => by simp [Value.ownBlock] at hk; omega))) (by simp; have := HR0.out.1; omega) (by have := GR2.out.size; simp at this; omega) ?_
       intro v3 w3 own3 gr3 at3
       have OWN3 := Lib.hid own3
       have GR3 := Lib.hid gr3
       clear own3 gr3 at3))
  have hz2 : w1.heap.size + 1 ≤ w2.heap.size := by have := GR2.out.size; simp at this; omega
  have B2 := Lib.hid (HB2.out.grown GR2.out (by simp) (fun k hk => by simp [Value.ownBlock] at hk; omega))
  have B3 := Lib.hid (B2.out.grown GR3.out (by omega) (fun k hk => by have := OWN2.out.base_le k hk; omega))
  have hX : ∀ c ∈ [] ++ L0 ++ L1, c < 256 := by
    intro c hc
    rcases List.mem_append.1 hc with h | h
    · exact HR0.out.2.2.1 c (by simpa using h)
    · exact HR1.out.2.2.1 c h
  obtain ⟨A3, c3, hv3, hB3⟩ := OWN3.out.bytes hX (by simp; have := HR0.out.1; have := HR1.out.1; omega)
  have hlx : ([] ++ L0 ++ L1).length = n0 + n1 := by simp; have := HR0.out.1; have := HR1.out.1; omega
  rw [hlx] at hv3 hB3
  clear hlx
  rw [hv3]
  have HV := Lib.hid hv3
  have HX := Lib.hid hB3
  clear hv3 hB3 hX
  have T3 := Lib.hid (HT1.out.below hp1 B3.out)
  have Q0 := Lib.hid ((HR0.out.below HB.out).below B3.out)
  have Q1 := Lib.hid ((HR1.out.below HB.out).below B3.out)
  have s1 := more_lt' s L0 hs HR0.out.2.2.1
  have s2 := more_lt' 0 L0 (by decide) HR0.out.2.2.1
  have e1 : more s ([] ++ L0 ++ L1) = more (more s L0) L1 := by rw [List.nil_append, more_append']
  have e2 : more 0 ([] ++ L0 ++ L1) = more (more 0 L0) L1 := by rw [List.nil_append, more_append']
  have E1 := Lib.hid e1
  have E2 := Lib.hid e2
  clear e1 e2
  refine (more_any s hs _ _ _ _ _ T3.out Q0.out).mono ?_
  rintro e w4 ⟨rfl, rfl⟩
  go_wp2_with fail
  refine (more_any _ s1 _ _ _ _ _ T3.out Q1.out).mono ?_
  rintro e w4 ⟨rfl, rfl⟩
  go_wp2_with fail
  refine (sum_any _ _ _ _ _ T3.out Q0.out).mono ?_
  rintro e w4 ⟨rfl, rfl⟩
  go_wp2_with fail
  refine (more_any _ s2 _ _ _ _ _ T3.out Q1.out).mono ?_
  rintro e w4 ⟨rfl, rfl⟩
  go_wp2_with fail
  refine (more_any s hs _ _ _ _ _ T3.out HX.out).mono ?_
  rintro e w4 ⟨rfl, rfl⟩
  rw [E1.out]
  go_wp2_with fail
  refine (sum_any _ _ _ _ _ T3.out HX.out).mono ?_
  rintro e w4 ⟨rfl, rfl⟩
  rw [E2.out]
  go_wp2_with fail
  refine (more_any 0 (by decide) _ _ _ _ _ T3.out Q1.out).mono ?_
  rintro e w4 ⟨rfl, rfl⟩
  go_wp2_with fail
  refine (sum_any _ _ _ _ _ T3.out Q1.out).mono ?_
  rintro e w4 ⟨rfl, rfl⟩
  go_wp2_with fail
  go_ret
  exact ⟨rfl, below_then HB.out hz1 B3.out⟩
end Go.Proofs.YteincbegfamhpaaDoor
