/- The law CrcLinear, walked: the sums of three rows of one length, and of what they make byte by byte, go together. -/
import Derived.Test.YteincbegfamhpaaDoorW2
import Derived.StillTailTactics
import Derived.Deep.QuietTactic
import Derived.BigQuiet
import Derived.Laws.Rows
import Derived.Deep.Draws
import Derived.Deep.OwnRows
namespace Go.Proofs.YteincbegfamhpaaDoor
open Go.RowKit
theorem min2_nat (a b : Nat) : Builtin.min2 (.int .i64 (a : Int)) (.int .i64 (b : Int)) = pure (.int .i64 ((min a b : Nat) : Int)) := by
  simp only [Builtin.min2]
  congr 2
  split <;> omega
theorem min3_nat (ats : Array TypeId) (ty : TypeId) (a b c : Nat) : Builtin.min_ ats ty #[.int .i64 (a : Int), .int .i64 (b : Int), .int .i64 (c : Int)] = pure (.int .i64 ((min (min a b) c : Nat) : Int)) := by
  simp only [Builtin.min_, List.foldlM_cons, List.foldlM_nil]
  rw [min2_nat, pure_bind, min2_nat, pure_bind]


/-- The row behind k rounds. -/
def mixed (L0 L1 L2 : List Nat) (k j : Nat) : Value := if j < k then .int .u8 (bits .xor .u8 (bits .xor .u8 (at_ L0 j) (at_ L1 j)) (at_ L2 j)) else .int .u8 0
theorem info5 : (Tryd.prog.info? 5).map (fun i => (i.zero, i.size, i.bytes)) = some (some (.int .u8 0), 1, 1) := by kernel_rfl
theorem below_drew {B : Nat} {w W : World} (h : Below B w W) : Below B w W.drew := ⟨h.os, h.tape, h.output, h.size, h.block⟩
theorem below_drewN {B : Nat} {w W : World} (h : Below B w W) (n : Nat) : Below B w (W.drewN n) := ⟨h.os, h.tape, h.output, h.size, h.block⟩
theorem take_get (L : List Nat) {j k : Nat} (h : j < k) : (L.take k).getD j 0 = L.getD j 0 := by
  rw [List.getD_eq_getElem?_getD, List.getD_eq_getElem?_getD, List.getElem?_take_of_lt h]
theorem more_lt (s : Nat) (L : List Nat) (hs : s < 4294967296) (hL : ∀ c ∈ L, c < 256) : more s L < 4294967296 := turn_lt (Math.reg_lt _ hL (turn_lt hs))
theorem more_mix_of {M : Nat} (hm : ∀ s, turn s = M ^^^ s) (l m p : List Nat) (n : Nat) (h1 : l.length = n) (h2 : m.length = n) (h3 : p.length = n) (g1 : ∀ c ∈ l, c < 256) (g2 : ∀ c ∈ m, c < 256) (g3 : ∀ c ∈ p, c < 256) :
    more 0 (Math.mixL l m p) = more 0 l ^^^ more 0 m ^^^ more 0 p := by
  unfold more
  simp only [hm, Nat.xor_zero]
  exact Math.reg_mix M l m p n h1 h2 h3 g1 g2 g3
theorem more_mix (l m p : List Nat) (n : Nat) (h1 : l.length = n) (h2 : m.length = n) (h3 : p.length = n) (g1 : ∀ c ∈ l, c < 256) (g2 : ∀ c ∈ m, c < 256) (g3 : ∀ c ∈ p, c < 256) :
    more 0 (Math.mixL l m p) = more 0 l ^^^ more 0 m ^^^ more 0 p := more_mix_of turn_eq l m p n h1 h2 h3 g1 g2 g3
theorem mk_bytes (n : Nat) (hn : n ≤ 281474976710000) : ∀ W : World, (Instr.makeSlice 22 (.int .i64 (n : Int)) (.int .i64 (n : Int))).run Tryd.prog W =
    .ok (.slice (some ⟨W.heap.size, 0, none⟩) n n) (W.alloc (.cells (madeCells #[.int .u8 0] n) 5)) := fun W =>
  run_make_row' 22 5 (.int .u8 0) 1 Tryd.underlying22 info5 rfl .i64 .i64 n (by omega) (by omega) W
set_option maxRecDepth 100000 in
set_option maxHeartbeats 800000 in
theorem linear_any (A0 A1 A2 : Option Addr) (n0 c0 n1 c1 n2 c2 : Nat) (L0 L1 L2 : List Nat) (w : World) (ht : Tab w) (h0 : 0 < w.heap.size) (hr0 : Bytes w A0 n0 L0) (hr1 : Bytes w A1 n1 L1) (hr2 : Bytes w A2 n2 L2) (k0 : n0 ≤ c0) (k1 : n1 ≤ c1) (k2 : n2 ≤ c2) :
    Calls Tryd.prog 6 #[.slice A0 n0 c0, .slice A1 n1 c1, .slice A2 n2 c2] w fun e w' => e = .returned (.bool true) ∧ Below w.heap.size w w' := by
  obtain ⟨n, hn⟩ : ∃ n, n = min (min n0 n1) n2 := ⟨_, rfl⟩
  have g0 : n ≤ n0 := by omega
  have g1 : n ≤ n1 := by omega
  have g2 : n ≤ n2 := by omega
  have gm : n ≤ 281474976710000 := Nat.le_trans g0 hr0.2.1
  have hmin : ∀ (ats : Array TypeId) (ty : TypeId), Builtin.min_ ats ty #[.int .i64 (n0 : Int), .int .i64 (n1 : Int), .int .i64 (n2 : Int)] = pure (.int .i64 (n : Int)) := fun ats ty => by rw [min3_nat, hn]
  have HT := Lib.hid ht
  have HR0 := Lib.hid hr0
  have HR1 := Lib.hid hr1
  have HR2 := Lib.hid hr2
  clear ht hr0 hr1 hr2 hn
  go_enter Tryd.func6, Tryd.ntmps6
  go_wp2_with fail
  refine (shown_any _ HT.out h0).mono ?_
  rintro e w1 ⟨rfl, hb⟩
  have HB := Lib.hid hb
  clear hb
  have HR01 := Lib.hid (HR0.out.below HB.out)
  have HR11 := Lib.hid (HR1.out.below HB.out)
  have HR21 := Lib.hid (HR2.out.below HB.out)
  have hmk := mk_bytes n gm
  go_wp2_with fail
  clear hmk hmin
  have hz1 := HB.out.size
  go_loopw [10] (fun i wr => ∃ k : Nat, k ≤ n ∧ i = .int .i64 k ∧ wr.rowIs w1.heap.size 5 n (mixed L0 L1 L2 k) ∧ Below w1.heap.size w1 wr) (fun i _ => n - (intOf i).toNat)
  case atStart =>
    refine ⟨0, Nat.zero_le _, rfl, ?_, (Below.refl _ _).alloc (Nat.le_refl _) _⟩
    exact (World.rowIs_made w1 (.int .u8 0) n 5).congr (fun j _ => by unfold mixed; rw [if_neg (by omega)])
  case round =>
    obtain ⟨k, hk, rfl, hrow, hbel⟩ := hrel
    have HW := Lib.hid hrow
    have HE := Lib.hid hbel
    clear hrow hbel
    by_cases hlt : k < n
    · obtain ⟨_, _, hL0, hr0⟩ := HR01.out.below HE.out
      obtain ⟨_, _, hL1, hr1⟩ := HR11.out.below HE.out
      obtain ⟨_, _, hL2, hr2⟩ := HR21.out.below HE.out
      obtain ⟨a0, rfl, q0⟩ := hr0 (by omega)
      obtain ⟨a1, rfl, q1⟩ := hr1 (by omega)
      obtain ⟨a2, rfl, q2⟩ := hr2 (by omega)
      have d0 := q0 k (by omega)
      have d1 := q1 k (by omega)
      have d2 := q2 k (by omega)
      have f1 := HW.out.cell hlt
      have f2 := HW.out.frozen k
      clear q0 q1 q2 hr0 hr1 hr2 hL0 hL1 hL2
      have i0 : (0 : Int) ≤ (k : Int) := by omega
      have i1 : (k : Int) < (n : Int) := by omega
      have i2 : (k : Int) < (n0 : Int) := by omega
      have i3 : (k : Int) < (n1 : Int) := by omega
      have i4 : (k : Int) < (n2 : Int) := by omega
      go_wp2_with fail
      go_still_tail 17, (by kernel_rfl)
      go_wp2_with fail
      refine ⟨⟨k + 1, by omega, by go_num, ((HW.out.set k _).drew).congr (fun j hj => ?_), below_drew (HE.out.setCell (Nat.le_refl _) _)⟩, by simp [intOf]; omega⟩
      unfold mixed
      by_cases e : j = k
      · subst e; rw [if_pos rfl, if_pos (by omega)]
      · rw [if_neg e]
        by_cases e2 : j < k
        · rw [if_pos e2, if_pos (by omega)]
        · rw [if_neg e2, if_neg (by omega)]
    · obtain rfl : k = n := by omega
      have hl0 : (L0.take k).length = k := by rw [List.length_take, HR0.out.1]; omega
      have hl1 : (L1.take k).length = k := by rw [List.length_take, HR1.out.1]; omega
      have hl2 : (L2.take k).length = k := by rw [List.length_take, HR2.out.1]; omega
      have b0 : ∀ c ∈ L0.take k, c < 256 := fun c hc => HR0.out.2.2.1 c (List.mem_of_mem_take hc)
      have b1 : ∀ c ∈ L1.take k, c < 256 := fun c hc => HR1.out.2.2.1 c (List.mem_of_mem_take hc)
      have b2 : ∀ c ∈ L2.take k, c < 256 := fun c hc => HR2.out.2.2.1 c (List.mem_of_mem_take hc)
      have hX : Bytes wr (some ⟨w1.heap.size, 0, none⟩) k (Math.mixL (L0.take k) (L1.take k) (L2.take k)) := by
        refine bytes_row HW.out _ (Math.mixL_length _ _ _ k hl0 hl1 hl2) (by omega) (Math.mixL_lt _ _ _ b0 b1 b2) (fun j hj => ?_)
        unfold mixed at_
        rw [if_pos hj, Math.mixL_get _ _ _ j (by omega) (by omega) (by omega)]
        have t0 := getD_lt HR0.out.2.2.1 j
        have t1 := getD_lt HR1.out.2.2.1 j
        have t2 := getD_lt HR2.out.2.2.1 j
        rw [u8_xor_nat _ _ t0 t1, u8_xor_nat _ _ (Nat.xor_lt_two_pow (n := 8) t0 t1) t2]
        rw [take_get L0 hj, take_get L1 hj, take_get L2 hj]
      have HX := Lib.hid hX
      have HQ0 := Lib.hid ((HR01.out.below HE.out).take g0)
      have HQ1 := Lib.hid ((HR11.out.below HE.out).take g1)
      have HQ2 := Lib.hid ((HR21.out.below HE.out).take g2)
      have HTr := Lib.hid (((HT.out.below h0 HB.out)).below (by omega) HE.out)
      have hfin : (((more 0 (Math.mixL (L0.take k) (L1.take k) (L2.take k)) : Nat) : Int) == bits .xor .u32 (bits .xor .u32 ((more 0 (L0.take k) : Nat) : Int) ((more 0 (L1.take k) : Nat) : Int)) ((more 0 (L2.take k) : Nat) : Int)) = true := by
        have m0 := more_lt 0 (L0.take k) (by decide) b0
        have m1 := more_lt 0 (L1.take k) (by decide) b1
        have m2 := more_lt 0 (L2.take k) (by decide) b2
        rw [u32_xor_nat _ _ m0 m1, u32_xor_nat _ _ (Nat.xor_lt_two_pow (n := 32) m0 m1) m2, beq_iff_eq]
        rw [more_mix _ _ _ k hl0 hl1 hl2 b0 b1 b2]
      clear hX hl0 hl1 hl2 b0 b1 b2
      have s0 : (k : Int) ≤ (c0 : Int) := by omega
      have s1 : (k : Int) ≤ (c1 : Int) := by omega
      have s2 : (k : Int) ≤ (c2 : Int) := by omega
      have s3 : (0 : Int) ≤ (k : Int) := by omega
      go_wp2_with fail
      go_quiet (first | (with_reducible exact sum_q _ _ _ _ _ _ HTr.out HX.out) | (with_reducible exact sum_q _ _ _ _ _ _ HTr.out HQ0.out) | (with_reducible exact sum_q _ _ _ _ _ _ HTr.out HQ1.out) | (with_reducible exact sum_q _ _ _ _ _ _ HTr.out HQ2.out))
      go_wp2_with fail
      go_ret
      exact ⟨rfl, below_drewN (below_then HB.out hz1 HE.out) nq⟩
end Go.Proofs.YteincbegfamhpaaDoor
