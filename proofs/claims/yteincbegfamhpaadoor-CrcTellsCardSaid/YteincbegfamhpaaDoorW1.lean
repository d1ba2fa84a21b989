/- The check sums' walks: the program's More and Sum, and the reference's, compute the same plain function of the bytes. -/
import Derived.Test.YteincbegfamhpaaDoorProg
import Derived.Test.YteincbegfamhpaaDoorMath
import Derived.WalkKit
import Derived.Lib.Hide
import Derived.Deep.Draws
namespace Go.Proofs.YteincbegfamhpaaDoor
open Go.RowKit

def tabAt (i : Nat) : Int := ((Math.tab.getD i 0 : Nat) : Int)
def Tab (w : World) : Prop := ∀ i : Nat, i < 16 → w.cell? ⟨0, i, none⟩ = some (.int .u32 (tabAt i))
def m15 (x : Int) : Nat := (bits .and .u32 x 15).toNat
theorem bits_u32_range (op : BinOp) (x y : Int) : 0 ≤ bits op .u32 x y ∧ bits op .u32 x y < 4294967296 := by
  unfold bits
  have key : ∀ n : Int, 0 ≤ IntKind.u32.wrap n ∧ IntKind.u32.wrap n < 4294967296 := by
    intro n
    rw [IntKind.wrap_u32]
    omega
  exact key _
theorem m15_eq (x : Int) : bits .and .u32 x 15 = (m15 x : Int) := by
  have := bits_u32_range .and x 15
  unfold m15
  omega
theorem and15_lt (x : Int) : bits .and .u32 x 15 < 16 := by
  have h : (BitVec.ofInt 32 x &&& BitVec.ofInt 32 15).toNat < 2 ^ 4 := by
    rw [BitVec.toNat_and]
    exact Nat.and_lt_two_pow _ (by decide)
  show IntKind.u32.wrap ((BitVec.ofInt 32 x &&& BitVec.ofInt 32 15).toNat : Int) < 16
  rw [IntKind.wrap_u32]
  omega
theorem m15_lt (x : Int) : m15 x < 16 := by
  have := and15_lt x
  rw [m15_eq] at this
  omega
theorem m15_nat {x : Nat} (h : x < 4294967296) : m15 (x : Int) = x % 16 := by
  unfold m15
  rw [show (15 : Int) = ((15 : Nat) : Int) from rfl, u32_and_nat x 15 h (by decide), nat_mask4]
  rfl
/-- Four bits by the table. -/
def nib (x : Int) : Int := bits .xor .u32 (tabAt (m15 x)) (x / 16)
theorem tab_lt (i : Nat) : Math.tab.getD i 0 < 4294967296 := by
  rcases Nat.lt_or_ge i 16 with h | h
  · have : ∀ j : Fin 16, Math.tab.getD j.val 0 < 4294967296 := by decide
    exact this ⟨i, h⟩
  · rw [List.getD_eq_getElem?_getD, List.getElem?_eq_none (by simpa [Math.tab] using h)]; decide
theorem nib_nat {x : Nat} (h : x < 4294967296) : nib (x : Int) = ((Math.sts 4 x : Nat) : Int) := by
  unfold nib tabAt
  rw [m15_nat h, show ((x : Int) / 16) = ((x / 16 : Nat) : Int) from rfl, u32_xor_nat _ _ (tab_lt _) (by omega), Math.nib_sts]
/-- The register behind k bytes. -/
def R (s : Int) (l : Nat → Int) : Nat → Int
  | 0 => bits .xor .u32 IntKind.u32.max s
  | k + 1 => nib (nib (bits .xor .u32 (R s l k) (l k)))
/-- One bit's step, and k of them. -/
def stI (x : Int) : Int := if x % 2 = 1 then bits .xor .u32 (x / 2) 2197175160 else x / 2
def stIs (x : Int) : Nat → Int
  | 0 => x
  | k + 1 => stI (stIs x k)
def RR (s : Int) (l : Nat → Int) : Nat → Int
  | 0 => bits .xor .u32 IntKind.u32.max s
  | k + 1 => stIs (bits .xor .u32 (RR s l k) (l k)) 8
theorem stI_range {x : Int} (h : 0 ≤ x ∧ x < 4294967296) : 0 ≤ stI x ∧ stI x < 4294967296 := by
  unfold stI
  split
  · exact bits_u32_range _ _ _
  · omega
theorem stIs_range {x : Int} (h : 0 ≤ x ∧ x < 4294967296) (k : Nat) : 0 ≤ stIs x k ∧ stIs x k < 4294967296 := by
  induction k with
  | zero => exact h
  | succ k ih => exact stI_range ih
theorem stI_nat {x : Nat} (h : x < 4294967296) : stI (x : Int) = ((Math.st x : Nat) : Int) := by
  unfold stI Math.st
  by_cases hx : x % 2 = 1
  · rw [if_pos (by omega), if_pos hx, show ((x : Int) / 2) = ((x / 2 : Nat) : Int) from rfl, show (2197175160 : Int) = ((Math.poly : Nat) : Int) from rfl, u32_xor_nat _ _ (by omega) (by decide)]
  · rw [if_neg (by omega), if_neg hx, Nat.xor_zero]
    rfl
theorem sts_snoc (k x : Nat) : Math.sts (k + 1) x = Math.st (Math.sts k x) := by
  rw [Math.sts_add]
  rfl
theorem stIs_nat {x : Nat} (h : x < 4294967296) (k : Nat) : stIs (x : Int) k = ((Math.sts k x : Nat) : Int) := by
  induction k with
  | zero => rfl
  | succ k ih =>
    show stI (stIs x k) = _
    rw [ih, stI_nat (Math.sts_lt k h), sts_snoc]
/-- The register at the begin, and the sum at the end. -/
theorem turn_ex : ∃ f : Nat → Nat, ∀ s, f s = 4294967295 ^^^ s := ⟨fun s => 4294967295 ^^^ s, fun _ => rfl⟩
/-- All 32 bits turned round. (Chosen, so that nothing unfolds it.) -/
noncomputable def turn : Nat → Nat := Classical.choose turn_ex
theorem turn_eq (s : Nat) : turn s = 4294967295 ^^^ s := Classical.choose_spec turn_ex s
theorem turn_lt {s : Nat} (h : s < 4294967296) : turn s < 4294967296 := by
  rw [turn_eq]
  exact Nat.xor_lt_two_pow (n := 32) (by decide) h
theorem turn_xor (a b : Nat) (m : Nat) (hm : ∀ s, turn s = m ^^^ s) : turn (a ^^^ b) = turn a ^^^ b := by rw [hm, hm, Nat.xor_assoc]
theorem xor_xor (m s : Nat) : m ^^^ (m ^^^ s) = s := by rw [← Nat.xor_assoc, Nat.xor_self, Nat.zero_xor]
theorem turn_of {m : Nat} (hm : ∀ s, turn s = m ^^^ s) (s : Nat) : turn (turn s) = s := by rw [hm, hm, xor_xor]
theorem turn_turn (s : Nat) : turn (turn s) = s := turn_of turn_eq s
theorem turn_int {s : Nat} (h : s < 4294967296) : bits .xor .u32 IntKind.u32.max (s : Int) = ((turn s : Nat) : Int) := by
  have e : IntKind.u32.max = ((4294967295 : Nat) : Int) := by decide
  rw [e, u32_xor_nat _ _ (by decide) h, turn_eq]
noncomputable def more (s : Nat) (L : List Nat) : Nat := turn (Math.reg (turn s) L)
theorem take_snoc (L : List Nat) (k : Nat) (h : k < L.length) : L.take (k + 1) = L.take k ++ [L.getD k 0] := by
  rw [List.take_succ_eq_append_getElem h, List.getD_eq_getElem?_getD, List.getElem?_eq_getElem h]
  rfl
theorem getD_lt {L : List Nat} (hL : ∀ c ∈ L, c < 256) (j : Nat) : L.getD j 0 < 256 := by
  rw [List.getD_eq_getElem?_getD]
  rcases Nat.lt_or_ge j L.length with h | h
  · rw [List.getElem?_eq_getElem h]
    exact hL _ (List.getElem_mem h)
  · rw [List.getElem?_eq_none h]
    decide
def at_ (L : List Nat) (j : Nat) : Int := ((L.getD j 0 : Nat) : Int)
theorem R_nat {s : Nat} (hs : s < 4294967296) {L : List Nat} (hL : ∀ c ∈ L, c < 256) (k : Nat) (hk : k ≤ L.length) : R s (at_ L) k = ((Math.reg (turn s) (L.take k) : Nat) : Int) := by
  induction k with
  | zero => rw [List.take_zero]; exact turn_int hs
  | succ k ih =>
    have hr : Math.reg (turn s) (L.take k) < 4294967296 := Math.reg_lt _ (fun c hc => hL c (List.mem_of_mem_take hc)) (turn_lt hs)
    have hc := getD_lt hL k
    have hx : Math.reg (turn s) (L.take k) ^^^ L.getD k 0 < 4294967296 := Nat.xor_lt_two_pow (n := 32) hr (by omega)
    show nib (nib (bits .xor .u32 (R s (at_ L) k) (at_ L k))) = _
    rw [ih (by omega), take_snoc L k (by omega), Math.reg_append]
    unfold at_
    rw [u32_xor_nat _ _ hr (by omega), nib_nat hx, nib_nat (Math.sts_lt 4 hx), ← Math.sts_add]
    rfl
theorem RR_nat {s : Nat} (hs : s < 4294967296) {L : List Nat} (hL : ∀ c ∈ L, c < 256) (k : Nat) (hk : k ≤ L.length) : RR s (at_ L) k = ((Math.reg (turn s) (L.take k) : Nat) : Int) := by
  induction k with
  | zero => rw [List.take_zero]; exact turn_int hs
  | succ k ih =>
    have hr : Math.reg (turn s) (L.take k) < 4294967296 := Math.reg_lt _ (fun c hc => hL c (List.mem_of_mem_take hc)) (turn_lt hs)
    have hc := getD_lt hL k
    have hx : Math.reg (turn s) (L.take k) ^^^ L.getD k 0 < 4294967296 := Nat.xor_lt_two_pow (n := 32) hr (by omega)
    show stIs (bits .xor .u32 (RR s (at_ L) k) (at_ L k)) 8 = _
    rw [ih (by omega), take_snoc L k (by omega), Math.reg_append]
    unfold at_
    rw [u32_xor_nat _ _ hr (by omega), stIs_nat hx]
    rfl

/-- A slice of bytes that is read: nil, empty and other ones alike. -/
def Bytes (w : World) (A : Option Addr) (n : Nat) (L : List Nat) : Prop :=
  L.length = n ∧ n ≤ 281474976710000 ∧ (∀ c ∈ L, c < 256) ∧ (0 < n → ∃ ad, A = some ad ∧ ∀ j, j < n → w.cell? (ad.add j) = some (.int .u8 (at_ L j)))
theorem at_range {L : List Nat} (hL : ∀ c ∈ L, c < 256) (j : Nat) : 0 ≤ at_ L j ∧ at_ L j < 256 := by
  have := getD_lt hL j
  unfold at_
  omega

theorem ret_u32 {a b : Int} (h : a = b) : Ending.returned (.int .u32 a) = .returned (.int .u32 b) := by rw [h]

set_option maxHeartbeats 400000 in
theorem more_any (s : Nat) (hs : s < 4294967296) (A : Option Addr) (n c : Nat) (L : List Nat) (w : World) (ht : Tab w) (hr : Bytes w A n L) :
    Calls Tryd.prog 11 #[.int .u32 s, .slice A n c] w fun e w' => e = .returned (.int .u32 (more s L : Nat)) ∧ w = w' := by
  have HT := Lib.hid ht
  clear ht
  obtain ⟨hlen, hn, hL, hr⟩ := hr
  have hfin : bits .xor .u32 IntKind.u32.max (R s (at_ L) n) = ((more s L : Nat) : Int) := by
    rw [R_nat hs hL n (by omega), ← hlen, List.take_length, turn_int (Math.reg_lt _ hL (turn_lt hs))]
    rfl
  have HF := Lib.hid hfin
  clear hfin
  clear hlen
  go_enter Tryd.func11, Tryd.ntmps11
  go_wp2
  go_loop [5, 12] (fun r i => ∃ k : Nat, k ≤ n ∧ i = .int .i64 k ∧ r = .int .u32 (R s (at_ L) k)) (fun _ i => n - (intOf i).toNat)
  case atStart => exact ⟨0, Nat.zero_le _, rfl, rfl⟩
  case round =>
    obtain ⟨k, hk, rfl, rfl⟩ := hrel
    by_cases hlt : k < n
    · obtain ⟨ad, rfl, hc⟩ := hr (by omega)
      have hck := hc k hlt
      clear hc
      have hb1 := (at_range hL k).1
      have hb2 := (at_range hL k).2
      clear hL hr
      have e1 := m15_eq (bits .xor .u32 (R s (at_ L) k) (at_ L k))
      have e2 := m15_lt (bits .xor .u32 (R s (at_ L) k) (at_ L k))
      have e3 := HT.out _ e2
      have e4 := m15_eq (bits .xor .u32 (tabAt (m15 (bits .xor .u32 (R s (at_ L) k) (at_ L k)))) (bits .xor .u32 (R s (at_ L) k) (at_ L k) / 16))
      have e5 := m15_lt (bits .xor .u32 (tabAt (m15 (bits .xor .u32 (R s (at_ L) k) (at_ L k)))) (bits .xor .u32 (R s (at_ L) k) (at_ L k) / 16))
      have e6 := HT.out _ e5
      go_wp2
      go_round
      case rel => exact ⟨k + 1, by omega, by go_num, rfl⟩
      case measure => simp [intOf]; omega
    · obtain rfl : k = n := by omega
      go_wp2
      go_ret
      exact ⟨ret_u32 HF.out, rfl⟩

set_option maxRecDepth 100000 in
set_option maxHeartbeats 400000 in
theorem ref_more (s : Nat) (hs : s < 4294967296) (A : Option Addr) (n c : Nat) (L : List Nat) (w : World) (hr : Bytes w A n L) :
    Calls Tryd.prog 12 #[.int .u32 s, .slice A n c] w fun e w' => e = .returned (.int .u32 (more s L : Nat)) ∧ w = w' := by
  obtain ⟨hlen, hn, hL, hr⟩ := hr
  have hfin : bits .xor .u32 IntKind.u32.max (RR s (at_ L) n) = ((more s L : Nat) : Int) := by
    rw [RR_nat hs hL n (by omega), ← hlen, List.take_length, turn_int (Math.reg_lt _ hL (turn_lt hs))]
    rfl
  have HF := Lib.hid hfin
  clear hfin
  clear hlen
  go_enter Tryd.func12, Tryd.ntmps12
  go_wp2
  go_loop [5, 6, 7] (fun r i _ => ∃ k : Nat, k ≤ n ∧ i = .int .i64 k ∧ r = .int .u32 (RR s (at_ L) k)) (fun _ i _ => n - (intOf i).toNat)
  case atStart => exact ⟨0, Nat.zero_le _, rfl, rfl⟩
  case round =>
    obtain ⟨k, hk, rfl, rfl⟩ := hrel
    by_cases hlt : k < n
    · obtain ⟨ad, rfl, hc⟩ := hr (by omega)
      have hck := hc k hlt
      clear hc
      have hb1 := (at_range hL k).1
      have hb2 := (at_range hL k).2
      clear hL hr
      go_wp2
      go_loop [5, 7] (fun r i => ∃ j : Nat, j ≤ 8 ∧ i = .int .i64 j ∧ r = .int .u32 (stIs (bits .xor .u32 (RR s (at_ L) k) (at_ L k)) j)) (fun _ i => 8 - (intOf i).toNat)
      case atStart => exact ⟨0, by omega, rfl, rfl⟩
      case round =>
        obtain ⟨j, hj, rfl, rfl⟩ := hrel
        have hx := stIs_range (bits_u32_range .xor (RR s (at_ L) k) (at_ L k)) j
        have hx1 := hx.1
        have hx2 := hx.2
        clear hx
        have hstep : stIs (bits .xor .u32 (RR s (at_ L) k) (at_ L k)) (j + 1) = stI (stIs (bits .xor .u32 (RR s (at_ L) k) (at_ L k)) j) := rfl
        have HS := Lib.hid hstep
        clear hstep
        by_cases hj8 : j < 8
        · by_cases hodd : stIs (bits .xor .u32 (RR s (at_ L) k) (at_ L k)) j % 2 = 1
          · have hO := Lib.hid hodd
            have hb : (stIs (bits .xor .u32 (RR s (at_ L) k) (at_ L k)) j % 2 == 1) = true := by simpa using hodd
            clear hodd
            go_wp2
            go_round
            case rel => exact ⟨j + 1, by omega, by go_num, by rw [HS.out]; unfold stI; rw [if_pos hO.out]⟩
            case measure => simp [intOf]; omega
          · have hO := Lib.hid hodd
            have hb : (stIs (bits .xor .u32 (RR s (at_ L) k) (at_ L k)) j % 2 == 1) = false := by simpa using hodd
            clear hodd
            go_wp2
            go_round
            case rel => exact ⟨j + 1, by omega, by go_num, by rw [HS.out]; unfold stI; rw [if_neg hO.out]⟩
            case measure => simp [intOf]; omega
        · obtain rfl : j = 8 := by omega
          go_wp2
          go_round
          case rel => exact ⟨k + 1, by omega, by go_num, rfl⟩
          case measure => simp [intOf]; omega
    · obtain rfl : k = n := by omega
      go_wp2
      go_ret
      exact ⟨ret_u32 HF.out, rfl⟩

theorem sum_any (A : Option Addr) (n c : Nat) (L : List Nat) (w : World) (ht : Tab w) (hr : Bytes w A n L) :
    Calls Tryd.prog 9 #[.slice A n c] w fun e w' => e = .returned (.int .u32 (more 0 L : Nat)) ∧ w = w' := by
  have HT := Lib.hid ht
  clear ht
  have HR := Lib.hid hr
  clear hr
  go_enter Tryd.func9, Tryd.ntmps9
  go_wp2_with fail
  refine (more_any 0 (by decide) _ _ _ L _ HT.out HR.out).mono ?_
  rintro e w' ⟨rfl, rfl⟩
  go_wp2
  go_ret
  exact ⟨rfl, rfl⟩
theorem ref_sum (A : Option Addr) (n c : Nat) (L : List Nat) (w : World) (hr : Bytes w A n L) :
    Calls Tryd.prog 10 #[.slice A n c] w fun e w' => e = .returned (.int .u32 (more 0 L : Nat)) ∧ w = w' := by
  have HR := Lib.hid hr
  clear hr
  go_enter Tryd.func10, Tryd.ntmps10
  go_wp2_with fail
  refine (ref_more 0 (by decide) _ _ _ L _ HR.out).mono ?_
  rintro e w' ⟨rfl, rfl⟩
  go_wp2
  go_ret
  exact ⟨rfl, rfl⟩
/-- The same in a region that draws its order. -/
theorem sum_q (A : Option Addr) (n c : Nat) (L : List Nat) (w : World) (q : Nat) (ht : Tab w) (hr : Bytes w A n L) :
    Calls Tryd.prog 9 #[.slice A n c] (w.drewN q) fun e w'' => e = .returned (.int .u32 (more 0 L : Nat)) ∧ ∃ m, w'' = w.drewN m :=
  (sum_any A n c L (w.drewN q) ht hr).mono fun _ _ ⟨he, hw⟩ => ⟨he, q, hw.symm⟩
end Go.Proofs.YteincbegfamhpaaDoor
