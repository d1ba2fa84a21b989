/- The library's heap over a queue: Push, Pop: walked. -/
import Derived.Test.YteeginfbonfhlaaW4
namespace Go.Proofs.Yteeginfbonfhlaa
open Go.RowKit Mem
theorem fn_append_l {H : List DU} {x : DU} {k : Nat} (h : k < H.length) : fn (H ++ [x]) k = fn H k := by
  unfold fn
  simp [List.getD, List.getElem?_append_left h]
theorem fn_take {H : List DU} {n k : Nat} (h : k < n) : fn (H.take n) k = fn H k := by
  unfold fn
  simp [List.getD, h]
theorem heapU_push {H : List DU} {n : Nat} (hl : H.length = n) (h : Heap (fn H) n) (d : DU) : HeapU (fn (H ++ [d])) (n + 1) n := by
  constructor
  · intro k k0 kn hk
    rw [fn_append_l (by omega), fn_append_l (by omega)]
    exact h k k0 (by omega)
  · intro k k0 kn hk h0
    omega
set_option maxHeartbeats 3200000 in
theorem hpush_any (g : Nat) (now : Int) (M : Value) (A : Option Addr) (n c : Nat) (H : List DU) (d : DU) (base : Nat) (w : World) (hg : Blk w g 54 #[.int .i64 now, M, .slice A n c]) (hown : Own due w base 34 (.slice A n c) H) (hn : n < 1000000) (hb : base ≤ w.heap.size) (hh : Heap (fn H) n) :
    Calls Try.prog 25 #[.iface 58 (.pointer (some ⟨g, 2, none⟩)), .iface 34 (.agg #[.int .i64 d.at_, .string d.key, .int .i64 d.kind])] w fun e w' => e = .returned (.tuple #[]) ∧ ∃ b c' H', QQ w' g now M b (n + 1) c' base H' ∧ Heap (fn H') (n + 1) ∧ (∀ z, z ∈ H' ↔ z = d ∨ z ∈ H) ∧ ((Value.slice A n c).ownBlock = some b ∨ w.heap.size ≤ b) ∧ Keeps (fun q => q = g ∨ (Value.slice A n c).ownBlock = some q) w w' := by
  have mp := m_push w ⟨g, 2, none⟩
  have hl := hown.len_eq rfl
  have HU := Lib.hid (heapU_push hl hh d)
  have HG := Lib.hid hg
  have HO := Lib.hid hown
  have s1 : IntKind.i64.wrap ((n : Int) + 1 - 1) = (n : Int) := by rw [Int.add_sub_cancel]; exact IntWalk.i64_in _ (by omega)
  clear hg hown hl hh
  go_enter Try.func25, Try.ntmps25
  go_wp2_with (first
    | (go_at_call 32; refine (up_any g now M b (n + 1) c2 base (H ++ [d]) n w2 Q2.out (by omega) (by omega) HU.out).mono ?_
       rintro e w3 ⟨rfl, H3, q3, h3, m3, k3⟩
       have Q3 := Lib.hid q3
       have H3' := Lib.hid (And.intro h3 m3)
       have K3 := Lib.hid k3
       clear q3 h3 m3 k3)
    | (go_at_call 51; refine (qlen_any (some ⟨b, 0, none⟩) (n + 1) c2 w2).mono ?_
       rintro e w4 ⟨rfl, hw4⟩
       rw [hw4]
       clear hw4)
    | (go_at_call 61; refine (qpush_any g now M A n c H d base w HG.out HO.out (by omega) hb).mono ?_
       rintro e w2 ⟨rfl, A2, c2, b2, o2, r2, k2⟩
       obtain ⟨b, _, hv, _⟩ := o2.form (by simp)
       injection hv with hA hn2 hc2
       subst hA
       clear hn2 hc2
       have Q2 := Lib.hid (QQ.mk b2 o2)
       have cc := b2.cell 2
       simp at cc
       have ml := m_len w2 ⟨g, 2, none⟩ cc
       have R2 := Lib.hid (r2 b rfl)
       have K2 := Lib.hid k2
       clear b2 o2 r2 k2))
  go_end0
  refine ⟨rfl, b, c2, H3, Q3.out, H3'.out.1, fun z => (H3'.out.2 z).trans ?_, R2.out, K2.out.trans K3.out (fun q hq e => ?_)⟩
  · rw [List.mem_append, List.mem_singleton]
    exact or_comm
  · subst e
    rcases R2.out with h | h
    · exact .inr h
    · omega
theorem heapD_pop {H : List DU} {n : Nat} (hl : H.length = n + 1) (h : Heap (fn H) (n + 1)) : HeapD (fn (swapL H 0 n (fn H 0) (fn H n))) n 0 := by
  rw [fn_swap (by omega) (by omega)]
  constructor
  · intro k k0 kn hk
    rw [swapF_o _ (by omega) (by omega), swapF_o _ (by omega) (by omega)]
    exact h k k0 (by omega)
  · intro k _ _ _ h0
    omega
set_option maxHeartbeats 3200000 in
theorem hpop_any (g : Nat) (now : Int) (M : Value) (b n c : Nat) (H : List DU) (base : Nat) (w : World) (q : QQ w g now M b (n + 1) c base H) (hn : n < 1000000) (hh : Heap (fn H) (n + 1)) :
    Calls Try.prog 27 #[.iface 58 (.pointer (some ⟨g, 2, none⟩))] w fun e w' => (∃ v, e = .returned v) ∧ ∃ H', QQ w' g now M b n c base H' ∧ Heap (fn H') n ∧ (∀ z, z ∈ H' → z ∈ H) ∧ (∀ z, z ∈ H → z ≠ fn H 0 → z ∈ H') ∧ Keeps (fun q => q = g ∨ q = b) w w' := by
  have hl := q.row.len_eq rfl
  have c2 := q.box.cell 2
  simp at c2
  have ml := m_len w ⟨g, 2, none⟩ c2
  have ms := m_swap w ⟨g, 2, none⟩ c2
  have g0 : H[0]? = some (fn H 0) := get_fn (by omega)
  have gn : H[n]? = some (fn H n) := get_fn (by omega)
  have HD := Lib.hid (heapD_pop hl hh)
  have Q := Lib.hid q
  have HL := Lib.hid hl
  have s1 : IntKind.i64.wrap ((n : Int) + 1 - 1) = (n : Int) := by rw [Int.add_sub_cancel]; exact IntWalk.i64_in _ (by omega)
  clear q hl hh
  go_enter Try.func27, Try.ntmps27
  go_wp2_with (first
    | (go_at_call 60; refine (qpop_any g now M b n c (L3.take n) (fn L3 n) base w3 Q3.out.box (by rw [← E3.out]; exact Q3.out.row) (by omega)).mono ?_
       rintro e w4 ⟨rfl, b4, o4, k4⟩
       have Q4 := Lib.hid (QQ.mk b4 o4)
       have K4 := Lib.hid k4
       clear b4 o4 k4)
    | (go_at_call 33; refine (down_any g now M b n (n + 1) c base _ w2 Q2.out (by omega) (by omega) HD.out).mono ?_
       rintro e w3 ⟨⟨r, rfl⟩, L3, q3, h3, m3, t3, k3⟩
       have l3 := q3.row.len_eq rfl
       have e3 : L3 = L3.take n ++ [fn L3 n] := by
         have := List.take_append_drop n L3
         rw [List.drop_eq_getElem_cons (by omega), List.drop_of_length_le (by omega)] at this
         have e := get_fn (L := L3) (k := n) (by omega)
         rw [List.getElem?_eq_getElem (by omega)] at e
         injection e with e
         rw [e] at this
         exact this.symm
       have mp := m_pop w3 ⟨g, 2, none⟩
       have Q3 := Lib.hid q3
       have E3 := Lib.hid e3
       have L3' := Lib.hid l3
       have H3' := Lib.hid (And.intro h3 (And.intro m3 t3))
       have K3 := Lib.hid k3
       clear q3 h3 m3 t3 k3 e3 l3)
    | (go_at_call 53; refine (swap_any b (n + 1) c H base w Q.out.row 0 n _ _ g0 gn).mono ?_
       rintro e w2 ⟨rfl, o2, k2⟩
       have Q2 := Lib.hid (QQ.mk (Q.out.box.keeps k2 Q.out.ne) o2)
       have K2 := Lib.hid k2
       clear o2 k2)
    | (go_at_call 51; refine (qlen_any (some ⟨b, 0, none⟩) (n + 1) c w).mono ?_
       rintro e w4 ⟨rfl, hw4⟩
       rw [hw4]
       clear hw4))
  go_ret
  have hl := HL.out
  have hl3 := L3'.out
  have hf := fn_swap (L := H) (i := 0) (k := n) (by omega) (by omega)
  obtain ⟨h3, m3, t3⟩ := H3'.out
  rw [hf] at m3 t3
  have ht : (L3.take n).length = n := by rw [List.length_take]; omega
  have key : ∀ z, z ∈ L3.take n ↔ ∃ k, k < n ∧ fn L3 k = z := fun z => by
    rw [fn_mem, ht]
    constructor
    · rintro ⟨k, hk, e⟩
      exact ⟨k, hk, by rw [← fn_take hk]; exact e⟩
    · rintro ⟨k, hk, e⟩
      exact ⟨k, hk, by rw [fn_take hk]; exact e⟩
  refine ⟨⟨_, rfl⟩, L3.take n, Q4.out, ?_, fun z hz => ?_, fun z hz hne => ?_, ((K2.out.mono (fun _ _ h => .inr h)).trans (K3.out.mono (S' := fun q => q = g ∨ q = b) (fun _ _ h => .inr h)) (fun _ _ h => h)).trans K4.out (fun _ _ h => .inl h)⟩
  · intro k k0 hk
    rw [fn_take (by omega), fn_take hk]
    exact h3 k k0 hk
  · obtain ⟨k, hk, e⟩ := (m3 z).1 ((key z).1 hz)
    rw [fn_mem, hl]
    exact (swapF_mem (fn H) (i := 0) (j := n) (by omega) (by omega) z).1 ⟨k, by omega, e⟩
  · rw [fn_mem, hl] at hz
    obtain ⟨k, hk, e⟩ := (swapF_mem (fn H) (i := 0) (j := n) (by omega) (by omega) z).2 hz
    refine (key z).2 ((m3 z).2 ⟨k, ?_, e⟩)
    rcases Nat.lt_or_ge k n with h | h
    · exact h
    · exfalso
      have : k = n := by omega
      subst this
      rw [swapF_r] at e
      exact hne e.symm
end Go.Proofs.Yteeginfbonfhlaa
