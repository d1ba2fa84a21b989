/- The library's heap over a queue, downwards: walked. -/
import Derived.Test.YteeginfbonfhlaaW3
namespace Go.Proofs.Yteeginfbonfhlaa
open Go.RowKit Mem
/-- Some truth value was handed back. -/
def isBool (e : Ending) : Prop := ∃ r, e = .returned (.bool r)
set_option maxHeartbeats 6400000 in
theorem down_any (g : Nat) (now : Int) (M : Value) (b n N c : Nat) (base : Nat) (H : List DU) (w : World) (q : QQ w g now M b N c base H) (hnN : n ≤ N) (hn : N ≤ 1000000) (hu : HeapD (fn H) n 0) :
    Calls Try.prog 33 #[.iface 58 (.pointer (some ⟨g, 2, none⟩)), .int .i64 0, .int .i64 n] w fun e w' => isBool e ∧ ∃ (H' : List DU), QQ w' g now M b N c base H' ∧ Heap (fn H') n ∧ (∀ z, (∃ k, k < n ∧ fn H' k = z) ↔ ∃ k, k < n ∧ fn H k = z) ∧ (∀ k, n ≤ k → fn H' k = fn H k) ∧ Keeps (fun q => q = b) w w' := by
  have Q := Lib.hid q
  have HU := Lib.hid hu
  clear q hu
  go_enter Try.func33, Try.ntmps33
  go_wp2_with fail
  go_loopw [7] (fun v wr => ∃ (i : Nat) (L : List DU), v = .int .i64 i ∧ (i ≤ n) ∧ QQ wr g now M b N c base L ∧ HeapD (fn L) n i ∧ (∀ z, (∃ k, k < n ∧ fn L k = z) ↔ ∃ k, k < n ∧ fn H k = z) ∧ (∀ k, n ≤ k → fn L k = fn H k) ∧ Keeps (fun q => q = b) w wr) (fun v _ => n - (intOf v).toNat)
  case atStart => exact ⟨0, H, rfl, Nat.zero_le _, Q.out, HU.out, fun _ => Iff.rfl, fun _ _ => rfl, Keeps.refl _ _⟩
  case round =>
    obtain ⟨i, L, rfl, hi, q, hu, hm, ht, kk⟩ := hrel
    have hLl := q.row.len_eq rfl
    have c2 := q.box.cell 2
    simp at c2
    have ml := m_less wr ⟨g, 2, none⟩ c2
    have QL := Lib.hid q
    have HUL := Lib.hid hu
    have HM := Lib.hid (And.intro hm ht)
    have KK := Lib.hid kk
    have HLL := Lib.hid hLl
    clear q hu hm ht kk hLl
    obtain ⟨j1, hj1⟩ : ∃ j1 : Nat, j1 = 2 * i + 1 := ⟨_, rfl⟩
    have s1 : IntKind.i64.wrap (2 * (i : Int)) = 2 * (i : Int) := IntWalk.i64_in _ (by omega)
    have s2 : IntKind.i64.wrap (2 * (i : Int) + 1) = (j1 : Int) := by rw [IntWalk.i64_in _ (by omega)]; omega
    have s3 : ¬ (j1 : Int) < 0 := by omega
    have HJ1 := Lib.hid hj1
    by_cases hA : n ≤ j1
    · clear hj1
      go_wp2_with fail
      go_ret
      exact ⟨⟨_, rfl⟩, L, QL.out, HUL.out.none (by rw [← HJ1.out]; exact hA), HM.out.1, HM.out.2, KK.out⟩
    · have hA' : j1 < n := by omega
      obtain ⟨j2, hj2⟩ : ∃ j2 : Nat, j2 = j1 + 1 := ⟨_, rfl⟩
      have s4 : IntKind.i64.wrap ((j1 : Int) + 1) = (j2 : Int) := by rw [IntWalk.i64_in _ (by omega)]; omega
      have g1 : L[j1]? = some (fn L j1) := get_fn (by rw [HLL.out]; omega)
      have gi : L[i]? = some (fn L i) := get_fn (by rw [HLL.out]; omega)
      have HJ2 := Lib.hid hj2
      clear hj1 hj2
      -- which of the two below
      rcases (show (n ≤ j2) ∨ (j2 < n ∧ ltD (fn L j2) (fn L j1) = true) ∨ (j2 < n ∧ ltD (fn L j2) (fn L j1) = false) by
        rcases Nat.lt_or_ge j2 n with h | h
        · cases hh : ltD (fn L j2) (fn L j1)
          · exact .inr (.inr ⟨h, rfl⟩)
          · exact .inr (.inl ⟨h, rfl⟩)
        · exact .inl h) with hB | ⟨hB, hC⟩ | ⟨hB, hC⟩
      · have hmin : ∀ k, 0 < k → k < n → (k - 1) / 2 = i → leD (fn L j1) (fn L k) := fun k k0 kn hk => by
          have e1 := HJ1.out
          have e2 := HJ2.out
          have : k = j1 := by omega
          rw [this]; exact leD_refl _
        have HMIN := Lib.hid hmin
        clear hmin
        cases hlt : ltD (fn L j1) (fn L i) with
        | false =>
          have HLT := Lib.hid hlt
          clear hlt
          go_wp2_with (first
            | (go_at_call 52; refine (less_any b N c L base wr QL.out.row j1 i _ _ g1 gi).mono ?_
               rintro e w2 ⟨rfl, k2⟩
               rw [HLT.out]
               have K2 := Lib.hid k2
               clear k2))
          go_ret
          exact ⟨⟨_, rfl⟩, L, QL.out.keep K2.out, HUL.out.done HMIN.out HLT.out, HM.out.1, HM.out.2, KK.out.trans K2.out (fun _ _ h => h.elim)⟩
        | true =>
          have HLT := Lib.hid hlt
          clear hlt
          go_wp2_with (first
            | (go_at_call 53; refine (swap_any b N c L base w2 Q2.out.row i j1 _ _ gi g1).mono ?_
               rintro e w3 ⟨rfl, o3, k3⟩
               have O3 := Lib.hid o3
               have K3 := Lib.hid k3
               clear o3 k3)
            | (go_at_call 52; refine (less_any b N c L base wr QL.out.row j1 i _ _ g1 gi).mono ?_
               rintro e w2 ⟨rfl, k2⟩
               rw [HLT.out]
               have Q2 := Lib.hid (QL.out.keep k2)
               have c22 := Q2.out.box.cell 2
               simp at c22
               have ms := m_swap w2 ⟨g, 2, none⟩ c22
               have K2 := Lib.hid k2
               clear k2))
          have e1 := HJ1.out
          have e2 := HJ2.out
          have hst := HUL.out.step (j := j1) (by omega) (by omega) (by omega) HMIN.out HLT.out
          refine ⟨⟨j1, _, rfl, by omega, ⟨Q2.out.box.keeps K3.out Q2.out.ne, O3.out⟩, by rw [fn_swap (by rw [HLL.out]; omega) (by rw [HLL.out]; omega)]; exact hst, fun z => ?_, fun k hk => ?_, (KK.out.trans K2.out (fun _ _ h => h.elim)).trans K3.out (fun _ _ h => h)⟩, by simp [intOf]; omega⟩
          · rw [fn_swap (by rw [HLL.out]; omega) (by rw [HLL.out]; omega)]
            exact (swapF_mem (fn L) (by omega) (by omega) z).trans (HM.out.1 z)
          · rw [fn_swap (by rw [HLL.out]; omega) (by rw [HLL.out]; omega), swapF_o _ (by omega) (by omega)]
            exact HM.out.2 k hk
      · have hmin : ∀ k, 0 < k → k < n → (k - 1) / 2 = i → leD (fn L j2) (fn L k) := fun k k0 kn hk => by
          have e1 := HJ1.out
          have e2 := HJ2.out
          rcases (show k = j1 ∨ k = j2 by omega) with rfl | rfl
          · exact leD_of_lt hC
          · exact leD_refl _
        have HMIN := Lib.hid hmin
        have g2 : L[j2]? = some (fn L j2) := get_fn (by rw [HLL.out]; omega)
        have HC := Lib.hid hC
        clear hC
        clear hmin
        cases hlt : ltD (fn L j2) (fn L i) with
        | false =>
          have HLT := Lib.hid hlt
          clear hlt
          go_wp2_with (first
            | (go_at_call 52; have Q1a := Q1; refine (less_any b N c L base w1 Q1.out.row j2 i _ _ g2 gi).mono ?_
               rintro e w2 ⟨rfl, k2⟩
               rw [HLT.out]
               have K2 := Lib.hid k2
               clear k2)
            | (go_at_call 52; refine (less_any b N c L base wr QL.out.row j2 j1 _ _ g2 g1).mono ?_
               rintro e w1 ⟨rfl, k1⟩
               rw [HC.out]
               have Q1 := Lib.hid (QL.out.keep k1)
               have c21 := Q1.out.box.cell 2
               simp at c21
               have ml1 := m_less w1 ⟨g, 2, none⟩ c21
               have K1 := Lib.hid k1
               clear k1))
          go_ret
          exact ⟨⟨_, rfl⟩, L, Q1.out.keep K2.out, HUL.out.done HMIN.out HLT.out, HM.out.1, HM.out.2, (KK.out.trans K1.out (fun _ _ h => h.elim)).trans K2.out (fun _ _ h => h.elim)⟩
        | true =>
          have HLT := Lib.hid hlt
          clear hlt
          go_wp2_with (first
            | (go_at_call 53; refine (swap_any b N c L base w2 Q2.out.row i j2 _ _ gi g2).mono ?_
               rintro e w3 ⟨rfl, o3, k3⟩
               have O3 := Lib.hid o3
               have K3 := Lib.hid k3
               clear o3 k3)
            | (go_at_call 52; have Q1a := Q1; refine (less_any b N c L base w1 Q1.out.row j2 i _ _ g2 gi).mono ?_
               rintro e w2 ⟨rfl, k2⟩
               rw [HLT.out]
               have Q2 := Lib.hid (Q1.out.keep k2)
               have c22 := Q2.out.box.cell 2
               simp at c22
               have ms := m_swap w2 ⟨g, 2, none⟩ c22
               have K2 := Lib.hid k2
               clear k2)
            | (go_at_call 52; refine (less_any b N c L base wr QL.out.row j2 j1 _ _ g2 g1).mono ?_
               rintro e w1 ⟨rfl, k1⟩
               rw [HC.out]
               have Q1 := Lib.hid (QL.out.keep k1)
               have c21 := Q1.out.box.cell 2
               simp at c21
               have ml1 := m_less w1 ⟨g, 2, none⟩ c21
               have K1 := Lib.hid k1
               clear k1))
          have e1 := HJ1.out
          have e2 := HJ2.out
          have hst := HUL.out.step (j := j2) (by omega) (by omega) (by omega) HMIN.out HLT.out
          refine ⟨⟨j2, _, rfl, by omega, ⟨Q2.out.box.keeps K3.out Q2.out.ne, O3.out⟩, by rw [fn_swap (by rw [HLL.out]; omega) (by rw [HLL.out]; omega)]; exact hst, fun z => ?_, fun k hk => ?_, ((KK.out.trans K1.out (fun _ _ h => h.elim)).trans K2.out (fun _ _ h => h.elim)).trans K3.out (fun _ _ h => h)⟩, by simp [intOf]; omega⟩
          · rw [fn_swap (by rw [HLL.out]; omega) (by rw [HLL.out]; omega)]
            exact (swapF_mem (fn L) (by omega) (by omega) z).trans (HM.out.1 z)
          · rw [fn_swap (by rw [HLL.out]; omega) (by rw [HLL.out]; omega), swapF_o _ (by omega) (by omega)]
            exact HM.out.2 k hk
      · have hmin : ∀ k, 0 < k → k < n → (k - 1) / 2 = i → leD (fn L j1) (fn L k) := fun k k0 kn hk => by
          have e1 := HJ1.out
          have e2 := HJ2.out
          rcases (show k = j1 ∨ k = j2 by omega) with rfl | rfl
          · exact leD_refl _
          · exact hC
        have HMIN := Lib.hid hmin
        have g2 : L[j2]? = some (fn L j2) := get_fn (by rw [HLL.out]; omega)
        have HC := Lib.hid hC
        clear hC
        clear hmin
        cases hlt : ltD (fn L j1) (fn L i) with
        | false =>
          have HLT := Lib.hid hlt
          clear hlt
          go_wp2_with (first
            | (go_at_call 52; have Q1a := Q1; refine (less_any b N c L base w1 Q1.out.row j1 i _ _ g1 gi).mono ?_
               rintro e w2 ⟨rfl, k2⟩
               rw [HLT.out]
               have K2 := Lib.hid k2
               clear k2)
            | (go_at_call 52; refine (less_any b N c L base wr QL.out.row j2 j1 _ _ g2 g1).mono ?_
               rintro e w1 ⟨rfl, k1⟩
               rw [HC.out]
               have Q1 := Lib.hid (QL.out.keep k1)
               have c21 := Q1.out.box.cell 2
               simp at c21
               have ml1 := m_less w1 ⟨g, 2, none⟩ c21
               have K1 := Lib.hid k1
               clear k1))
          go_ret
          exact ⟨⟨_, rfl⟩, L, Q1.out.keep K2.out, HUL.out.done HMIN.out HLT.out, HM.out.1, HM.out.2, (KK.out.trans K1.out (fun _ _ h => h.elim)).trans K2.out (fun _ _ h => h.elim)⟩
        | true =>
          have HLT := Lib.hid hlt
          clear hlt
          go_wp2_with (first
            | (go_at_call 53; refine (swap_any b N c L base w2 Q2.out.row i j1 _ _ gi g1).mono ?_
               rintro e w3 ⟨rfl, o3, k3⟩
               have O3 := Lib.hid o3
               have K3 := Lib.hid k3
               clear o3 k3)
            | (go_at_call 52; have Q1a := Q1; refine (less_any b N c L base w1 Q1.out.row j1 i _ _ g1 gi).mono ?_
               rintro e w2 ⟨rfl, k2⟩
               rw [HLT.out]
               have Q2 := Lib.hid (Q1.out.keep k2)
               have c22 := Q2.out.box.cell 2
               simp at c22
               have ms := m_swap w2 ⟨g, 2, none⟩ c22
               have K2 := Lib.hid k2
               clear k2)
            | (go_at_call 52; refine (less_any b N c L base wr QL.out.row j2 j1 _ _ g2 g1).mono ?_
               rintro e w1 ⟨rfl, k1⟩
               rw [HC.out]
               have Q1 := Lib.hid (QL.out.keep k1)
               have c21 := Q1.out.box.cell 2
               simp at c21
               have ml1 := m_less w1 ⟨g, 2, none⟩ c21
               have K1 := Lib.hid k1
               clear k1))
          have e1 := HJ1.out
          have e2 := HJ2.out
          have hst := HUL.out.step (j := j1) (by omega) (by omega) (by omega) HMIN.out HLT.out
          refine ⟨⟨j1, _, rfl, by omega, ⟨Q2.out.box.keeps K3.out Q2.out.ne, O3.out⟩, by rw [fn_swap (by rw [HLL.out]; omega) (by rw [HLL.out]; omega)]; exact hst, fun z => ?_, fun k hk => ?_, ((KK.out.trans K1.out (fun _ _ h => h.elim)).trans K2.out (fun _ _ h => h.elim)).trans K3.out (fun _ _ h => h)⟩, by simp [intOf]; omega⟩
          · rw [fn_swap (by rw [HLL.out]; omega) (by rw [HLL.out]; omega)]
            exact (swapF_mem (fn L) (by omega) (by omega) z).trans (HM.out.1 z)
          · rw [fn_swap (by rw [HLL.out]; omega) (by rw [HLL.out]; omega), swapF_o _ (by omega) (by omega)]
            exact HM.out.2 k hk
end Go.Proofs.Yteeginfbonfhlaa
