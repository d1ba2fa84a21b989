/- The library's heap over a queue: walked. -/
import Derived.Test.YteeginfbonfhlaaW2
import Derived.Test.YteeginfbonfhlaaP1
namespace Go.Proofs.Yteeginfbonfhlaa
open Go.RowKit Mem
/-! ### The queue's methods, through the interface -/
theorem m_val (name : String) (f : Nat) (hf : (Try.prog.info? 58).map (fun i => (i.methods.find? (·.name == name)).map (fun m => (m.path.toList.length, m.func))) = some (some (0, some (f, false)))) (w : World) (a : Addr) (A : Option Addr) (n c : Nat) (h : w.cell? a = some (.slice A n c)) : (method 193 58 (.pointer (some a)) name).run Try.prog w = .ok (f, .slice A n c) w := by
  unfold method
  obtain ⟨i, hi, hz⟩ := Option.map_eq_some_iff.1 hf
  obtain ⟨m, hm, hz2⟩ := Option.map_eq_some_iff.1 hz
  simp only [Prod.mk.injEq] at hz2
  have hp : m.path = #[] := by
    have := hz2.1
    cases hq : m.path with | mk l => rw [hq] at this; simp at this; rw [this]
  have hl : (loadVar 52 a).run Try.prog w = .ok (.slice A n c) w := by
    simp [loadVar, isAgg, run_underlying Try.underlying52, h]
  have hw : ∀ s s', (Builtin.ssaWrapNilChk_ #[58] 58 #[.pointer (some a), strVal s, strVal s']).run Try.prog w = .ok (.pointer (some a)) w := fun _ _ => rfl
  have hr : ∀ s, (receiverAt 58 (.val (.pointer (some a))) false (some s)).run Try.prog w = .ok (.slice A n c) w := fun s => by
    unfold receiverAt
    simp only [Sem.run_bind, run_underlying Try.underlying58, Result.andThen_ok, Place.get, Sem.run_pure, hw]
    simp [asAddr, hl]
  simp [typeInfo, hi, hm, hz2, hp, follow, hr]
theorem m_ptr (name : String) (f : Nat) (hf : (Try.prog.info? 58).map (fun i => (i.methods.find? (·.name == name)).map (fun m => (m.path.toList.length, m.func))) = some (some (0, some (f, true)))) (w : World) (a : Addr) : (method 193 58 (.pointer (some a)) name).run Try.prog w = .ok (f, .pointer (some a)) w := by
  unfold method
  obtain ⟨i, hi, hz⟩ := Option.map_eq_some_iff.1 hf
  obtain ⟨m, hm, hz2⟩ := Option.map_eq_some_iff.1 hz
  simp only [Prod.mk.injEq] at hz2
  have hp : m.path = #[] := by
    have := hz2.1
    cases hq : m.path with | mk l => rw [hq] at this; simp at this; rw [this]
  have hr : ∀ s, (receiverAt 58 (.val (.pointer (some a))) true s).run Try.prog w = .ok (.pointer (some a)) w := fun s => by
    unfold receiverAt
    simp only [Sem.run_bind, run_underlying Try.underlying58, Result.andThen_ok, Place.get, Sem.run_pure]
  simp [typeInfo, hi, hm, hz2, hp, follow, hr]
section
variable (w : World) (a : Addr) {A : Option Addr} {n c : Nat}
theorem m_len (h : w.cell? a = some (.slice A n c)) : (method 193 58 (.pointer (some a)) "Len").run Try.prog w = .ok (51, .slice A n c) w := m_val "Len" 51 (by kernel_rfl) w a A n c h
theorem m_less (h : w.cell? a = some (.slice A n c)) : (method 193 58 (.pointer (some a)) "Less").run Try.prog w = .ok (52, .slice A n c) w := m_val "Less" 52 (by kernel_rfl) w a A n c h
theorem m_swap (h : w.cell? a = some (.slice A n c)) : (method 193 58 (.pointer (some a)) "Swap").run Try.prog w = .ok (53, .slice A n c) w := m_val "Swap" 53 (by kernel_rfl) w a A n c h
theorem m_pop : (method 193 58 (.pointer (some a)) "Pop").run Try.prog w = .ok (60, .pointer (some a)) w := m_ptr "Pop" 60 (by kernel_rfl) w a
theorem m_push : (method 193 58 (.pointer (some a)) "Push").run Try.prog w = .ok (61, .pointer (some a)) w := m_ptr "Push" 61 (by kernel_rfl) w a
end
/-- The timers' own block, and the queue's row. -/
structure QQ (w : World) (g : Nat) (now : Int) (M : Value) (b n c : Nat) (base : Nat) (H : List DU) : Prop where
  box : Blk w g 54 #[.int .i64 now, M, .slice (some ⟨b, 0, none⟩) n c]
  row : Own due w base 34 (.slice (some ⟨b, 0, none⟩) n c) H
theorem QQ.ne {w : World} {g : Nat} {now : Int} {M : Value} {b n c base : Nat} {H : List DU} (h : QQ w g now M b n c base H) : g ≠ b := fun e => by subst e; exact h.row.blk_ne h.box (by decide) rfl
theorem QQ.keep {w w' : World} {g : Nat} {now : Int} {M : Value} {b n c base : Nat} {H : List DU} (h : QQ w g now M b n c base H) (K : Keeps (fun _ => False) w w') : QQ w' g now M b n c base H := ⟨h.box.keeps K (fun h => h), h.row.keeps K (fun _ _ h => h)⟩
theorem fn_swap {L : List DU} {i k : Nat} (hi : i < L.length) (hk : k < L.length) : fn (swapL L i k (fn L i) (fn L k)) = swapF (fn L) i k := by
  funext q
  unfold swapL
  rw [fn_set (by simpa using hk), fn_set hi]
  unfold swapF
  by_cases h1 : q = k
  · by_cases h2 : q = i
    · subst h1 h2; simp
    · rw [if_pos h1, if_neg h2, if_pos h1]
  · rw [if_neg h1, if_neg h1]
theorem swapL_len (L : List DU) (i k : Nat) (x y : DU) : (swapL L i k x y).length = L.length := by simp [swapL]
theorem swap_mem {L : List DU} {i k : Nat} (hi : i < L.length) (hk : k < L.length) (z : DU) : z ∈ swapL L i k (fn L i) (fn L k) ↔ z ∈ L := by
  rw [fn_mem, fn_mem, fn_swap hi hk, swapL_len]
  exact swapF_mem (fn L) hi hk z
set_option maxHeartbeats 3200000 in
theorem up_any (g : Nat) (now : Int) (M : Value) (b n c : Nat) (base : Nat) (H : List DU) (j : Nat) (w : World) (q : QQ w g now M b n c base H) (hj : j < n) (hn : n ≤ 1000000) (hu : HeapU (fn H) n j) :
    Calls Try.prog 32 #[.iface 58 (.pointer (some ⟨g, 2, none⟩)), .int .i64 j] w fun e w' => e = .returned (.tuple #[]) ∧ ∃ H', QQ w' g now M b n c base H' ∧ Heap (fn H') n ∧ (∀ z, z ∈ H' ↔ z ∈ H) ∧ Keeps (fun q => q = b) w w' := by
  have Q := Lib.hid q
  have HU := Lib.hid hu
  have hHl := q.row.len_eq rfl
  have HL := Lib.hid hHl
  clear q hu hHl
  go_enter Try.func32, Try.ntmps32
  go_wp2_with fail
  go_loopw [1] (fun v wr => ∃ (j : Nat) (L : List DU), v = .int .i64 j ∧ j < n ∧ QQ wr g now M b n c base L ∧ HeapU (fn L) n j ∧ (∀ z, z ∈ L ↔ z ∈ H) ∧ Keeps (fun q => q = b) w wr) (fun v _ => (intOf v).toNat)
  case atStart => exact ⟨j, H, rfl, hj, Q.out, HU.out, fun _ => Iff.rfl, Keeps.refl _ _⟩
  case round =>
    obtain ⟨j, L, rfl, hj, q, hu, hm, kk⟩ := hrel
    have QL := Lib.hid q
    have HUL := Lib.hid hu
    have HM := Lib.hid hm
    have KK := Lib.hid kk
    have c2 := q.box.cell 2
    simp at c2
    clear q hu hm kk
    rcases Nat.eq_zero_or_pos j with h0 | h0
    · subst h0
      go_wp2_with fail
      go_end0
      exact ⟨rfl, L, QL.out, HUL.out.done0, HM.out, KK.out⟩
    · have s1 : IntKind.i64.wrap ((j : Int) - 1) = ((j - 1 : Nat) : Int) := by rw [IntWalk.i64_in _ (by omega)]; omega
      obtain ⟨p, hp⟩ : ∃ p : Nat, p = (j - 1) / 2 := ⟨_, rfl⟩
      have s2 : (((j - 1 : Nat) : Int) / 2) = (p : Int) := by omega
      have s3 : ((p : Int) == (j : Int)) = false := by simp; omega
      have hpj : p < j := by omega
      have hLl := QL.out.row.len_eq rfl
      have hgj : L[j]? = some (fn L j) := get_fn (by omega)
      have hgp : L[p]? = some (fn L p) := get_fn (by omega)
      have ml := m_less wr ⟨g, 2, none⟩ c2
      have HP := Lib.hid hp
      clear hLl hp
      cases hlt : ltD (fn L j) (fn L p) with
      | false =>
        have HLT := Lib.hid hlt
        clear hlt
        go_wp2_with (first
          | (go_at_call 52; refine (less_any b n c L base wr QL.out.row j p _ _ hgj hgp).mono ?_
             rintro e w2 ⟨rfl, k2⟩
             rw [HLT.out]
             have K2 := Lib.hid k2
             clear k2))
        go_end0
        exact ⟨rfl, L, QL.out.keep K2.out, HUL.out.done (by rw [← HP.out]; exact HLT.out), HM.out, KK.out.trans K2.out (fun _ _ h => h.elim)⟩
      | true =>
        have HLT := Lib.hid hlt
        clear hlt
        go_wp2_with (first
          | (go_at_call 52; refine (less_any b n c L base wr QL.out.row j p _ _ hgj hgp).mono ?_
             rintro e w2 ⟨rfl, k2⟩
             rw [HLT.out]
             have Q2 := Lib.hid (QL.out.keep k2)
             have c22 := Q2.out.box.cell 2
             simp at c22
             have ms := m_swap w2 ⟨g, 2, none⟩ c22
             have K2 := Lib.hid k2
             clear k2)
          | (go_at_call 53; refine (swap_any b n c L base w2 Q2.out.row p j _ _ hgp hgj).mono ?_
             rintro e w3 ⟨rfl, o3, k3⟩
             have O3 := Lib.hid o3
             have K3 := Lib.hid k3
             clear o3 k3))
        have hLl := QL.out.row.len_eq rfl
        have hst := HUL.out.step h0 (by rw [← HP.out]; exact HLT.out)
        rw [← HP.out] at hst
        refine ⟨⟨p, _, rfl, by omega, ⟨Q2.out.box.keeps K3.out Q2.out.ne, O3.out⟩, by rw [fn_swap (by omega) (by omega)]; exact hst, fun z => (swap_mem (by omega) (by omega) z).trans (HM.out z), (KK.out.trans K2.out (fun _ _ h => h.elim)).trans K3.out (fun _ _ h => h)⟩, by simp [intOf]; omega⟩
end Go.Proofs.Yteeginfbonfhlaa
