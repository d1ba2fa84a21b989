/- LinkPacks, walked. -/
import Derived.Test.YtaccdbiajcnlaaaShown
namespace Go.Proofs.Ytaccdbiajcnlaaa
open Go.RowKit Mem
theorem packs_small {L : List Nat} (hL : ∀ x ∈ L, x < 256) : ∀ x ∈ packs L, x < 256 := by
  intro x hx
  unfold packs at hx
  split at hx
  next h =>
    unfold mayF at h
    unfold packed at hx
    rcases List.mem_append.1 hx with h' | h'
    · simp at h'
      rcases h' with rfl | rfl <;> omega
    · exact hL x h'
  next => cases hx
theorem packs_len (L : List Nat) : (packs L).length ≤ 514 := by
  unfold packs
  split
  next h => unfold mayF at h; unfold packed; simp; omega
  next => simp
theorem packE_in (L : List Nat) : packE L = 0 ∨ packE L = 60 := by
  unfold packE
  split <;> simp
set_option maxRecDepth 100000 in
set_option maxHeartbeats 1600000 in
theorem packs_any (L : List Nat) (A : Option Addr) (n c : Nat) (w : World) (hr : Reads byte w A n L) (hL : ∀ x ∈ L, x < 256) (hn : n ≤ 140737488351232) :
    Calls Try.prog 3 #[.slice A n c] w fun e w' => e = .returned (.bool true) ∧ Below w.heap.size w w' := by
  have hln := hr.1
  have HR := Lib.hid hr
  have HL := Lib.hid hL
  have HLN := Lib.hid hln
  obtain ⟨pe, hpe⟩ : ∃ pe, pe = packE L := ⟨_, rfl⟩
  have HPE := Lib.hid hpe
  clear hr hL hpe hln
  go_enter Try.func3, Try.ntmps3
  go_wp2_with (first
    | (go_at_call 9; refine (shown_any w).mono ?_
       rintro e w1 ⟨rfl, hb1⟩
       have B1 := Lib.hid hb1
       clear hb1)
    | (at_builtin; refine wp_append elem5 (by rfl) (.tmp 11) (.tmp 12) (by rfl) w1.heap.size (.slice (some ⟨w1.heap.size, 0, none⟩) 0 0) [] L A n c rfl rfl (own_empty _ _ _ _ _ rfl (Nat.le_refl _)) ((HR.out.below B1.out).alloc _) (by simp; omega) (by simp [maxLen]; omega) (by simp) ?_
       intro v2 w2 own2 gr2 at2
       rw [List.nil_append] at own2
       obtain ⟨A2, c2, hv2, hr2⟩ := Own.val own2 HLN.out
       rw [hv2]
       rw [hv2] at own2
       have k2 : Below w1.heap.size w1 w2 := (Keeps.grown (S := fun k => k = w1.heap.size) ((Keeps.refl _ w1).alloc _) gr2 (fun k hk _ => by simpa [Value.ownBlock] using hk.symm)).below (Nat.le_refl _) (fun b hb e => by omega)
       have O2 := Lib.hid own2
       have R2 := Lib.hid hr2
       have B2 := Lib.hid k2
       clear own2 hr2 k2 gr2 at2 hv2)
    | (go_at_call 10; refine (pack_any L A2 n c2 w2 R2.out).mono ?_
       rintro e w3 ⟨v3, rfl, ho3, hb3⟩
       obtain ⟨A3, c3, hv3, hr3⟩ := Own.val ho3 rfl
       subst hv3
       have O3 := Lib.hid ho3
       have R3 := Lib.hid hr3
       have B3 := Lib.hid hb3
       clear ho3 hr3 hb3
       rw [← HPE.out])
    | (go_at_call 11; refine (pack_ref L A n c w3 (((HR.out.below B1.out).below B2.out).below B3.out)).mono ?_
       rintro e w4 ⟨v4, rfl, ho4, hb4⟩
       obtain ⟨A4, c4, hv4, hr4⟩ := Own.val ho4 rfl
       subst hv4
       have cv3 : (convert 22 9 (.slice A3 (packs L).length c3)).run Try.prog w4 = .ok (.string (strB (packs L))) w4 := (R3.out.below hb4).str c3 22 5 9 Try.underlying22 Try.underlying5 Try.underlying9
       have cv4 : (convert 22 9 (.slice A4 (packs L).length c4)).run Try.prog w4 = .ok (.string (strB (packs L))) w4 := hr4.str c4 22 5 9 Try.underlying22 Try.underlying5 Try.underlying9
       have B4 := Lib.hid hb4
       clear ho4 hr4 hb4
       rw [← HPE.out]))
  have hm514 := packs_len L
  have ho4 := (O3.out.below B4.out)
  obtain ⟨X, hX⟩ : ∃ X, X = packs L := ⟨_, rfl⟩
  rw [← hX] at hm514 ho4 ⊢
  clear hX cv3 cv4
  obtain ⟨m, hmm⟩ : ∃ m, m = X.length := ⟨_, rfl⟩
  rw [← hmm] at hm514 ho4 ⊢
  have O4 := Lib.hid ho4
  have HM := Lib.hid hmm
  clear ho4 hmm
  have hA3 : 0 < m → ∃ g, A3 = some ⟨g, 0, none⟩ ∧ w2.heap.size ≤ g := by
    intro h
    obtain ⟨g, c', e, hg, _⟩ := O4.out.form (by rw [← HM.out]; exact h)
    injection e with e
    exact ⟨g, e, hg⟩
  go_loopw [9] (fun i wr => ∃ (k : Nat) (l : List Nat), k ≤ m ∧ i = .int .i64 k ∧ l.length = m ∧ Own byte wr w2.heap.size 5 (.slice A3 m c3) l ∧ Keeps (fun b => w2.heap.size ≤ b) w4 wr) (fun i _ => m - (intOf i).toNat)
  case atStart => exact ⟨0, X, by omega, rfl, HM.out.symm, O4.out, Keeps.refl _ _⟩
  case round =>
    obtain ⟨k, l, hk, rfl, hl, ho, hkp⟩ := hrel
    have O := Lib.hid ho
    have K := Lib.hid hkp
    have HLL := Lib.hid hl
    clear ho hkp hl
    by_cases hlt : k < m
    · obtain ⟨g, rfl, hg⟩ := hA3 (by omega)
      obtain ⟨x, hx, hc⟩ := O.out.byte_at hlt
      have hf := O.out.frozen k
      have O' := Lib.hid (O.out.byte_set hlt 99)
      clear hx
      go_wp2_with fail
      go_roundw
      case rel => exact ⟨k + 1, l.set k 99, by omega, by go_num, by rw [List.length_set]; exact HLL.out, O'.out, K.out.setCell _ _ (fun _ => hg)⟩
      case measure => simp [intOf]; omega
    · have hb2 : (Keeps (fun _ => False) w2 wr) := (((Keeps.of_below B3.out).trans (Keeps.of_below B4.out) (fun _ _ h => h)).trans K.out (fun b hb h => by omega))
      have cvA : (convert 22 9 (.slice A2 n c2)).run Try.prog wr = .ok (.string (strB L)) wr := (R2.out.keeps hb2 (fun _ _ _ h => h)).str c2 22 5 9 Try.underlying22 Try.underlying5 Try.underlying9
      have cvB : (convert 22 9 (.slice A n c)).run Try.prog wr = .ok (.string (strB L)) wr := (((HR.out.below B1.out).below B2.out).keeps hb2 (fun _ _ _ h => h)).str c 22 5 9 Try.underlying22 Try.underlying5 Try.underlying9
      go_wp2_with fail
      go_ret
      refine ⟨rfl, ?_⟩
      exact (((Keeps.of_below B1.out).trans (Keeps.of_below B2.out) (fun _ _ h => h)).trans hb2 (fun _ _ h => h)).below (Nat.le_refl _) (fun _ _ h => h)
end Go.Proofs.Ytaccdbiajcnlaaa
