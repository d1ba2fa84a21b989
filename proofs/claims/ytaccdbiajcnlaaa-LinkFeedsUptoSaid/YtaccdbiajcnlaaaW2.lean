/- Pack, New, Held, Reset of a link, walked; the document's Pack too. -/
import Derived.Test.YtaccdbiajcnlaaaFeed
namespace Go.Proofs.Ytaccdbiajcnlaaa
open Go.RowKit Mem
/-- May a frame be so long? -/
def mayF (l : List Nat) : Prop := 0 < l.length ∧ l.length ≤ 512
instance (l : List Nat) : Decidable (mayF l) := inferInstanceAs (Decidable (_ ∧ _))
/-- What Pack tells. -/
def packs (l : List Nat) : List Nat := if mayF l then packed l else []
def packE (l : List Nat) : Int := if mayF l then 0 else 60
set_option maxRecDepth 100000 in
set_option maxHeartbeats 800000 in
theorem pack_any (L : List Nat) (A : Option Addr) (n c : Nat) (w : World) (hr : Reads byte w A n L) :
    Calls Try.prog 10 #[.slice A n c] w fun e w' => ∃ v, e = .returned (.tuple #[v, .int .i64 (packE L)]) ∧ Own byte w' w.heap.size 5 v (packs L) ∧ Below w.heap.size w w' := by
  have hn := hr.1
  have HR := Lib.hid hr
  clear hr
  by_cases hm : 0 < n ∧ n ≤ 512
  · have hp : packs L = packed L ∧ packE L = 0 := by
      have : mayF L := by unfold mayF; omega
      exact ⟨if_pos this, if_pos this⟩
    have HP := Lib.hid hp
    clear hp
    go_enter Try.func10, Try.ntmps10
    go_wp2_with (first
      | (go_at_call 18; refine (may_yes _ (by omega) (by omega) _).mono ?_
         rintro e w2 ⟨rfl, rfl⟩)
      | (at_builtin; refine wp_append elem5 (by rfl) (.tmp 15) (.tmp 16) (by rfl) w2.heap.size (.slice (some ⟨w2.heap.size, 0, none⟩) 2 2) [n / 256, n % 256] L A n c rfl rfl (Own.new _ _ _ _ _ (by simp [byte_all]) _ rfl (Nat.le_refl _) 2 rfl (by decide)) (HR.out.alloc _) (by simp; omega) (by simp [maxLen]; omega) (by simp) ?_
         intro v3 w3 own3 gr3 at3
         have OWN3 := Lib.hid own3
         have GR3 := Lib.hid gr3
         clear own3 gr3 at3))
    go_ret2
    refine ⟨v3, by rw [HP.out.2]; rfl, ?_, ?_⟩
    · rw [HP.out.1]
      unfold packed
      rw [hn]
      exact OWN3.out
    · exact (Keeps.grown (S := fun k => k = w2.heap.size) ((Keeps.refl _ w2).alloc _) GR3.out (fun k hk _ => by simpa [Value.ownBlock] using hk.symm)).below (Nat.le_refl _) (fun b hb e => by omega)
  · have hp : packs L = [] ∧ packE L = 60 := by
      have : ¬ mayF L := by unfold mayF; omega
      exact ⟨if_neg this, if_neg this⟩
    have HP := Lib.hid hp
    clear hp
    go_enter Try.func10, Try.ntmps10
    go_wp2_with (first
      | (go_at_call 18; refine (may_no _ (by omega) _).mono ?_
         rintro e w2 ⟨rfl, rfl⟩))
    go_ret2
    refine ⟨.slice none 0 0, by rw [HP.out.2]; rfl, ?_, Below.refl _ _⟩
    rw [HP.out.1]
    exact Own.nil _ _ _ _
set_option maxRecDepth 100000 in
set_option maxHeartbeats 800000 in
theorem pack_ref (L : List Nat) (A : Option Addr) (n c : Nat) (w : World) (hr : Reads byte w A n L) :
    Calls Try.prog 11 #[.slice A n c] w fun e w' => ∃ v, e = .returned (.tuple #[v, .int .i64 (packE L)]) ∧ Own byte w' w.heap.size 5 v (packs L) ∧ Below w.heap.size w w' := by
  have hn := hr.1
  have HR := Lib.hid hr
  clear hr
  by_cases hm : 0 < n ∧ n ≤ 512
  · have hp : packs L = packed L ∧ packE L = 0 := by
      have : mayF L := by unfold mayF; omega
      exact ⟨if_pos this, if_pos this⟩
    have HP := Lib.hid hp
    clear hp
    go_enter Try.func11, Try.ntmps11
    go_wp2_with (first
      | (go_at_call 18; refine (may_yes _ (by omega) (by omega) _).mono ?_
         rintro e w2 ⟨rfl, rfl⟩)
      | (at_builtin; refine wp_append elem5 (by rfl) (.tmp 20) (.tmp 21) (by rfl) w.heap.size (.slice (some ⟨w.heap.size, 0, none⟩) 2 2) [n / 256, n % 256] L A n c rfl rfl (Own.new _ _ _ _ _ (by simp [byte_all]) _ rfl (Nat.le_refl _) 2 rfl (by decide)) (HR.out.alloc _) (by simp; omega) (by simp [maxLen]; omega) (by simp) ?_
         intro v3 w3 own3 gr3 at3
         have OWN3 := Lib.hid own3
         have GR3 := Lib.hid gr3
         clear own3 gr3 at3))
    go_ret2
    refine ⟨v3, by rw [HP.out.2]; rfl, ?_, ?_⟩
    · rw [HP.out.1]
      unfold packed
      rw [hn]
      exact OWN3.out
    · exact (Keeps.grown (S := fun k => k = w.heap.size) ((Keeps.refl _ w).alloc _) GR3.out (fun k hk _ => by simpa [Value.ownBlock] using hk.symm)).below (Nat.le_refl _) (fun b hb e => by omega)
  · have hp : packs L = [] ∧ packE L = 60 := by
      have : ¬ mayF L := by unfold mayF; omega
      exact ⟨if_neg this, if_neg this⟩
    have HP := Lib.hid hp
    clear hp
    rcases (show n < 1 ∨ (¬ n < 1 ∧ 512 < n) by omega) with h1 | ⟨h1, h2⟩
    all_goals
      go_enter Try.func11, Try.ntmps11
      go_wp2_with fail
      go_ret2
      refine ⟨.slice none 0 0, by rw [HP.out.2]; rfl, ?_, Below.refl _ _⟩
      rw [HP.out.1]
      exact Own.nil _ _ _ _
theorem new_any (w : World) : Calls Try.prog 12 #[] w fun e w' => e = .returned (.pointer (some ⟨w.heap.size, 0, none⟩)) ∧ w' = w.alloc (.cells #[.slice none 0 0] 47) := by
  go_enter Try.func12, Try.ntmps12
  go_wp2_with fail
  go_ret
  exact ⟨rfl, rfl⟩
theorem held_any (g n c : Nat) (A : Option Addr) (w : World) (hg : Blk w g 47 #[.slice A n c]) : Calls Try.prog 15 #[.pointer (some ⟨g, 0, none⟩)] w fun e w' => e = .returned (.int .i64 n) ∧ w' = w := by
  have hc := hg.cell 0
  simp at hc
  clear hg
  go_enter Try.func15, Try.ntmps15
  go_wp2_with fail
  go_ret
  exact ⟨rfl, rfl⟩
theorem reset_any (g : Nat) (v : Value) (w : World) (hg : Blk w g 47 #[v]) : Calls Try.prog 16 #[.pointer (some ⟨g, 0, none⟩)] w fun e w' => e = .returned (.tuple #[]) ∧ w' = w.setCell ⟨g, 0, none⟩ (.slice none 0 0) := by
  have hc := hg.cell 0
  have hf := hg.frozen 0
  simp at hc
  clear hg
  go_enter Try.func16, Try.ntmps16
  go_wp2_with fail
  go_end0
  exact ⟨rfl, rfl⟩
end Go.Proofs.Ytaccdbiajcnlaaa
