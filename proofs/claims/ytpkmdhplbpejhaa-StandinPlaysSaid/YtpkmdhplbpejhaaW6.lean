/- The document's new desk: walked. -/
import Derived.Test.YtpkmdhplbpejhaaW5
namespace Go.Proofs.Ytpkmdhplbpejhaa
open Go.RowKit Mem
def RefMade (w w' : World) (ls : List (Int × Int)) (v : Value) : Prop := (newE ls ≠ 0 ∧ v = .pointer none) ∨ (newE ls = 0 ∧ ∃ (g c : Nat) (A : Option Addr), v = .pointer (some ⟨g, 0, none⟩) ∧ RD w' g A ls.length c ls none 0 0 [] ∧ w.heap.size ≤ g ∧ (∀ b, (Value.slice A ls.length c).ownBlock = some b → w.heap.size ≤ b))
set_option maxHeartbeats 1600000 in
theorem refNew_any (ls : List (Int × Int)) (A : Option Addr) (n c : Nat) (w : World) (hr : Reads stand w A n ls) :
    Calls Try.prog 12 #[.slice A n c] w fun e w' => ∃ v, e = .returned (.tuple #[v, .int .i64 (newE ls)]) ∧ RefMade w w' ls v ∧ Keeps (fun _ => False) w w' := by
  have hl := hr.1
  have HL := Lib.hid hl
  have R := Lib.hid hr
  by_cases h0 : n = 0 ∨ 6 < n
  · have e : newE ls = 130 := if_pos (by rw [hl]; exact h0)
    have E := Lib.hid e
    rw [e]
    clear hr hl e
    rcases h0 with rfl | h
    all_goals
      go_enter Try.func12, Try.ntmps12
      go_wp2_with fail
      go_ret2
      exact ⟨_, rfl, .inl ⟨by rw [E.out]; decide, rfl⟩, Keeps.refl _ _⟩
  · obtain ⟨ad, hA, hc⟩ := hr.2 (by omega)
    subst hA
    clear hr hl hc
    have h1 : ¬ n = 0 := by omega
    have h2 : ¬ 6 < n := by omega
    have h3 : 0 < n := by omega
    clear h0
    have t1 : decide ((n : Int) < 1) = false := by simp; omega
    have t2 : decide ((6 : Int) < (n : Int)) = false := by simp; omega
    go_enter Try.func12, Try.ntmps12
    go_wp2_with fail
    go_loopw [4] (fun i wr => ∃ k : Nat, k ≤ n ∧ i = .int .i64 k ∧ (∀ p ∈ ls.take k, goodP p) ∧ wr = w) (fun i _ => n - (intOf i).toNat)
    case atStart => exact ⟨0, by omega, rfl, by simp, rfl⟩
    case round =>
      obtain ⟨k, hk, rfl, hg, rfl⟩ := hrel
      have HG := Lib.hid hg
      clear hg
      by_cases hkn : k < n
      · obtain ⟨p, hp⟩ : ∃ p, ls[k]? = some p := ⟨_, List.getElem?_eq_getElem (by rw [HL.out]; exact hkn)⟩
        obtain ⟨ad', e', hc⟩ := R.out.at_ hp
        injection e' with e'
        subst e'
        have p0 := hc 0 _ rfl
        have p1 := hc 1 _ rfl
        simp [stand] at p0 p1
        rw [← add_add, add_pos _ (by decide : 0 < 1)] at p1
        have HP := Lib.hid hp
        clear hc hp
        by_cases hgp : goodP p
        · have HGP := Lib.hid hgp
          unfold goodP at hgp
          obtain ⟨⟨g1, g2⟩, g3, g4⟩ := hgp
          go_wp2_with fail
          refine ⟨⟨k + 1, by omega, by go_num, fun x hx => ?_, by first | rfl | trivial⟩, by simp [intOf]; omega⟩
          rw [List.take_add_one, HP.out] at hx
          simp at hx
          rcases hx with hx | hx
          · exact HG.out x hx
          · rw [hx]; exact HGP.out
        · have e : newE ls = 150 := by
            unfold newE
            rw [if_neg (by rw [HL.out]; omega), if_neg (fun h => hgp (h p (List.mem_of_getElem? HP.out)))]
          have E := Lib.hid e
          have hcase : p.1 < 0 ∨ (¬ p.1 < 0 ∧ 999999999999 < p.1) ∨ (¬ p.1 < 0 ∧ ¬ 999999999999 < p.1 ∧ p.2 < 0) ∨ (¬ p.1 < 0 ∧ ¬ 999999999999 < p.1 ∧ ¬ p.2 < 0 ∧ 999999999999 < p.2) := by
            unfold goodP at hgp
            omega
          clear hgp e
          rcases hcase with g1 | ⟨g1, g2⟩ | ⟨g1, g2, g3⟩ | ⟨g1, g2, g3, g4⟩
          all_goals
            go_wp2_with fail
            go_ret2
            rw [E.out]
            exact ⟨_, rfl, .inl ⟨by rw [E.out]; decide, rfl⟩, Keeps.refl _ _⟩
      · have hg := HG.out
        rw [List.take_of_length_le (by rw [HL.out]; omega)] at hg
        have e : newE ls = 0 := by
          unfold newE
          rw [if_neg (by rw [HL.out]; omega), if_pos hg]
        have E := Lib.hid e
        have HG' := Lib.hid hg
        clear hg e
        go_wp2_with (at_builtin; refine wp_append elem35 (by rfl) (.tmp 49) (.tmp 50) (by rfl) wr.heap.size (.slice (some ⟨wr.heap.size, 0, none⟩) 0 0) [] ls (some ad) n c rfl rfl (own_empty _ _ _ _ _ rfl (Nat.le_refl _)) (R.out.alloc _) (by simp; omega) (by simp [maxLen]; omega) (by simp) ?_
                     intro v3 w3 own3 gr3 at3
                     rw [List.nil_append] at own3
                     obtain ⟨A3, c3, hv3, r3⟩ := Own.val own3 rfl
                     rw [hv3]
                     rw [hv3] at own3
                     have O := Lib.hid own3
                     have K := Lib.hid (app_empty wr wr.heap.size rfl gr3)
                     clear own3 gr3 at3 hv3 r3)
        go_ret2
        rw [E.out]
        have hz := K.out.size
        refine ⟨_, rfl, .inr ⟨E.out, w3.heap.size, c3, A3, rfl, ⟨Blk.new _ 56 _ _ rfl, (O.out.alloc _).rebase 0 (fun _ _ => Nat.zero_le _), Own.nil _ _ _ _, (fun _ _ => by simp [look]), fun p hp => ?_, by rw [HL.out]; omega⟩, hz, fun b hb => O.out.base_le hb⟩, K.out.alloc _⟩
        have := HG'.out p hp
        unfold goodP at this
        omega
end Go.Proofs.Ytpkmdhplbpejhaa
