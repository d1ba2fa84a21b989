/- A new desk, and the document's examples: walked. -/
import Derived.Test.YtpkmdhplbpejhaaW2
namespace Go.Proofs.Ytpkmdhplbpejhaa
open Go.RowKit Mem
theorem own_empty {α : Type} (E : Enc α) (w : World) (e : TypeId) (base H : Nat) (hH : w.heap.size = H) (hb : base ≤ H) : Own E (w.alloc (.cells #[] e)) base e (.slice (some ⟨H, 0, none⟩) 0 0) [] :=
  Own.new w base e #[] [] rfl H hH hb 0 rfl (Nat.zero_le _)
theorem app_empty {t : TypeId} (w : World) (H : Nat) (hH : w.heap.size = H) {w' : World} (gr : (w.alloc (.cells #[] t)).grownBy w' (Value.slice (some ⟨H, 0, none⟩) 0 0).ownBlock) : Keeps (fun _ => False) w w' :=
  (Keeps.grown (S := fun k => k = H) ((Keeps.refl _ w).alloc _) gr (fun k hk _ => by simpa [Value.ownBlock] using hk.symm)).mono (fun b hb e => by omega)
theorem clone_any (ls : List (Int × Int)) (ad : Addr) (n c : Nat) (w : World) (hr : Reads stand w (some ad) n ls) (hn : n ≤ 1000000) :
    Calls Try.prog 19 #[.slice (some ad) n c] w fun e w' => ∃ v, e = .returned v ∧ Own stand w' w.heap.size 35 v ls ∧ Keeps (fun _ => False) w w' := by
  have R := Lib.hid hr
  have he : ∀ W, (binOp BinOp.eql 22 (.slice (some ad) n c) (.slice none 0 0)).run Try.prog W = .ok (.bool false) W := fun W => by kernel_rfl
  clear hr
  go_enter Try.func19, Try.ntmps19
  go_wp2_with (at_builtin; refine wp_append elem35 (by rfl) (.tmp 5) (.tmp 6) (by rfl) w.heap.size (.slice (some ⟨w.heap.size, 0, none⟩) 0 0) [] ls (some ad) n c rfl rfl (own_empty _ _ _ _ _ rfl (Nat.le_refl _)) (R.out.alloc _) (by simp; omega) (by simp [maxLen]; omega) (by simp) ?_
               intro v3 w3 own3 gr3 at3
               rw [List.nil_append] at own3
               have O := Lib.hid own3
               have K := Lib.hid (app_empty w w.heap.size rfl gr3)
               clear own3 gr3 at3)
  go_ret
  exact ⟨v3, rfl, O.out, K.out⟩
def goodP (p : Int × Int) : Prop := (0 ≤ p.1 ∧ p.1 ≤ 999999999999) ∧ 0 ≤ p.2 ∧ p.2 ≤ 999999999999
instance (p : Int × Int) : Decidable (goodP p) := by unfold goodP; infer_instance
def newE (ls : List (Int × Int)) : Int := if ls.length = 0 ∨ 6 < ls.length then 130 else if ∀ p ∈ ls, goodP p then 0 else 150
/-- What New hands back. -/
def Made (w w' : World) (ls : List (Int × Int)) (v : Value) : Prop := (newE ls ≠ 0 ∧ v = .pointer none) ∨ (newE ls = 0 ∧ ∃ (g m c : Nat) (A : Option Addr), v = .pointer (some ⟨g, 0, none⟩) ∧ Desk w' g m 0 A ls.length c ls (fun _ _ => 0) ∧ w.heap.size ≤ g ∧ w.heap.size ≤ m ∧ (∀ ad, A = some ad → w.heap.size ≤ ad.block) ∧ Own stand w' 0 35 (.slice A ls.length c) ls)
set_option maxHeartbeats 1600000 in
theorem new_any (ls : List (Int × Int)) (A : Option Addr) (n c : Nat) (w : World) (hr : Reads stand w A n ls) :
    Calls Try.prog 7 #[.slice A n c] w fun e w' => ∃ v, e = .returned (.tuple #[v, .int .i64 (newE ls)]) ∧ Made w w' ls v ∧ Keeps (fun _ => False) w w' := by
  have hl := hr.1
  have HL := Lib.hid hl
  have R := Lib.hid hr
  by_cases h0 : n = 0 ∨ 6 < n
  · have e : newE ls = 130 := if_pos (by rw [hl]; exact h0)
    have E := Lib.hid e
    rw [e]
    clear hr hl e
    rcases h0 with rfl | h
    all_goals
      go_enter Try.func7, Try.ntmps7
      go_wp2_with fail
      go_ret2
      exact ⟨_, rfl, .inl ⟨by rw [E.out]; decide, rfl⟩, Keeps.refl _ _⟩
  · obtain ⟨ad, hA, hc⟩ := hr.2 (by omega)
    subst hA
    clear hr hl hc
    have h1 : ¬ n = 0 := by omega
    have h2 : ¬ 6 < n := by omega
    have h3 : 0 < n := by omega
    clear h0
    have t1 : ((n : Int) == 0) = false := by simp; omega
    have t2 : decide ((6 : Int) < (n : Int)) = false := by simp; omega
    go_enter Try.func7, Try.ntmps7
    go_wp2_with fail
    go_loopw [16] (fun i wr => ∃ k : Nat, k ≤ n ∧ i = .int .i64 k ∧ (∀ p ∈ ls.take k, goodP p) ∧ Keeps (fun _ => False) w wr) (fun i _ => n - (intOf i).toNat)
    case atStart => exact ⟨0, by omega, rfl, by simp, Keeps.refl _ _⟩
    case round =>
      obtain ⟨k, hk, rfl, hg, kk⟩ := hrel
      have HG := Lib.hid hg
      have KK := Lib.hid kk
      clear hg kk
      by_cases hkn : k < n
      · obtain ⟨p, hp⟩ : ∃ p, ls[k]? = some p := ⟨_, List.getElem?_eq_getElem (by rw [HL.out]; exact hkn)⟩
        obtain ⟨ad', e', hc⟩ := (R.out.keeps KK.out (fun _ _ _ h => h)).at_ hp
        injection e' with e'
        subst e'
        have p0 := hc 0 _ rfl
        have p1 := hc 1 _ rfl
        simp [stand] at p0 p1
        rw [← add_add, add_pos _ (by decide : 0 < 1)] at p1
        have HP := Lib.hid hp
        clear hc hp
        by_cases hgp : goodP p
        · have d1 : decide (0 ≤ p.1 ∧ p.1 ≤ 999999999999) = true := by simpa using hgp.1
          have d2 : decide (0 ≤ p.2 ∧ p.2 ≤ 999999999999) = true := by simpa using hgp.2
          have HGP := Lib.hid hgp
          clear hgp
          have mark : True := trivial
          go_wp2_with (first
            | (go_at_call 18; clear mark; refine (may_any p.1 _).mono ?_
               rw [d1]
               rintro e w1 ⟨rfl, hw1⟩
               subst hw1)
            | (go_at_call 18; refine (may_any p.2 _).mono ?_
               rw [d2]
               rintro e w1 ⟨rfl, hw1⟩
               subst hw1))
          refine ⟨⟨k + 1, by omega, by go_num, fun x hx => ?_, KK.out.alloc _⟩, by simp [intOf]; omega⟩
          rw [List.take_add_one, HP.out] at hx
          simp at hx
          rcases hx with hx | hx
          · exact HG.out x hx
          · rw [hx]; exact HGP.out
        · have e : newE ls = 150 := by
            unfold newE
            rw [if_neg (by rw [HL.out]; omega), if_neg (fun h => hgp (h p (List.mem_of_getElem? HP.out)))]
          have E := Lib.hid e
          have hcase : decide (0 ≤ p.1 ∧ p.1 ≤ 999999999999) = false ∨ (decide (0 ≤ p.1 ∧ p.1 ≤ 999999999999) = true ∧ decide (0 ≤ p.2 ∧ p.2 ≤ 999999999999) = false) := by
            by_cases h : 0 ≤ p.1 ∧ p.1 ≤ 999999999999
            · right
              refine ⟨by simpa using h, ?_⟩
              have : ¬ (0 ≤ p.2 ∧ p.2 ≤ 999999999999) := fun h' => hgp ⟨h, h'⟩
              simpa using this
            · left; simpa using h
          clear hgp e
          rcases hcase with d1 | ⟨d1, d2⟩
          · go_wp2_with (go_at_call 18; refine (may_any p.1 _).mono ?_
                         rw [d1]
                         rintro e w1 ⟨rfl, hw1⟩
                         subst hw1)
            go_ret2
            rw [E.out]
            exact ⟨_, rfl, .inl ⟨by rw [E.out]; decide, rfl⟩, KK.out.alloc _⟩
          · have mark : True := trivial
            go_wp2_with (first
              | (go_at_call 18; clear mark; refine (may_any p.1 _).mono ?_
                 rw [d1]
                 rintro e w1 ⟨rfl, hw1⟩
                 subst hw1)
              | (go_at_call 18; refine (may_any p.2 _).mono ?_
                 rw [d2]
                 rintro e w1 ⟨rfl, hw1⟩
                 subst hw1))
            go_ret2
            rw [E.out]
            exact ⟨_, rfl, .inl ⟨by rw [E.out]; decide, rfl⟩, KK.out.alloc _⟩
      · have hg := HG.out
        rw [List.take_of_length_le (by rw [HL.out]; omega)] at hg
        have e : newE ls = 0 := by
          unfold newE
          rw [if_neg (by rw [HL.out]; omega), if_pos hg]
        have E := Lib.hid e
        have HG' := Lib.hid hg
        clear hg e
        have hmm := @run_makeMap Try.prog
        go_wp2_with (go_at_call 19; refine (clone_any ls ad n c wr (R.out.keeps KK.out (fun _ _ _ h => h)) (by omega)).mono ?_
                     rintro e w3 ⟨v, rfl, o3, k3⟩
                     obtain ⟨A3, c3, hv3, r3⟩ := Own.val o3 rfl
                     subst hv3
                     have O3 := Lib.hid o3
                     have K3 := Lib.hid k3
                     have R3 := Lib.hid r3
                     clear o3 k3 r3)
        go_ret2
        rw [E.out]
        have hz := KK.out.size
        have hz3 := K3.out.size
        have kf : Keeps (fun _ => False) w ((w3.alloc (.map #[] 0)).alloc (.cells #[.slice A3 ls.length c3, .map (some w3.heap.size)] 49)) := ((KK.out.trans K3.out (fun _ _ h => h)).alloc _).alloc _
        have hfar : ∀ a, A3 = some a → wr.heap.size ≤ a.block ∧ a.block < w3.heap.size := fun a ha => by
          subst ha
          rcases O3.out.2 with ⟨h', _⟩ | ⟨g', cap, cur, h', hb, hh, _⟩
          · cases h'
          · injection h' with h1 _ _
            injection h1 with h1
            subst h1
            exact ⟨hb, (Array.getElem?_eq_some_iff.1 hh).1⟩
        refine ⟨_, rfl, .inr ⟨E.out, w3.heap.size + 1, w3.heap.size, c3, A3, by simp, ⟨Blk.new _ 49 _ _ (by simp), (R3.out.alloc _).alloc _, fun a ha _ => by have := (hfar a ha).2; omega, ?_, fun p hp => ?_, by rw [HL.out]; omega, fun _ _ => by decide⟩, by omega, by omega, (fun a ha => by have := (hfar a ha).1; omega), ((O3.out.alloc _).alloc _).rebase 0 (fun _ _ => Nat.zero_le _)⟩, kf⟩
        · exact (MapIs.made w3 _ rfl).keeps ((Keeps.refl (fun _ => False) _).alloc _) (fun h => h)
        · have := HG'.out p hp
          unfold goodP at this
          omega
end Go.Proofs.Ytpkmdhplbpejhaa
