/- The queue's own calls: walked. -/
import Derived.Test.YteeginfbonfhlaaW1
namespace Go.Proofs.Yteeginfbonfhlaa
open Go.RowKit Mem
theorem elem34 : Elem Try.prog 52 34 due 32 := Elem.of Try.underlying52 (z := .agg #[.int .i64 0, .string ⟨#[]⟩, .int .i64 0]) (by kernel_rfl) rfl
theorem own_reads {α : Type} {E : Enc α} {w : World} {base : Nat} {e : TypeId} {A : Option Addr} {n c : Nat} {l : List α} (h : Own E w base e (.slice A n c) l) : Reads E w A n l := by
  obtain ⟨_, _, er, hr, _⟩ := h.slice
  injection er with e1 e2 e3
  rw [← e1, ← e2] at hr
  exact hr
theorem own_none {α : Type} {E : Enc α} {w : World} {base : Nat} {e : TypeId} {A : Option Addr} {n c : Nat} {l : List α} (h : Own E w base e (.slice A n c) l) : A = none → n = 0 ∧ c = 0 := by
  rintro rfl
  rcases h.2 with ⟨h', _⟩ | ⟨_, _, _, h', _⟩
  · injection h' with _ h1 h2; exact ⟨h1, h2⟩
  · cases h'
theorem qlen_any (A : Option Addr) (n c : Nat) (w : World) : Calls Try.prog 51 #[.slice A n c] w fun e w' => e = .returned (.int .i64 n) ∧ w' = w := by
  go_enter Try.func51, Try.ntmps51
  go_wp2_with fail
  go_ret
  exact ⟨rfl, rfl⟩
set_option maxHeartbeats 1600000 in
theorem less_any (b n c : Nat) (H : List DU) (base : Nat) (w : World) (hown : Own due w base 34 (.slice (some ⟨b, 0, none⟩) n c) H) (i k : Nat) (x y : DU) (hi : H[i]? = some x) (hk : H[k]? = some y) :
    Calls Try.prog 52 #[.slice (some ⟨b, 0, none⟩) n c, .int .i64 i, .int .i64 k] w fun e w' => e = .returned (.bool (ltD x y)) ∧ Keeps (fun _ => False) w w' := by
  have hl := hown.len_eq rfl
  have hin : i < n := by rw [← hl]; exact (List.getElem?_eq_some_iff.1 hi).1
  have hkn : k < n := by rw [← hl]; exact (List.getElem?_eq_some_iff.1 hk).1
  have p0 := hown.at_ hi (j := 0) rfl
  have p1 := hown.at_ hi (j := 1) rfl
  have p2 := hown.at_ hi (j := 2) rfl
  have q0 := hown.at_ hk (j := 0) rfl
  have q1 := hown.at_ hk (j := 1) rfl
  have q2 := hown.at_ hk (j := 2) rfl
  simp [due] at p0 p1 p2 q0 q1 q2
  have el := elem34
  have t1 : (0 : Int) ≤ i := by omega
  have t2 : (i : Int) < n := by omega
  have t3 : (0 : Int) ≤ k := by omega
  have t4 : (k : Int) < n := by omega
  have ks : ∀ W, Keeps (fun _ => False) w W → (W.cell? ⟨b, i * 3, none⟩ = some (.int .i64 x.at_) ∧ W.cell? ⟨b, i * 3 + 1, none⟩ = some (.string x.key) ∧ W.cell? ⟨b, i * 3 + 2, none⟩ = some (.int .i64 x.kind)) ∧ W.cell? ⟨b, k * 3, none⟩ = some (.int .i64 y.at_) ∧ W.cell? ⟨b, k * 3 + 1, none⟩ = some (.string y.key) ∧ W.cell? ⟨b, k * 3 + 2, none⟩ = some (.int .i64 y.kind) := fun W k => ⟨⟨k.cell (fun h => h) p0, k.cell (fun h => h) p1, k.cell (fun h => h) p2⟩, k.cell (fun h => h) q0, k.cell (fun h => h) q1, k.cell (fun h => h) q2⟩
  have KS := Lib.hid ks
  clear ks hown hl hi hk
  go_enter Try.func52, Try.ntmps52
  go_upto_region 1 with fail
  go_region_held3 (fun W => (W.cell? ⟨b, i * 3, none⟩ = some (.int .i64 x.at_) ∧ W.cell? ⟨b, i * 3 + 1, none⟩ = some (.string x.key) ∧ W.cell? ⟨b, i * 3 + 2, none⟩ = some (.int .i64 x.kind)) ∧ W.cell? ⟨b, k * 3, none⟩ = some (.int .i64 y.at_) ∧ W.cell? ⟨b, k * 3 + 1, none⟩ = some (.string y.key) ∧ W.cell? ⟨b, k * 3 + 2, none⟩ = some (.int .i64 y.kind)) (exact KS.out _ (by (repeat first | assumption | exact Lib.Hid.out (by assumption) | exact Keeps.refl _ _ | refine Keeps.alloc ?_ _ | refine Keeps.drewN ?_ _ | refine Keeps.drew ?_ | refine Keeps.setCell ?_ _ _ (fun h => by simp at h <;> omega)))) (first
    | (go_at_call 54; refine (before_any x y _).mono ?_
       rintro e w2 ⟨rfl, k2⟩
       have K2 := Lib.hid (show Keeps (fun _ => False) w w2 from ((Keeps.refl (fun _ => False) w).drew).trans k2 (fun _ _ h => h))
       clear k2))
  all_goals
    go_wp2_with fail
    go_ret
    exact ⟨rfl, K2.out⟩
/-- Two places change what they hold. -/
def swapL (H : List DU) (i k : Nat) (x y : DU) : List DU := (H.set i y).set k x
theorem Mem.Own.store3 {w : World} {base b n c : Nat} {H : List DU} (h : Own due w base 34 (.slice (some ⟨b, 0, none⟩) n c) H) {i : Nat} {x : DU} (hi : H[i]? = some x) (y : DU) :
    Own due (((w.setCell ⟨b, i * 3, none⟩ (.int .i64 y.at_)).setCell ⟨b, i * 3 + 1, none⟩ (.string y.key)).setCell ⟨b, i * 3 + 2, none⟩ (.int .i64 y.kind)) base 34 (.slice (some ⟨b, 0, none⟩) n c) (H.set i y) := by
  have hl := (List.getElem?_eq_some_iff.1 hi).1
  have h1 := h.store (j := 0) (u := .int .i64 y.at_) (y := ⟨y.at_, x.key, x.kind⟩) hi (by decide) rfl
  have h2 := h1.store (j := 1) (u := .string y.key) (y := ⟨y.at_, y.key, x.kind⟩) (List.getElem?_set_self hl) (by decide) rfl
  have h3 := h2.store (j := 2) (u := .int .i64 y.kind) (y := y) (List.getElem?_set_self (by simpa using hl)) (by decide) rfl
  rw [List.set_set, List.set_set] at h3
  exact h3
set_option maxHeartbeats 3200000 in
theorem swap_any (b n c : Nat) (H : List DU) (base : Nat) (w : World) (hown : Own due w base 34 (.slice (some ⟨b, 0, none⟩) n c) H) (i k : Nat) (x y : DU) (hi : H[i]? = some x) (hk : H[k]? = some y) :
    Calls Try.prog 53 #[.slice (some ⟨b, 0, none⟩) n c, .int .i64 i, .int .i64 k] w fun e w' => e = .returned (.tuple #[]) ∧ Own due w' base 34 (.slice (some ⟨b, 0, none⟩) n c) (swapL H i k x y) ∧ Keeps (fun q => q = b) w w' := by
  have hl := hown.len_eq rfl
  have hin : i < n := by rw [← hl]; exact (List.getElem?_eq_some_iff.1 hi).1
  have hkn : k < n := by rw [← hl]; exact (List.getElem?_eq_some_iff.1 hk).1
  have p0 := hown.at_ hi (j := 0) rfl
  have p1 := hown.at_ hi (j := 1) rfl
  have p2 := hown.at_ hi (j := 2) rfl
  have q0 := hown.at_ hk (j := 0) rfl
  have q1 := hown.at_ hk (j := 1) rfl
  have q2 := hown.at_ hk (j := 2) rfl
  simp [due] at p0 p1 p2 q0 q1 q2
  have el := elem34
  have f0 := hown.frozen (i * 3)
  have f1 := hown.frozen (i * 3 + 1)
  have f2 := hown.frozen (i * 3 + 2)
  have e0 := hown.frozen (k * 3)
  have e1 := hown.frozen (k * 3 + 1)
  have e2 := hown.frozen (k * 3 + 2)
  have t1 : (0 : Int) ≤ i := by omega
  have t2 : (i : Int) < n := by omega
  have t3 : (0 : Int) ≤ k := by omega
  have t4 : (k : Int) < n := by omega
  have HO := Lib.hid hown
  have HI := Lib.hid hi
  have HK := Lib.hid hk
  clear hown hl hi hk
  by_cases hne : i = k
  · subst hne
    obtain rfl : x = y := by have := HI.out.symm.trans HK.out; injection this
    go_enter Try.func53, Try.ntmps53
    go_upto_region 0 with fail
    go_region_law (fail)
    all_goals
      go_wp2_with fail
      go_end0
      refine ⟨rfl, ?_, ?_⟩
      · have hk2 : (H.set i x)[i]? = some x := by
          rw [List.getElem?_set]
          split
          · rw [if_pos (List.getElem?_eq_some_iff.1 HI.out).1]
          · exact HK.out
        exact ((HO.out.store3 HI.out x).store3 hk2 x).drew
      · exact (((((((Keeps.refl (fun q => q = b) w).setCell _ _ (fun _ => rfl)).setCell _ _ (fun _ => rfl)).setCell _ _ (fun _ => rfl)).setCell _ _ (fun _ => rfl)).setCell _ _ (fun _ => rfl)).setCell _ _ (fun _ => rfl)).drew
  · go_enter Try.func53, Try.ntmps53
    go_upto_region 0 with fail
    go_region_law (fail)
    all_goals
      go_wp2_with fail
      go_end0
      refine ⟨rfl, ?_, ?_⟩
      · have hk2 : (H.set i y)[k]? = some y := by
          rw [List.getElem?_set]
          split
          · rename_i e
            subst e
            rw [if_pos (List.getElem?_eq_some_iff.1 HI.out).1]
          · exact HK.out
        exact ((HO.out.store3 HI.out y).store3 hk2 x).drew
      · exact (((((((Keeps.refl (fun q => q = b) w).setCell _ _ (fun _ => rfl)).setCell _ _ (fun _ => rfl)).setCell _ _ (fun _ => rfl)).setCell _ _ (fun _ => rfl)).setCell _ _ (fun _ => rfl)).setCell _ _ (fun _ => rfl)).drew
set_option maxHeartbeats 3200000 in
theorem qpop_any (g : Nat) (now : Int) (M : Value) (b n c : Nat) (H : List DU) (x : DU) (base : Nat) (w : World) (hg : Blk w g 54 #[.int .i64 now, M, .slice (some ⟨b, 0, none⟩) (n + 1) c]) (hown : Own due w base 34 (.slice (some ⟨b, 0, none⟩) (n + 1) c) (H ++ [x])) (hn : n ≤ 1000000) :
    Calls Try.prog 60 #[.pointer (some ⟨g, 2, none⟩)] w fun e w' => e = .returned (.iface 34 (.agg #[.int .i64 x.at_, .string x.key, .int .i64 x.kind])) ∧ Blk w' g 54 #[.int .i64 now, M, .slice (some ⟨b, 0, none⟩) n c] ∧ Own due w' base 34 (.slice (some ⟨b, 0, none⟩) n c) H ∧ Keeps (fun q => q = g) w w' := by
  have c2 := hg.cell 2
  have f2 := hg.frozen 2
  simp at c2
  have hl := hown.len_eq rfl
  have hHl : H.length = n := by simpa using hl
  have hx : (H ++ [x])[n]? = some x := by rw [List.getElem?_append_right (by omega), hHl]; simp
  obtain ⟨_, c6, hv6, _, hb6l, hc⟩ := hown.form (by simp)
  injection hv6 with hA6 hn6 hc6
  rw [← hc6, hl] at hc
  have p0 := hown.at_ hx (j := 0) rfl
  have p1 := hown.at_ hx (j := 1) rfl
  have p2 := hown.at_ hx (j := 2) rfl
  simp [due] at p0 p1 p2
  have el := elem34
  have t1 : IntKind.i64.wrap ((n : Int) + 1 - 1) = n := by rw [Int.add_sub_cancel]; exact IntWalk.i64_in _ (by omega)
  have t2 : (n : Int) < ((n : Int) + 1) := by omega
  have t3 : (n : Int) ≤ c := by omega
  have t4 : n ≤ c := by omega
  have hgl := hg.lt
  have HG := Lib.hid hg
  have HO := Lib.hid hown
  clear hg hown hl hHl hx hA6 hn6 hc6
  go_enter Try.func60, Try.ntmps60
  go_wp2_with fail
  go_ret
  have kz : Keeps (fun q => q = g) w ((w.setCell ⟨g, 2, none⟩ (.slice (some ⟨b, 0, none⟩) n c)).alloc (.cells #[.int .i64 x.at_, .string x.key, .int .i64 x.kind] 34)) := ((Keeps.refl (fun q => q = g) w).setCell _ _ (fun _ => rfl)).alloc _
  exact ⟨rfl, (HG.out.set 2 _).alloc _, (HO.out.shrink).keeps kz (fun q hq e => by rw [e] at hq; exact HO.out.blk_ne HG.out (by decide) hq), kz⟩
set_option maxHeartbeats 3200000 in
theorem qpush_any (g : Nat) (now : Int) (M : Value) (A : Option Addr) (n c : Nat) (H : List DU) (d : DU) (base : Nat) (w : World) (hg : Blk w g 54 #[.int .i64 now, M, .slice A n c]) (hown : Own due w base 34 (.slice A n c) H) (hn : n ≤ 1000000) (hb : base ≤ w.heap.size) :
    Calls Try.prog 61 #[.pointer (some ⟨g, 2, none⟩), .iface 34 (.agg #[.int .i64 d.at_, .string d.key, .int .i64 d.kind])] w fun e w' => e = .returned (.tuple #[]) ∧ ∃ A' c', Blk w' g 54 #[.int .i64 now, M, .slice A' (n + 1) c'] ∧ Own due w' base 34 (.slice A' (n + 1) c') (H ++ [d]) ∧ (∀ q, (Value.slice A' (n + 1) c').ownBlock = some q → (Value.slice A n c).ownBlock = some q ∨ w.heap.size ≤ q) ∧ Keeps (fun q => q = g ∨ (Value.slice A n c).ownBlock = some q) w w' := by
  have c2 := hg.cell 2
  have f2 := hg.frozen 2
  simp at c2
  have hl := hown.len_eq rfl
  have HL := Lib.hid hl
  have hgl := hg.lt
  have el := elem34
  have HG := Lib.hid hg
  have HO := Lib.hid hown
  have ta : ∀ W, (Instr.typeAssert (.iface 34 (.agg #[.int .i64 d.at_, .string d.key, .int .i64 d.kind])) 20 34 false).run Try.prog W = .ok (.agg #[.int .i64 d.at_, .string d.key, .int .i64 d.kind]) W := fun W => by kernel_rfl
  clear hg hown hl
  go_enter Try.func61, Try.ntmps61
  go_upto_region 0 with fail
  go_region_law (first
    | (refine step_append elem34 (by rfl) (.tmp 7) (.tmp 10) (by rfl) base (.slice A n c) H [d] (some ⟨w.heap.size, 0, none⟩) 1 1 (by rfl) (by rfl) (HO.out.drew.alloc _) ((Blk.new w.drew 34 _ _ rfl).reads _ rfl rfl) (by rw [HL.out]; omega) (by rw [HL.out]; simp [maxLen]; omega) (by simp; omega) ?_
       intro k5 A5 c5 w5 hk5 own5 gr5 at5
       have b5 := (HG.out.drew.alloc (.cells (due.enc d).toArray 34)).grown gr5 (fun h => HO.out.blk_ne HG.out (by decide) h.symm)
       have f5 := b5.frozen 2
       have g5 := b5.cell 2
       simp at g5
       have hk := hk5.trans (by rw [HL.out])
       subst hk
       have G5 := Lib.hid gr5
       have B5 := Lib.hid b5
       have T5 := Lib.hid at5
       have D5 := Lib.hid own5
       clear own5 b5 gr5 at5 hk5))
  all_goals
    go_wp2_with fail
    go_end0
    have k5 : Keeps (fun q => q = g ∨ (Value.slice A n c).ownBlock = some q) w w5 := Keeps.grown (((Keeps.refl (fun q => q = g ∨ (Value.slice A n c).ownBlock = some q) w).drew).alloc _) G5.out (fun k hk _ => .inr hk)
    refine ⟨rfl, A5, c5, B5.out.set 2 _, D5.out.setCell _ _ (fun q hq e => ?_), ?_, k5.setCell _ _ (fun _ => .inl rfl)⟩
    · have h1 : q = g := e
      rw [h1] at hq
      exact D5.out.blk_ne B5.out (by decide) hq
    · intro q hq
      rcases T5.out with e | e
      · rw [e] at hq; exact .inl hq
      · rw [e] at hq
        simp at hq
        exact .inr (by omega)
end Go.Proofs.Yteeginfbonfhlaa
