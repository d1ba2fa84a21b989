/- A book's copy; an empty book: walked. -/
import Derived.Test.YtbobmilbcbileaaW1
namespace Go.Proofs.Ytbobmilbcbileaa
open Go.RowKit Mem
set_option maxHeartbeats 1600000 in
theorem copied_any (no : Int) (T : List T6) (A : Option Addr) (n c : Nat) (w : World) (hr : Reads total w A n T) (hA : A = none → n = 0 ∧ c = 0) (hn : n ≤ 1000) :
    Calls Try.prog 24 #[.agg #[.int .i64 no, .slice A n c]] w fun e w' => ∃ A' c', e = .returned (.agg #[.int .i64 no, .slice A' n c']) ∧ Own total w' w.heap.size 41 (.slice A' n c') T ∧ Keeps (fun _ => False) w w' := by
  have R := Lib.hid hr
  have HA := Lib.hid hA
  clear hr hA
  go_enter Try.func24, Try.ntmps24
  go_wp2
  go_region_with (go_at_call 28; refine (rowClone_any T A n c (((w.alloc (.cells #[.int .i64 no, .slice A n c] 61)).alloc (.cells #[.int .i64 0, .slice none 0 0] 61)).drew) (((R.out.alloc _).alloc _).drew) HA.out hn).mono ?_
                  rintro e w1 ⟨A', c', rfl, o1, k1⟩
                  have hb := (((Blk.new w 61 #[.int .i64 no, .slice A n c] _ rfl).alloc (.cells #[.int .i64 0, .slice none 0 0] 61)).drew).keeps k1 (fun h => h)
                  have hz1 := k1.size
                  have hb2 := ((Blk.new (w.alloc (.cells #[.int .i64 no, .slice A n c] 61)) 61 #[.int .i64 0, .slice none 0 0] (w.heap.size + 1) (by simp)).drew).keeps k1 (fun h => h)
                  have e0 := hb.cell 0
                  have e1 := hb.cell 1
                  have e2 := hb2.cell 0
                  have e3 := hb2.cell 1
                  have f2 := hb2.frozen 0
                  have f3 := hb2.frozen 1
                  simp at e0 e1 e2 e3
                  have HB2 := Lib.hid hb2
                  have O1 := Lib.hid o1
                  have K1 := Lib.hid k1
                  clear o1 k1 hb hb2)
  all_goals
    go_wp2_with fail
    have hb3 : Blk ((w1.setCell ⟨w.heap.size + 1, 0, none⟩ (.int .i64 no)).setCell ⟨w.heap.size + 1, 1, none⟩ (.slice A' n c')) (w.heap.size + 1) 61 #[.int .i64 no, .slice A' n c'] := (HB2.out.set 0 _).set 1 _
    (try simp only [Exit.inBlock, Exit.then])
    refine bodyPost_ret (results_cell_row rfl _ _ (w.heap.size + 1) 61 #[.int .i64 no, .slice A' n c'] (0, 0) _ rfl hb3 Try.underlying61 rfl (by kernel_rfl)) rfl ?_
    have kk : Keeps (fun _ => False) w ((w1.setCell ⟨w.heap.size + 1, 0, none⟩ (.int .i64 no)).setCell ⟨w.heap.size + 1, 1, none⟩ (.slice A' n c')) := by
      have k2 := ((((Keeps.refl (fun b => b = w.heap.size + 1) w).alloc (.cells #[.int .i64 no, .slice A n c] 61)).alloc (.cells #[.int .i64 0, .slice none 0 0] 61)).drew.trans K1.out (fun _ _ h => h.elim))
      exact ((k2.setCell ⟨w.heap.size + 1, 0, none⟩ (.int .i64 no) (fun _ => rfl)).setCell ⟨w.heap.size + 1, 1, none⟩ (.slice A' n c') (fun _ => rfl)).mono (fun b hb h => by omega)
    refine ⟨A', c', rfl, ?_, kk⟩
    have ho := O1.out
    have hlt : ∀ k, (Value.slice A' n c').ownBlock = some k → w.heap.size + 2 ≤ k := fun k hk => by
      have := ho.base_le hk
      simpa using this
    exact (((ho.setCell _ _ (fun k hk e => by have := hlt k hk; simp at e; omega)).setCell _ _ (fun k hk e => by have := hlt k hk; simp at e; omega))).rebase _ (fun k hk => by have := hlt k hk; omega)
/-- The book of a day on which nothing was counted. -/
def zero6 (i : Nat) : T6 := ⟨i, 0, 0, 0, 0, 0⟩
def zeros (n : Nat) : List T6 := (List.range n).map zero6
theorem zeros_succ (n : Nat) : zeros (n + 1) = zeros n ++ [zero6 n] := by simp [zeros, List.range_succ]
theorem zeros_length (n : Nat) : (zeros n).length = n := by simp [zeros]
set_option maxHeartbeats 1600000 in
theorem begin_any (no : Int) (n : Nat) (w : World) (hn : n ≤ 7) :
    Calls Try.prog 23 #[.int .i64 no, .int .i64 n] w fun e w' => ∃ A c, e = .returned (.agg #[.int .i64 no, .slice A n c]) ∧ Own total w' w.heap.size 41 (.slice A n c) (zeros n) ∧ Keeps (fun _ => False) w w' := by
  go_enter Try.func23, Try.ntmps23
  go_wp2_with fail
  go_loopw [10, 6] (fun v _ wr => ∃ (k : Nat) (A : Option Addr) (c : Nat), k ≤ n ∧ v = .int .i64 k ∧ Blk wr w.heap.size 61 #[.int .i64 0, .slice none 0 0] ∧ Blk wr (w.heap.size + 1) 38 #[.int .i64 no, .slice A k c] ∧ Own total wr (w.heap.size + 2) 41 (.slice A k c) (zeros k) ∧ Keeps (fun _ => False) w wr) (fun v _ _ => n - (intOf v).toNat)
  case atStart =>
    refine ⟨0, none, 0, Nat.zero_le _, rfl, (Blk.new w 61 _ _ rfl).alloc _, Blk.new _ 38 _ _ (by simp), Own.nil _ _ _ _, ?_⟩
    exact ((Keeps.refl (fun _ => False) w).alloc _).alloc _
  case round =>
    obtain ⟨k, A, c, hk, rfl, h1, h2, h3, h4⟩ := hrel
    have H1 := Lib.hid h1
    have H2 := Lib.hid h2
    have H3 := Lib.hid h3
    have H4 := Lib.hid h4
    have c0 := h2.cell 0
    have c1 := h2.cell 1
    simp at c0 c1
    have hlt := h2.lt
    by_cases hkn : k < n
    · clear h1 h2 h3 h4
      go_wp2_with (at_builtin; refine wp_append elem41 (by rfl) (.tmp 14) (.tmp 17) (by rfl) (w.heap.size + 2) (.slice A k c) (zeros k) [zero6 k] (some ⟨wr.heap.size, 0, none⟩) 1 1 rfl rfl (H3.out.alloc _) ((Blk.new wr 41 #[.int .i64 (k : Int), .int .i64 0, .int .i64 0, .int .i64 0, .int .i64 0, .int .i64 0] _ rfl).reads [zero6 k] rfl rfl) (by rw [zeros_length]; omega) (by rw [zeros_length]; simp [maxLen]; omega) (by simp; omega) ?_
                   intro v5 w5 own5 gr5 at5
                   obtain ⟨A5, c5, hv5, _⟩ := Own.val own5 (n := k + 1) (by simp [zeros_length])
                   rw [hv5]
                   rw [hv5] at own5
                   rw [← zeros_succ] at own5
                   have k5 : Keeps (fun b => (Value.slice A k c).ownBlock = some b) wr w5 := ((Keeps.refl _ wr).alloc _).grown gr5 (fun b hb _ => hb)
                   have g1 := H1.out.keeps k5 (fun h => by have := H3.out.base_le h; omega)
                   have g2 := H2.out.keeps k5 (fun h => by have := H3.out.base_le h; omega)
                   have kk := H4.out.trans k5 (fun b hb h => by have := H3.out.base_le h; omega)
                   have d1 := g2.cell 1
                   have f1 := g2.frozen 1
                   simp at d1
                   have O5 := Lib.hid own5
                   have G1 := Lib.hid g1
                   have G2 := Lib.hid g2
                   have K5 := Lib.hid kk
                   clear own5 gr5 at5 hv5 k5 g1 g2 kk)
      have ks : Keeps (fun _ => False) w (w5.setCell ⟨w.heap.size + 1, 1, none⟩ (.slice A5 (k + 1) c5)) := ((K5.out.mono (S' := fun b => b = w.heap.size + 1) (fun _ _ h => h.elim)).setCell _ _ (fun _ => rfl)).mono (fun b hb h => by omega)
      refine ⟨⟨k + 1, A5, c5, by omega, by go_num, G1.out.far (p := ⟨w.heap.size + 1, 1, none⟩) (by simp) _, G2.out.set 1 _, O5.out.setCell _ _ (fun q hq e => by have := O5.out.base_le hq; simp at e; omega), ks⟩, by simp [intOf]; omega⟩
    · obtain rfl : k = n := by omega
      have b0 := h1.cell 0
      have b1 := h1.cell 1
      have f0 := h1.frozen 0
      have f1 := h1.frozen 1
      simp at b0 b1
      clear h1 h2 h3 h4
      go_wp2_with fail
      have hb3 : Blk ((wr.setCell ⟨w.heap.size, 0, none⟩ (.int .i64 no)).setCell ⟨w.heap.size, 1, none⟩ (.slice A k c)) w.heap.size 61 #[.int .i64 no, .slice A k c] := (H1.out.set 0 _).set 1 _
      (try simp only [Exit.inBlock, Exit.then])
      refine bodyPost_ret (results_cell_row rfl _ _ w.heap.size 61 #[.int .i64 no, .slice A k c] (0, 0) _ rfl hb3 Try.underlying61 rfl (by kernel_rfl)) rfl ?_
      have ks : Keeps (fun _ => False) w ((wr.setCell ⟨w.heap.size, 0, none⟩ (.int .i64 no)).setCell ⟨w.heap.size, 1, none⟩ (.slice A k c)) :=
        (((H4.out.mono (S' := fun b => b = w.heap.size) (fun _ _ h => h.elim)).setCell ⟨w.heap.size, 0, none⟩ (.int .i64 no) (fun _ => rfl)).setCell ⟨w.heap.size, 1, none⟩ (.slice A k c) (fun _ => rfl)).mono (fun b hb h => by omega)
      refine ⟨A, c, rfl, ?_, ks⟩
      have ho := H3.out
      exact ((ho.setCell _ _ (fun q hq e => by have := ho.base_le hq; simp at e; omega)).setCell _ _ (fun q hq e => by have := ho.base_le hq; simp at e; omega)).rebase _ (fun q hq => by have := ho.base_le hq; omega)
end Go.Proofs.Ytbobmilbcbileaa
