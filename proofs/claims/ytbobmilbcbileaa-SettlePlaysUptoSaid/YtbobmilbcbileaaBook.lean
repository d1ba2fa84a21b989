/- The document's book of a day: walked. -/
import Derived.Test.YtbobmilbcbileaaBookP
import Derived.Deep.Cut
namespace Go.Proofs.Ytbobmilbcbileaa
open Go.RowKit Mem
def BookP (no : Int) (n : Nat) (es : List (Int × Int)) (w : World) (e : Ending) (w' : World) : Prop :=
  (∃ T A c, foldT (zeros n) es = some T ∧ e = .returned (.tuple #[.agg #[.int .i64 no, .slice A n c], .bool true]) ∧ Own total w' w.heap.size 41 (.slice A n c) T ∧ Keeps (fun _ => False) w w') ∨
  (foldT (zeros n) es = none ∧ e = .returned (.tuple #[.agg #[.int .i64 0, .slice none 0 0], .bool false]) ∧ Keeps (fun _ => False) w w')
def t6cells (t : T6) (z : Int) : Array Value := #[.int .i64 t.member, .int .i64 t.credits, .int .i64 t.debits, .int .i64 t.cs, .int .i64 t.ds, .int .i64 z]
set_option maxRecDepth 100000 in
set_option maxHeartbeats 12800000 in
theorem book_any (no : Int) (n : Nat) (hn : n ≤ 7) (es : List (Int × Int)) (A0 : Option Addr) (n0 c0 : Nat) (w : World) (hr : Reads entry w A0 n0 es) (hok : ∀ e ∈ es, okE e) (hn0 : n0 ≤ 100000000) (hin : inAll n es) :
    Calls Try.prog 27 #[.int .i64 no, .int .i64 n, .slice A0 n0 c0] w (BookP no n es w) := by
  have HL := Lib.hid hr.1
  have R := Lib.hid hr
  have OK := Lib.hid hok
  have HIN := Lib.hid hin
  clear hr hok hin
  obtain ⟨w1, hw1⟩ : ∃ w1, w1 = (w.alloc (.cells #[.int .i64 0, .slice none 0 0] 38)).alloc (.cells #[.int .i64 no, .slice none 0 0] 38) := ⟨_, rfl⟩
  have K1 := Lib.hid (show Keeps (fun _ => False) w w1 by rw [hw1]; exact ((Keeps.refl _ w).alloc _).alloc _)
  have G1 := Lib.hid (show Blk w1 w.heap.size 38 #[.int .i64 0, .slice none 0 0] by rw [hw1]; exact (Blk.new w 38 _ _ rfl).alloc _)
  have D1 := Lib.hid (show Blk w1 (w.heap.size + 1) 38 #[.int .i64 no, .slice none 0 0] by rw [hw1]; exact Blk.new _ 38 _ _ (by simp))
  have HW1 := Lib.hid hw1
  clear hw1
  go_enter Try.func27, Try.ntmps27
  go_wp2_with fail
  rw [← HW1.out]
  go_loopw [9] (fun v wr => ∃ (a : Nat) (A : Option Addr) (c : Nat) (rows : List T6), a ≤ n ∧ v = .int .i64 a ∧ rows.length = a ∧ (∀ i t, rows[i]? = some t → foldA i (zero6 i) es = some t) ∧ Blk wr w.heap.size 38 #[.int .i64 0, .slice none 0 0] ∧ Blk wr (w.heap.size + 1) 38 #[.int .i64 no, .slice A a c] ∧ Own total wr w.heap.size 41 (.slice A a c) rows ∧ Keeps (fun _ => False) w wr) (fun v _ => n - (intOf v).toNat)
  case atStart => exact ⟨0, none, 0, [], Nat.zero_le _, rfl, rfl, fun i t h => by simp at h, G1.out, D1.out, Own.nil _ _ _ _, K1.out⟩
  case round =>
    clear G1 D1 K1
    obtain ⟨a, A, c, rows, ha, rfl, hrl, hrows, bg, bd, ho, kk⟩ := hrel
    obtain ⟨wo, hwo⟩ : ∃ wo : World, wo = wr := ⟨_, rfl⟩
    subst hwo
    have G := Lib.hid bg
    have D := Lib.hid bd
    have O := Lib.hid ho
    have KK := Lib.hid kk
    have RL := Lib.hid hrl
    have ROWS := Lib.hid hrows
    have hdl := bd.lt
    have hzo := kk.size
    clear bg bd ho kk hrl hrows
    by_cases han : a < n
    · go_wp2_with fail
      obtain ⟨w2, hw2⟩ : ∃ w2, w2 = wo.alloc (.cells #[.int .i64 a, .int .i64 0, .int .i64 0, .int .i64 0, .int .i64 0, .int .i64 0] 41) := ⟨_, rfl⟩
      rw [← hw2]
      have T2 := Lib.hid (show Blk w2 wo.heap.size 41 (t6cells (zero6 a) 0) by rw [hw2]; exact Blk.new wo 41 _ _ rfl)
      have K2 := Lib.hid (show Keeps (fun _ => False) wo w2 by rw [hw2]; exact (Keeps.refl _ wo).alloc _)
      clear hw2
      go_wp2_with fail
      go_loopw [11] (fun v wi => ∃ (i : Nat) (t : T6), i ≤ n0 ∧ v = .int .i64 i ∧ foldA a (zero6 a) (es.take i) = some t ∧ Blk wi wo.heap.size 41 (t6cells t 0) ∧ Keeps (fun _ => False) wo wi) (fun v _ => n0 - (intOf v).toNat)
      case atStart => exact ⟨0, zero6 a, Nat.zero_le _, rfl, rfl, T2.out, K2.out⟩
      case round =>
        clear T2 K2
        obtain ⟨i, t, hi, rfl, hf, bt, kt⟩ := hrel
        obtain ⟨g1, g2, g3, g4, g5, g6⟩ := foldA_good hf (good_zero a)
        have hgood := foldA_good hf (good_zero a)
        obtain ⟨tm, cr, de, cs, ds, nt⟩ := t
        simp only at g1 g2 g3 g4 g5 g6
        subst g1
        have hnt : nt = cs - ds := by rw [g6, Lem.wrap_in (by omega) (by omega)]
        have HF := Lib.hid hf
        have BT := Lib.hid bt
        have KT := Lib.hid kt
        have HG := Lib.hid hgood
        have c1 := bt.cell 1
        have c2 := bt.cell 2
        have c3 := bt.cell 3
        have c4 := bt.cell 4
        have hbl := bt.lt
        simp [t6cells] at c1 c2 c3 c4
        have f1 := bt.frozen 1
        have f2 := bt.frozen 2
        have f3 := bt.frozen 3
        have f4 := bt.frozen 4
        have gk := G.out.keeps kt (fun h => h)
        have z0 := gk.cell 0
        have z1 := gk.cell 1
        have y0 := gk.frozen 0
        have y1 := gk.frozen 1
        simp at z0 z1
        have hwg : w.heap.size < wo.heap.size := by omega
        have GK := Lib.hid gk
        have KW := Lib.hid (KK.out.trans kt (fun _ _ h => h))
        clear hf bt kt hgood g6 gk
        by_cases hin : i < n0
        · obtain ⟨⟨x, y⟩, he⟩ : ∃ e, es[i]? = some e := ⟨_, List.getElem?_eq_getElem (by rw [HL.out]; exact hin)⟩
          obtain ⟨ad, hA, hc⟩ := (R.out.keeps KW.out (fun _ _ _ h => h)).at_ he
          subst hA
          have hoke := (OK.out _ (List.mem_of_getElem? he)).2
          have p0 := hc 0 _ rfl
          have p1 := hc 1 _ rfl
          simp [entry] at p0 p1
          rw [← add_add, add_pos _ (by decide : 0 < 1)] at p1
          have hs := foldA_succ HF.out he
          rw [foldA_one] at hs
          simp only at hoke hs
          have HS := Lib.hid hs
          clear hc he hs
          by_cases hxa : x = (a : Int)
          · subst hxa
            unfold isInt at hoke
            rcases (show y = 0 ∨ 0 < y ∨ y < 0 by omega) with hy | hy | hy
            · subst hy
              have hgo : foldA a (zero6 a) (es.take (i + 1)) = some ⟨a, cr, de, cs, ds, nt⟩ := by
                rw [HS.out, if_pos rfl, if_pos ⟨fun h => by omega, fun h => by omega⟩, good_zero_step HG.out]
              have HGO := Lib.hid hgo
              clear hgo hoke
              go_wp2_with fail
              exact ⟨⟨i + 1, _, by omega, by go_num, HGO.out, BT.out, KT.out⟩, by simp [intOf]; omega⟩
            · by_cases hov : cs + y ≤ 9223372036854775807
              · have hgo : foldA a (zero6 a) (es.take (i + 1)) = some ⟨a, wrap64 (cr + 1), de, cs + y, ds, wrap64 (cs + y - ds)⟩ := by
                  rw [HS.out, if_pos rfl, if_pos ⟨fun _ => by unfold isInt; simp only; omega, fun h => by omega⟩]
                  unfold step1
                  rw [if_pos hy]
                have t1 : decide (9223372036854775807 - y < cs) = false := by simp; omega
                have HGO := Lib.hid hgo
                have ty : (y == 0) = false := by simp; omega
                clear hgo
                go_wp2_with fail
                refine ⟨⟨i + 1, _, by omega, by go_num, HGO.out, (BT.out.set 1 _).set 3 _, (KT.out.setCell _ _ (fun h => by simp at h)).setCell _ _ (fun h => by simp at h)⟩, by simp [intOf]; omega⟩
              · have hgo : foldA a (zero6 a) (es.take (i + 1)) = none := by
                  rw [HS.out, if_pos rfl, if_neg (fun h => hov (by have := h.1 hy; unfold isInt at this; simp only at this; omega))]
                have t1 : decide (9223372036854775807 - y < cs) = true := by simp; omega
                have ty : (y == 0) = false := by simp; omega
                have HNO := Lib.hid (rows_no han (foldA_fail hgo) HIN.out)
                clear hgo hov
                go_wp2_with fail
                have hb3 : Blk ((wr.setCell ⟨w.heap.size, 0, none⟩ (.int .i64 0)).setCell ⟨w.heap.size, 1, none⟩ (.slice none 0 0)) w.heap.size 38 #[.int .i64 0, .slice none 0 0] := (GK.out.set 0 _).set 1 _
                (try simp only [Exit.inBlock, Exit.then])
                refine bodyPost_ret (results_cell_row_tmp rfl _ _ w.heap.size 38 #[.int .i64 0, .slice none 0 0] (0, 0) _ rfl hb3 Try.underlying38 rfl (by kernel_rfl)) rfl ?_
                exact Or.inr ⟨HNO.out, rfl, (((KW.out.mono (S' := fun b => b = w.heap.size) (fun _ _ h => h.elim)).setCell ⟨w.heap.size, 0, none⟩ (.int .i64 0) (fun _ => rfl)).setCell ⟨w.heap.size, 1, none⟩ (.slice none 0 0) (fun _ => rfl)).mono (fun b hb h => by omega)⟩
            · by_cases hov : ds - y ≤ 9223372036854775807
              · have hgo : foldA a (zero6 a) (es.take (i + 1)) = some ⟨a, cr, wrap64 (de + 1), cs, ds - y, wrap64 (cs - (ds - y))⟩ := by
                  rw [HS.out, if_pos rfl, if_pos ⟨fun h => by omega, fun _ => by unfold isInt; simp only; omega⟩]
                  unfold step1
                  rw [if_neg (by omega), if_pos hy]
                have t1 : decide (9223372036854775807 + y < ds) = false := by simp; omega
                have t2 : (y == -9223372036854775808) = false := by simp; omega
                have t3 : decide (0 < y) = false := by simp; omega
                have ty : (y == 0) = false := by simp; omega
                have HGO := Lib.hid hgo
                clear hgo
                go_wp2_with fail
                refine ⟨⟨i + 1, _, by omega, by go_num, HGO.out, (BT.out.set 2 _).set 4 _, (KT.out.setCell _ _ (fun h => by simp at h)).setCell _ _ (fun h => by simp at h)⟩, by simp [intOf]; omega⟩
              · have hgo : foldA a (zero6 a) (es.take (i + 1)) = none := by
                  rw [HS.out, if_pos rfl, if_neg (fun h => hov (by have := h.2 hy; unfold isInt at this; simp only at this; omega))]
                have t3 : decide (0 < y) = false := by simp; omega
                have ty : (y == 0) = false := by simp; omega
                have HNO := Lib.hid (rows_no han (foldA_fail hgo) HIN.out)
                have hcase : (y == -9223372036854775808) = true ∨ ((y == -9223372036854775808) = false ∧ decide (9223372036854775807 + y < ds) = true) := by
                  by_cases h : y = -9223372036854775808
                  · left; simpa using h
                  · right; exact ⟨by simpa using h, by simp; omega⟩
                clear hgo hov
                rcases hcase with t4 | ⟨t4, t1⟩
                all_goals
                  go_wp2_with fail
                  have hb3 : Blk ((wr.setCell ⟨w.heap.size, 0, none⟩ (.int .i64 0)).setCell ⟨w.heap.size, 1, none⟩ (.slice none 0 0)) w.heap.size 38 #[.int .i64 0, .slice none 0 0] := (GK.out.set 0 _).set 1 _
                  (try simp only [Exit.inBlock, Exit.then])
                  refine bodyPost_ret (results_cell_row_tmp rfl _ _ w.heap.size 38 #[.int .i64 0, .slice none 0 0] (0, 0) _ rfl hb3 Try.underlying38 rfl (by kernel_rfl)) rfl ?_
                  exact Or.inr ⟨HNO.out, rfl, (((KW.out.mono (S' := fun b => b = w.heap.size) (fun _ _ h => h.elim)).setCell ⟨w.heap.size, 0, none⟩ (.int .i64 0) (fun _ => rfl)).setCell ⟨w.heap.size, 1, none⟩ (.slice none 0 0) (fun _ => rfl)).mono (fun b hb h => by omega)⟩
          · have hgo : foldA a (zero6 a) (es.take (i + 1)) = some ⟨a, cr, de, cs, ds, nt⟩ := by rw [HS.out, if_neg hxa]
            have tx : (x == (a : Int)) = false := by simpa using hxa
            have HGO := Lib.hid hgo
            clear hgo hxa
            go_wp2_with fail
            exact ⟨⟨i + 1, _, by omega, by go_num, HGO.out, BT.out, KT.out⟩, by simp [intOf]; omega⟩
        · have hf := HF.out
          rw [List.take_of_length_le (by rw [HL.out]; omega)] at hf
          have hwr : IntKind.i64.wrap (cs - ds) = cs - ds := IntWalk.i64_in _ (by omega)
          have HFA := Lib.hid hf
          have f5 := BT.out.frozen 5
          have c5 := BT.out.cell 5
          have c0' := BT.out.cell 0
          simp [t6cells] at c5 c0'
          clear hf hwr
          go_upto_region 21 with fail
          obtain ⟨w5, hw5⟩ : ∃ w5, w5 = wr.setCell ⟨wo.heap.size, 5, none⟩ (.int .i64 (cs - ds)) := ⟨_, rfl⟩
          rw [← hw5]
          have k5 : Keeps (fun _ => False) wo w5 := by rw [hw5]; exact KT.out.setCell _ _ (fun h => by simp at h)
          have b5 : Blk w5 wo.heap.size 41 #[.int .i64 a, .int .i64 cr, .int .i64 de, .int .i64 cs, .int .i64 ds, .int .i64 (cs - ds)] := by rw [hw5]; exact BT.out.set 5 _
          have G5 := Lib.hid (G.out.keeps k5 (fun h => h))
          have d5 := D.out.keeps k5 (fun h => h)
          have O5 := Lib.hid (O.out.keeps k5 (fun _ _ h => h))
          have K5 := Lib.hid (KK.out.trans k5 (fun _ _ h => h))
          have x0 := b5.cell 0
          have x1 := b5.cell 1
          have x2 := b5.cell 2
          have x3 := b5.cell 3
          have x4 := b5.cell 4
          have x5 := b5.cell 5
          have v1 := d5.cell 1
          simp at x0 x1 x2 x3 x4 x5 v1
          have D5 := Lib.hid d5
          have hz5 := k5.size
          clear hw5 k5 b5 d5 c1 c2 c3 c4 c5 c0' f1 f2 f3 f4 f5 z0 z1 y0 y1
          go_wp2_with (at_builtin; refine wp_append elem41 (by rfl) (.tmp 91) (.tmp 93) (by rfl) w.heap.size (.slice A a c) rows [⟨a, cr, de, cs, ds, cs - ds⟩] (some ⟨w5.heap.size, 0, none⟩) 1 1 rfl rfl (O5.out.alloc _) ((Blk.new w5 41 _ _ rfl).reads _ rfl rfl) (by rw [RL.out]; omega) (by rw [RL.out]; simp [maxLen]; omega) (by simp; omega) ?_
                       intro v6 w6 own6 gr6 at6
                       obtain ⟨A6, c6, hv6, _⟩ := Own.val (n := a + 1) own6 (by simp [RL.out])
                       rw [hv6]
                       rw [hv6] at own6
                       have g6 := (G5.out.alloc (.cells #[.int .i64 a, .int .i64 cr, .int .i64 de, .int .i64 cs, .int .i64 ds, .int .i64 (cs - ds)] 41)).grown gr6 (fun h => O5.out.blk_ne G5.out (by decide) h.symm)
                       have d6 := (D5.out.alloc (.cells #[.int .i64 a, .int .i64 cr, .int .i64 de, .int .i64 cs, .int .i64 ds, .int .i64 (cs - ds)] 41)).grown gr6 (fun h => O5.out.blk_ne D5.out (by decide) h.symm)
                       have q1 := d6.cell 1
                       have f6 := d6.frozen 1
                       simp at q1
                       have G6 := Lib.hid g6
                       have D6 := Lib.hid d6
                       have O6 := Lib.hid own6
                       have K6 := Lib.hid ((Keeps.grown (S := fun b => w.heap.size ≤ b) ((K5.out.mono (S' := fun b => w.heap.size ≤ b) (fun _ _ h => h.elim)).alloc _) gr6 (fun q hq _ => O5.out.base_le hq)).mono (S' := fun _ => False) (fun b hb h => by omega))
                       clear own6 gr6 at6 hv6 g6 d6)
          refine ⟨⟨a + 1, A6, c6, rows ++ [⟨a, cr, de, cs, ds, cs - ds⟩], by omega, by go_num, by simp [RL.out], fun j u hj => ?_, G6.out.far (by show w.heap.size ≠ w.heap.size + 1; omega) _, D6.out.set 1 _, O6.out.setCell ⟨w.heap.size + 1, 1, none⟩ _ (fun q hq e => by rw [show q = w.heap.size + 1 from e] at hq; exact O6.out.blk_ne D6.out (by decide) hq), K6.out.setCell _ _ (fun h => by simp at h; omega)⟩, by simp [intOf]; omega⟩
          rcases Nat.lt_or_ge j a with hja | hja
          · rw [List.getElem?_append_left (by rw [RL.out]; exact hja)] at hj
            exact ROWS.out j u hj
          · rw [List.getElem?_append_right (by rw [RL.out]; exact hja), RL.out] at hj
            have hj0 : j - a = 0 := by
              rcases Nat.eq_zero_or_pos (j - a) with h | h
              · exact h
              · rw [List.getElem?_eq_none (by simp; omega)] at hj; cases hj
            rw [hj0] at hj
            simp at hj
            have : j = a := by omega
            subst this
            rw [HFA.out, ← hj, hnt]
    · obtain rfl : n = a := by omega
      have hfin := rows_eq RL.out ROWS.out HIN.out
      have HFIN := Lib.hid hfin
      have d0 := D.out.cell 0
      have d1 := D.out.cell 1
      have z0 := G.out.cell 0
      have z1 := G.out.cell 1
      have y0 := G.out.frozen 0
      have y1 := G.out.frozen 1
      simp at d0 d1 z0 z1
      clear hfin
      go_wp2_with fail
      have hb3 : Blk ((wo.setCell ⟨w.heap.size, 0, none⟩ (.int .i64 no)).setCell ⟨w.heap.size, 1, none⟩ (.slice A n c)) w.heap.size 38 #[.int .i64 no, .slice A n c] := (G.out.set 0 _).set 1 _
      (try simp only [Exit.inBlock, Exit.then])
      refine bodyPost_ret (results_cell_row_tmp rfl _ _ w.heap.size 38 #[.int .i64 no, .slice A n c] (0, 0) _ rfl hb3 Try.underlying38 rfl (by kernel_rfl)) rfl ?_
      have hne : ∀ q, (Value.slice A n c).ownBlock = some q → q ≠ w.heap.size := fun q hq e => by rw [e] at hq; exact O.out.blk_ne G.out (by decide) hq
      exact Or.inl ⟨rows, A, c, HFIN.out, rfl, (O.out.setCell ⟨w.heap.size, 0, none⟩ _ hne).setCell ⟨w.heap.size, 1, none⟩ _ hne, (((KK.out.mono (S' := fun b => b = w.heap.size) (fun _ _ h => h.elim)).setCell ⟨w.heap.size, 0, none⟩ (.int .i64 no) (fun _ => rfl)).setCell ⟨w.heap.size, 1, none⟩ (.slice A n c) (fun _ => rfl)).mono (fun b hb h => by omega)⟩
end Go.Proofs.Ytbobmilbcbileaa
