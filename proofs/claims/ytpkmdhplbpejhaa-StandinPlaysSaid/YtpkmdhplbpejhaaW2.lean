/- Asked: walked. -/
import Derived.Test.YtpkmdhplbpejhaaW1
import Derived.BigRegion
namespace Go.Proofs.Ytpkmdhplbpejhaa
open Go.RowKit Mem
def askE (ls : List (Int × Int)) (M : Int → ByteArray → Int) (i : Int) (s : ByteArray) (a : Int) : Int :=
  if i < 0 ∨ (ls.length : Int) ≤ i then 130 else if ¬ (0 ≤ a ∧ a ≤ 999999999999) then 100 else if (ls.getD i.toNat (0, 0)).1 < a ∨ (ls.getD i.toNat (0, 0)).2 < M i s + a then 150 else 0
def askM (ls : List (Int × Int)) (M : Int → ByteArray → Int) (i : Int) (s : ByteArray) (a : Int) : Int → ByteArray → Int := if askE ls M i s a = 0 then upd M i s (M i s + a) else M
theorem askM_no {ls : List (Int × Int)} {M : Int → ByteArray → Int} {i : Int} {s : ByteArray} {a : Int} (h : askE ls M i s a ≠ 0) : askM ls M i s a = M := if_neg h
theorem askM_yes {ls : List (Int × Int)} {M : Int → ByteArray → Int} {i : Int} {s : ByteArray} {a : Int} (h : askE ls M i s a = 0) : askM ls M i s a = upd M i s (M i s + a) := if_pos h
set_option maxHeartbeats 1600000 in
theorem ask_any {w : World} {g m k : Nat} {A : Option Addr} {n c : Nat} {ls : List (Int × Int)} {M : Int → ByteArray → Int} (d : Desk w g m k A n c ls M) (i : Int) (s : ByteArray) (a : Int) (hi : isInt i) (hs : isStr s) (ha : isInt a) (hk : k < 999999) :
    Calls Try.prog 11 #[.pointer (some ⟨g, 0, none⟩), .int .i64 i, .string s, .int .i64 a] w fun e w' => e = .returned (.int .i64 (askE ls M i s a)) ∧ Desk w' g m (k + 1) A n c ls (askM ls M i s a) ∧ Keeps (fun b => b = m) w w' := by
  have hn : ls.length = n := d.rows.1
  have D := Lib.hid d
  have HN := Lib.hid hn
  have hf := d.few
  have c0 := d.box.cell 0
  have c1 := d.box.cell 1
  simp at c0 c1
  have more : Desk w g m k A n c ls M → Desk w g m (k + 1) A n c ls M := fun h => ⟨h.box, h.rows, h.far, (by obtain ⟨D, h1, h2⟩ := h.map; exact ⟨D, h1.mono (Nat.le_succ _), h2⟩), h.good, h.few, h.had⟩
  have MORE := Lib.hid more
  clear more hn
  by_cases h1 : i < 0 ∨ (n : Int) ≤ i
  · have e : askE ls M i s a = 130 := if_pos (by rw [HN.out]; exact h1)
    rw [askM_no (by rw [e]; decide), e]
    clear d
    rcases (show i < 0 ∨ (¬ i < 0 ∧ (n : Int) ≤ i) by omega) with h | ⟨h, h'⟩
    all_goals
      go_enter Try.func11, Try.ntmps11
      go_wp2_with fail
      go_ret
      exact ⟨rfl, MORE.out D.out, Keeps.refl _ _⟩
  · by_cases h2 : 0 ≤ a ∧ a ≤ 999999999999
    · obtain ⟨j, rfl⟩ := Int.eq_ofNat_of_zero_le (show 0 ≤ i by omega)
      have hj : j < n := by omega
      obtain ⟨p, hp⟩ : ∃ p, ls[j]? = some p := ⟨_, List.getElem?_eq_getElem (by rw [HN.out]; exact hj)⟩
      obtain ⟨ad, hA, hc⟩ := d.rows.at_ hp
      subst hA
      have p0 := hc 0 _ rfl
      have p1 := hc 1 _ rfl
      simp [stand] at p0 p1
      rw [← add_add, add_pos _ (by decide : 0 < 1)] at p1
      have al1 : ∀ {q : Addr} {u : Value}, w.cell? q = some u → ∀ o, (w.alloc o).cell? q = some u := fun h o => (World.cell?_of_block (Below.heap_alloc w o _ (World.block_lt_of_cell? _ _ h))).trans h
      have al2 : ∀ {q : Addr} {u : Value}, w.cell? q = some u → ∀ o o', ((w.alloc o).alloc o').cell? q = some u := fun h o o' => (World.cell?_of_block (Below.heap_alloc _ o' _ (World.block_lt_of_cell? _ _ (al1 h o)))).trans (al1 h o)
      have a00 := al1 c0
      have a01 := al1 p0
      have a02 := al1 p1
      have a10 := al2 c0
      have a11 := al2 p0
      have a12 := al2 p1
      clear al1 al2
      have hg := d.good p (List.mem_of_getElem? hp)
      have hM := d.had j s
      have hr := fun q => (d.map.drewN q).look hi hs
      unfold kval at hr
      have hgp : ls.getD j (0, 0) = p := by rw [List.getD_eq_getElem?_getD, hp]; rfl
      have e : askE ls M j s a = if p.1 < a ∨ p.2 < M j s + a then 150 else 0 := by
        unfold askE
        rw [if_neg (by rw [HN.out]; omega), if_neg (by omega)]
        simp only [Int.toNat_natCast, hgp]
      have E := Lib.hid e
      clear d hc hp e
      go_enter Try.func11, Try.ntmps11
      go_wp2_with (go_at_call 18; refine (may_any _ _).mono ?_
                   rintro e w1 ⟨rfl, hw1⟩
                   subst hw1)
      go_region
      · obtain ⟨w2, hw2⟩ : ∃ w2, w2 = ((w1.alloc (.cells #[.int .i64 (j : Int), .string s] 51)).alloc (.cells #[.int .i64 p.1, .int .i64 p.2] 35)).drew := ⟨_, rfl⟩
        rw [← hw2]
        have b9 : Blk w2 w1.heap.size 51 #[.int .i64 (j : Int), .string s] := by rw [hw2]; exact ((Blk.new _ 51 _ _ rfl).alloc _).drew
        have b10 : Blk w2 (w1.heap.size + 1) 35 #[.int .i64 p.1, .int .i64 p.2] := by rw [hw2]; exact (Blk.new _ 35 _ _ (by simp)).drew
        have kk : Keeps (fun _ => False) w1 w2 := by rw [hw2]; exact (((Keeps.refl _ w1).alloc _).alloc _).drew
        have d2 := D.out.keeps kk (fun h => h) (fun h => h) (fun _ _ _ h => h)
        have D2 := Lib.hid d2
        have KK := Lib.hid kk
        have e0 := b9.cell 0
        have e1 := b9.cell 1
        have f0 := b10.cell 0
        have f1 := b10.cell 1
        have g1 := d2.box.cell 1
        simp at e0 e1 f0 f1 g1
        have hr2 := fun q => (d2.map.drewN q).look hi hs
        unfold kval at hr2
        have hz : isInt (M j s) ∧ isInt (M j s + a) := by unfold isInt; omega
        clear hw2 b9 b10 d2 kk
        go_wp2_with fail
        go_quiet ((go_at_call 20; exact Calls.quiet_of_same (add_any _ _ hz.1 ha hz.2 _)))
        rcases (show p.1 < a ∨ (¬ p.1 < a ∧ p.2 < M j s + a) ∨ (¬ p.1 < a ∧ ¬ p.2 < M j s + a) by omega) with h3 | ⟨h3, h4⟩ | ⟨h3, h4⟩
        · go_wp2_with fail
          go_ret
          have e := E.out
          rw [if_pos (.inl h3)] at e
          rw [askM_no (by rw [e]; decide), e]
          have hk' := KK.out.mono (S' := fun b => b = m) (fun _ _ h => h.elim)
          exact ⟨rfl, ⟨D2.out.box, D2.out.rows, D2.out.far, (by obtain ⟨D, h1, h2⟩ := D2.out.map; exact ⟨D, h1.mono (Nat.le_succ _), h2⟩), D2.out.good, D2.out.few, D2.out.had⟩, hk'.drewN nq⟩
        · go_wp2_with fail
          go_ret
          have e := E.out
          rw [if_pos (.inr h4)] at e
          rw [askM_no (by rw [e]; decide), e]
          have hk' := KK.out.mono (S' := fun b => b = m) (fun _ _ h => h.elim)
          exact ⟨rfl, ⟨D2.out.box, D2.out.rows, D2.out.far, (by obtain ⟨D, h1, h2⟩ := D2.out.map; exact ⟨D, h1.mono (Nat.le_succ _), h2⟩), D2.out.good, D2.out.few, D2.out.had⟩, hk'.drewN nq⟩
        · go_wp2_with fail
          obtain ⟨w3, hp3, hm3, hg3⟩ := (D2.out.map.drewN (nq + 1)).put hi hs hz.2 (by omega)
          unfold kval at hp3
          have HM3 := Lib.hid hm3
          have HG3 := Lib.hid hg3
          clear hm3 hg3
          go_region
          go_wp2_with fail
          go_ret
          have e := E.out
          rw [if_neg (by omega)] at e
          rw [askM_yes e, e]
          have hk' : Keeps (fun b => b = m) w1 w3 := ((KK.out.mono (S' := fun b => b = m) (fun _ _ h => h.elim)).drewN (nq + 1)).grown HG3.out (fun b hb _ => by injection hb with hb; exact hb.symm)
          have k3 : Keeps (fun b => b = m) (w2.drewN (nq + 1)) w3 := (Keeps.refl _ _).grown HG3.out (fun b hb _ => by injection hb with hb; exact hb.symm)
          have d3 : Desk (w2.drewN (nq + 1)) g m k (some ad) n c ls M := D2.out.keeps ((Keeps.refl (fun _ => False) w2).drewN (nq + 1)) (fun h => h) (fun h => h) (fun _ _ _ h => h)
          refine ⟨rfl, ⟨d3.box.keeps k3 (fun h => d3.ne h.symm), d3.rows.keeps k3 (fun ad e h0 h => d3.farm ad e h0 h), d3.far, HM3.out, d3.good, d3.few, fun i' s' => ?_⟩, hk'⟩
          unfold upd
          split
          · omega
          · exact d3.had i' _
      · obtain ⟨w2, hw2⟩ : ∃ w2, w2 = ((w1.alloc (.cells #[.int .i64 p.1, .int .i64 p.2] 35)).alloc (.cells #[.int .i64 (j : Int), .string s] 51)).drew := ⟨_, rfl⟩
        rw [← hw2]
        have b9 : Blk w2 (w1.heap.size + 1) 51 #[.int .i64 (j : Int), .string s] := by rw [hw2]; exact (Blk.new _ 51 _ _ (by simp)).drew
        have b10 : Blk w2 w1.heap.size 35 #[.int .i64 p.1, .int .i64 p.2] := by rw [hw2]; exact ((Blk.new _ 35 _ _ rfl).alloc _).drew
        have kk : Keeps (fun _ => False) w1 w2 := by rw [hw2]; exact (((Keeps.refl _ w1).alloc _).alloc _).drew
        have d2 := D.out.keeps kk (fun h => h) (fun h => h) (fun _ _ _ h => h)
        have D2 := Lib.hid d2
        have KK := Lib.hid kk
        have e0 := b9.cell 0
        have e1 := b9.cell 1
        have f0 := b10.cell 0
        have f1 := b10.cell 1
        have g1 := d2.box.cell 1
        simp at e0 e1 f0 f1 g1
        have hr2 := fun q => (d2.map.drewN q).look hi hs
        unfold kval at hr2
        have hz : isInt (M j s) ∧ isInt (M j s + a) := by unfold isInt; omega
        clear hw2 b9 b10 d2 kk
        go_wp2_with fail
        go_quiet ((go_at_call 20; exact Calls.quiet_of_same (add_any _ _ hz.1 ha hz.2 _)))
        rcases (show p.1 < a ∨ (¬ p.1 < a ∧ p.2 < M j s + a) ∨ (¬ p.1 < a ∧ ¬ p.2 < M j s + a) by omega) with h3 | ⟨h3, h4⟩ | ⟨h3, h4⟩
        · go_wp2_with fail
          go_ret
          have e := E.out
          rw [if_pos (.inl h3)] at e
          rw [askM_no (by rw [e]; decide), e]
          have hk' := KK.out.mono (S' := fun b => b = m) (fun _ _ h => h.elim)
          exact ⟨rfl, ⟨D2.out.box, D2.out.rows, D2.out.far, (by obtain ⟨D, h1, h2⟩ := D2.out.map; exact ⟨D, h1.mono (Nat.le_succ _), h2⟩), D2.out.good, D2.out.few, D2.out.had⟩, hk'.drewN nq⟩
        · go_wp2_with fail
          go_ret
          have e := E.out
          rw [if_pos (.inr h4)] at e
          rw [askM_no (by rw [e]; decide), e]
          have hk' := KK.out.mono (S' := fun b => b = m) (fun _ _ h => h.elim)
          exact ⟨rfl, ⟨D2.out.box, D2.out.rows, D2.out.far, (by obtain ⟨D, h1, h2⟩ := D2.out.map; exact ⟨D, h1.mono (Nat.le_succ _), h2⟩), D2.out.good, D2.out.few, D2.out.had⟩, hk'.drewN nq⟩
        · go_wp2_with fail
          obtain ⟨w3, hp3, hm3, hg3⟩ := (D2.out.map.drewN (nq + 1)).put hi hs hz.2 (by omega)
          unfold kval at hp3
          have HM3 := Lib.hid hm3
          have HG3 := Lib.hid hg3
          clear hm3 hg3
          go_region
          go_wp2_with fail
          go_ret
          have e := E.out
          rw [if_neg (by omega)] at e
          rw [askM_yes e, e]
          have hk' : Keeps (fun b => b = m) w1 w3 := ((KK.out.mono (S' := fun b => b = m) (fun _ _ h => h.elim)).drewN (nq + 1)).grown HG3.out (fun b hb _ => by injection hb with hb; exact hb.symm)
          have k3 : Keeps (fun b => b = m) (w2.drewN (nq + 1)) w3 := (Keeps.refl _ _).grown HG3.out (fun b hb _ => by injection hb with hb; exact hb.symm)
          have d3 : Desk (w2.drewN (nq + 1)) g m k (some ad) n c ls M := D2.out.keeps ((Keeps.refl (fun _ => False) w2).drewN (nq + 1)) (fun h => h) (fun h => h) (fun _ _ _ h => h)
          refine ⟨rfl, ⟨d3.box.keeps k3 (fun h => d3.ne h.symm), d3.rows.keeps k3 (fun ad e h0 h => d3.farm ad e h0 h), d3.far, HM3.out, d3.good, d3.few, fun i' s' => ?_⟩, hk'⟩
          unfold upd
          split
          · omega
          · exact d3.had i' _
    · have e : askE ls M i s a = 100 := by
        unfold askE
        rw [if_neg (by rw [HN.out]; exact h1), if_pos h2]
      rw [askM_no (by rw [e]; decide), e]
      have hd : decide (0 ≤ a ∧ a ≤ 999999999999) = false := by simpa using h2
      clear d
      go_enter Try.func11, Try.ntmps11
      go_wp2_with (go_at_call 18; refine (may_any _ _).mono ?_
                   rintro e w1 ⟨rfl, hw1⟩
                   subst hw1)
      go_ret
      exact ⟨rfl, MORE.out D.out, Keeps.refl _ _⟩
end Go.Proofs.Ytpkmdhplbpejhaa
