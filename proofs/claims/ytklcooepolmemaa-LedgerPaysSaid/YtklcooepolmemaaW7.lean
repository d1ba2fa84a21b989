/- A payment: walked. -/
import Derived.Test.YtklcooepolmemaaW6
import Derived.Laws.ResultCell
namespace Go.Proofs.Ytklcooepolmemaa
open Go.RowKit Mem
/-- An amount moved from one account to another. -/
def mv (f t a : Int) : List (Int × Int) := if a = 0 then [] else [(f, -a), (t, a)]
/-- What a rate is. -/
structure RateT where
  p : Int
  l : Int
  m : Int
def inTwo (n a i : Int) : Prop := 0 ≤ a ∧ a < n ∧ 0 ≤ i ∧ i < n
instance (n a i : Int) : Decidable (inTwo n a i) := by unfold inTwo; infer_instance
def feeE (r : RateT) (x : Int) : Int := (Lem.feeAll r.p r.l r.m x).2
def feeN (r : RateT) (x : Int) : Int := (Lem.feeAll r.p r.l r.m x).1
def payE (n : Nat) (r1 r2 : RateT) (a i x : Int) : Int := if ¬ inTwo n a i then 121 else if feeE r1 x ≠ 0 then feeE r1 x else feeE r2 x
def payL (n : Nat) (r1 r2 : RateT) (a i x : Int) : List (Int × Int) := if payE n r1 r2 a i x = 0 then mv i a x ++ mv a i (feeN r1 x) ++ mv a n (feeN r2 x) else []
theorem app_two {w w' : World} {t : TypeId} {cs : Array Value} {v : Value} {B g : Nat} (hg : B ≤ g) {p : Addr} {u : Value} (hp : p.block = g) (gr : (w.alloc (.cells cs t)).grownBy w' v.ownBlock) (hv : ∀ q, v.ownBlock = some q → B ≤ q) : Keeps (fun b => B ≤ b) w (w'.setCell p u) :=
  ((Keeps.grown (S := fun b => B ≤ b) ((Keeps.refl _ w).alloc _) gr (fun k hk _ => hv k hk))).setCell _ _ (fun _ => by rw [hp]; exact hg)
set_option maxHeartbeats 3200000 in
theorem move_any (f t a : Int) (ha : -9223372036854775807 ≤ a ∧ a ≤ 9223372036854775807) (g B : Nat) (A : Option Addr) (n c : Nat) (l : List (Int × Int)) (w : World) (hg : Blk w g 22 #[.slice A n c]) (ho : Own entry w B 30 (.slice A n c) l) (hgB : B ≤ g) (hl : l.length ≤ 100) :
    Calls Try.prog 29 #[.int .i64 f, .int .i64 t, .int .i64 a, .pointer (some ⟨g, 0, none⟩)] w fun e w' => ∃ A' n' c', e = .returned (.tuple #[]) ∧ Blk w' g 22 #[.slice A' n' c'] ∧ Own entry w' B 30 (.slice A' n' c') (l ++ mv f t a) ∧ Keeps (fun b => B ≤ b) w w' := by
  by_cases hz : a = 0
  · have e : l ++ mv f t a = l := by unfold mv; rw [if_pos hz, List.append_nil]
    rw [e]
    subst hz
    have HG := Lib.hid hg
    have HO := Lib.hid ho
    clear e hg ho
    go_enter Try.func29, Try.ntmps29
    go_wp2_with fail
    refine bodyPost_ret (results_none rfl _ _ _) rfl ?_
    exact ⟨_, _, _, rfl, HG.out, HO.out, Keeps.refl _ _⟩
  · have e : l ++ mv f t a = l ++ [(f, -a), (t, a)] := by unfold mv; rw [if_neg hz]
    rw [e]
    have tz : (a == 0) = false := by simpa using hz
    have hn := ho.len_eq rfl
    have hgl := hg.lt
    have c0 := hg.cell 0
    simp at c0
    have HG := Lib.hid hg
    have HO := Lib.hid ho
    have HN := Lib.hid hn
    have hob : ∀ q, (Value.slice A n c).ownBlock = some q → B ≤ q := fun q hq => ho.base_le hq
    have hon := ho.blk_ne hg (by decide)
    have HOB := Lib.hid hob
    have HON := Lib.hid hon
    clear e hg ho hn hob hon
    go_enter Try.func29, Try.ntmps29
    go_wp2_with (at_builtin; refine wp_append elem30 (by rfl) (.tmp 9) (.tmp 17) (by rfl) B (.slice A n c) l [(f, -a), (t, a)] (some ⟨w.heap.size, 0, none⟩) 2 2 rfl rfl (HO.out.alloc _) ((Blk.new w 30 _ _ rfl).reads _ rfl rfl) (by omega) (by simp [maxLen]; omega) (by simp; omega) ?_
                 intro v3 w3 own3 gr3 at3
                 have b3 := (HG.out.alloc (.cells #[.int .i64 f, .int .i64 (-a), .int .i64 t, .int .i64 a] 30)).grown gr3 (fun h => HON.out h.symm)
                 obtain ⟨A3, c3, hv3, _⟩ := Own.val (n := l.length + 2) own3 (by simp)
                 rw [hv3]
                 rw [hv3] at own3
                 have f3 := b3.frozen 0
                 have q3 := b3.cell 0
                 simp at q3
                 have B3 := Lib.hid b3
                 have O3 := Lib.hid own3
                 have GR := Lib.hid gr3
                 have hgl3 := b3.lt
                 clear own3 gr3 at3 hv3 b3)
    go_end0
    exact ⟨_, _, _, rfl, B3.out.set 0 _, O3.out.setCell ⟨g, 0, none⟩ _ (fun q hq e => by rw [show q = g from e] at hq; exact O3.out.blk_ne B3.out (by decide) hq), app_two hgB rfl GR.out HOB.out⟩
theorem two_cases (n a i : Int) : (inTwo n a i ∧ decide (a < 0) = false ∧ decide (n ≤ a) = false ∧ decide (i < 0) = false ∧ decide (n ≤ i) = false) ∨ (¬ inTwo n a i ∧ (decide (a < 0) = true ∨ (decide (a < 0) = false ∧ decide (n ≤ a) = true) ∨ (decide (a < 0) = false ∧ decide (n ≤ a) = false ∧ decide (i < 0) = true) ∨ (decide (a < 0) = false ∧ decide (n ≤ a) = false ∧ decide (i < 0) = false ∧ decide (n ≤ i) = true))) := by
  unfold inTwo
  simp only [decide_eq_true_eq, decide_eq_false_iff_not]
  omega
theorem payE_out {n : Nat} {r1 r2 : RateT} {a i x : Int} (h : ¬ inTwo n a i) : payE n r1 r2 a i x = 121 ∧ payL n r1 r2 a i x = [] := by
  have : payE n r1 r2 a i x = 121 := if_pos h
  exact ⟨this, by unfold payL; rw [this]; rfl⟩
theorem payE_one {n : Nat} {r1 r2 : RateT} {a i x : Int} (h : inTwo n a i) (h1 : feeE r1 x ≠ 0) : payE n r1 r2 a i x = feeE r1 x ∧ payL n r1 r2 a i x = [] := by
  have : payE n r1 r2 a i x = feeE r1 x := by unfold payE; rw [if_neg (fun h' => h' h), if_pos h1]
  exact ⟨this, by unfold payL; rw [this, if_neg h1]⟩
theorem payE_two {n : Nat} {r1 r2 : RateT} {a i x : Int} (h : inTwo n a i) (h1 : feeE r1 x = 0) : payE n r1 r2 a i x = feeE r2 x := by unfold payE; rw [if_neg (fun h' => h' h), if_neg (fun h' => h' h1)]
theorem payL_no {n : Nat} {r1 r2 : RateT} {a i x : Int} (h : payE n r1 r2 a i x ≠ 0) : payL n r1 r2 a i x = [] := if_neg h
theorem payL_yes {n : Nat} {r1 r2 : RateT} {a i x : Int} (h : payE n r1 r2 a i x = 0) : payL n r1 r2 a i x = mv i a x ++ mv a i (feeN r1 x) ++ mv a n (feeN r2 x) := if_pos h
theorem mv_len (f t a : Int) : (mv f t a).length ≤ 2 := by unfold mv; split <;> simp
/-- What a configuration's value is. -/
def cfgV (A1 : Option Addr) (n c : Nat) (A2 : Option Addr) (n2 c2 : Nat) (r1 r2 : RateT) (u1 u2 u3 : Int) : Value := .agg #[.slice A1 n c, .slice A2 n2 c2, .int .i64 r1.p, .int .i64 r1.l, .int .i64 r1.m, .int .i64 r2.p, .int .i64 r2.l, .int .i64 r2.m, .int .i64 u1, .int .i64 u2, .int .i64 u3]
set_option maxHeartbeats 6400000 in
theorem payment_any (A1 : Option Addr) (n c : Nat) (A2 : Option Addr) (n2 c2 : Nat) (r1 r2 : RateT) (u1 u2 u3 a i x : Int) (w : World) (_hn : n ≤ 9223372036854775807) :
    Calls Try.prog 17 #[cfgV A1 n c A2 n2 c2 r1 r2 u1 u2 u3, .int .i64 a, .int .i64 i, .int .i64 x] w fun e w' => ∃ A' n' c', e = .returned (.tuple #[.slice A' n' c', .int .i64 (payE n r1 r2 a i x)]) ∧ Own entry w' w.heap.size 30 (.slice A' n' c') (payL n r1 r2 a i x) ∧ Keeps (fun _ => False) w w' := by
  rcases two_cases n a i with ⟨h, t1, t2, t3, t4⟩ | ⟨h, t1 | ⟨t1, t2⟩ | ⟨t1, t2, t3⟩ | ⟨t1, t2, t3, t4⟩⟩
  · obtain ⟨E1, hE1⟩ : ∃ E, E = feeE r1 x := ⟨_, rfl⟩
    obtain ⟨E2, hE2⟩ : ∃ E, E = feeE r2 x := ⟨_, rfl⟩
    obtain ⟨N1, hN1⟩ : ∃ N, N = feeN r1 x := ⟨_, rfl⟩
    obtain ⟨N2, hN2⟩ : ∃ N, N = feeN r2 x := ⟨_, rfl⟩
    have f1 := fee_any r1.p r1.l r1.m x
    have f2 := fee_any r2.p r2.l r2.m x
    have F1 : ∀ w, Calls Try.prog 28 #[.agg #[.int .i64 r1.p, .int .i64 r1.l, .int .i64 r1.m], .int .i64 x] w fun e w' => e = .returned (.tuple #[.int .i64 N1, .int .i64 E1]) ∧ Keeps (fun _ => False) w w' := by rw [hN1, hE1]; exact f1
    have F2 : ∀ w, Calls Try.prog 28 #[.agg #[.int .i64 r2.p, .int .i64 r2.l, .int .i64 r2.m], .int .i64 x] w fun e w' => e = .returned (.tuple #[.int .i64 N2, .int .i64 E2]) ∧ Keeps (fun _ => False) w w' := by rw [hN2, hE2]; exact f2
    have HF1 := Lib.hid F1
    have HF2 := Lib.hid F2
    clear f1 f2 F1 F2
    have bb : Blk (w.alloc (.cells #[.slice A1 n c, .slice A2 n2 c2, .int .i64 r1.p, .int .i64 r1.l, .int .i64 r1.m, .int .i64 r2.p, .int .i64 r2.l, .int .i64 r2.m, .int .i64 u1, .int .i64 u2, .int .i64 u3] 49)) w.heap.size 49 #[.slice A1 n c, .slice A2 n2 c2, .int .i64 r1.p, .int .i64 r1.l, .int .i64 r1.m, .int .i64 r2.p, .int .i64 r2.l, .int .i64 r2.m, .int .i64 u1, .int .i64 u2, .int .i64 u3] := Blk.new w 49 _ _ rfl
    have BB := Lib.hid bb
    clear bb
    by_cases z1 : E1 = 0
    · have s1 : feeE r1 x = 0 := by rw [← hE1, z1]
      have hp := payE_two (r2 := r2) h s1
      rw [← hE2] at hp
      by_cases z2 : E2 = 0
      · have b1 := feeAll_zero (p := r1.p) (l := r1.l) (m := r1.m) (a := x) s1
        have b2 := feeAll_zero (p := r2.p) (l := r2.l) (m := r2.m) (a := x) (show feeE r2 x = 0 by rw [← hE2, z2])
        have b3 : 0 ≤ N1 ∧ N1 ≤ x := by rw [hN1]; exact b1.2.2
        have b4 : 0 ≤ N2 ∧ N2 ≤ x := by rw [hN2]; exact b2.2.2
        have hx0 := b1.1
        have hx1 := b1.2.1
        rw [z2] at hp
        have hl := payL_yes hp
        rw [← hN1, ← hN2] at hl
        subst z1 z2
        unfold inTwo at h
        have HP := Lib.hid hp
        have HL := Lib.hid hl
        have m0 : True := trivial
        have m1 : True := trivial
        have m2 : True := trivial
        have m3 : True := trivial
        clear hp hl b1 b2 s1 hE1 hE2 hN1 hN2
        unfold cfgV
        go_enter Try.func17, Try.ntmps17
        go_wp2_with (first
          | (go_at_call 28; clear m0; refine (HF1.out _).mono ?_
             rintro e w2 ⟨rfl, k2⟩
             have b2 := BB.out.keeps k2 (fun h => h)
             have c5 := b2.cell 5
             have c6 := b2.cell 6
             have c7 := b2.cell 7
             simp at c5 c6 c7
             have K2 := Lib.hid (((Keeps.refl (fun _ => False) w).alloc _).trans k2 (fun _ _ h => h))
             clear k2 b2)
          | (go_at_call 28; clear m1; refine (HF2.out _).mono ?_
             rintro e w3 ⟨rfl, k3⟩
             have K3 := Lib.hid (K2.out.trans k3 (fun _ _ h => h))
             have hz3 := K3.out.size
             clear k3)
          | (go_at_call 29; clear m2; refine (move_any i a x (by omega) w3.heap.size w.heap.size none 0 0 [] _ (Blk.new w3 22 _ _ rfl) (Own.nil _ _ _ _) (by omega) (by simp)).mono ?_
             rintro e w4 ⟨A4, n4, c4, rfl, b4, o4, k4⟩
             rw [List.nil_append] at o4
             have B4 := Lib.hid b4
             have O4 := Lib.hid o4
             have K4 := Lib.hid (((K3.out.mono (S' := fun b => w.heap.size ≤ b) (fun _ _ h => h.elim)).alloc _).trans k4 (fun _ _ h => h))
             have L4 := Lib.hid (mv_len i a x)
             clear b4 o4 k4)
          | (go_at_call 29; clear m3; refine (move_any a i N1 (by omega) w3.heap.size w.heap.size A4 n4 c4 (mv i a x) _ B4.out O4.out (by omega) (by have := L4.out; omega)).mono ?_
             rintro e w5 ⟨A5, n5, c5, rfl, b5, o5, k5⟩
             have B5 := Lib.hid b5
             have O5 := Lib.hid o5
             have K5 := Lib.hid (K4.out.trans k5 (fun _ _ h => h))
             have L5 := Lib.hid (mv_len a i N1)
             clear b5 o5 k5)
          | (go_at_call 29; refine (move_any a n N2 (by omega) w3.heap.size w.heap.size A5 n5 c5 (mv i a x ++ mv a i N1) _ B5.out O5.out (by omega) (by have := L4.out; have := L5.out; simp; omega)).mono ?_
             rintro e w6 ⟨A6, n6, c6, rfl, b6, o6, k6⟩
             have g0 := b6.cell 0
             simp at g0
             have O6 := Lib.hid o6
             have K6 := Lib.hid (K5.out.trans k6 (fun _ _ h => h))
             clear b6 o6 k6))
        go_ret2
        rw [HP.out, HL.out]
        exact ⟨A6, n6, c6, rfl, O6.out, K6.out.mono (fun b hb h => by omega)⟩
      · have ht : (E2 == 0) = false := by simpa using z2
        have hl := payL_no (r1 := r1) (r2 := r2) (a := a) (i := i) (x := x) (n := n) (by rw [hp]; exact z2)
        subst z1
        have HP := Lib.hid hp
        have HL := Lib.hid hl
        have m0 : True := trivial
        clear hp hl s1 hE1 hE2 hN1 hN2 z2 h
        unfold cfgV
        go_enter Try.func17, Try.ntmps17
        go_wp2_with (first
          | (go_at_call 28; clear m0; refine (HF1.out _).mono ?_
             rintro e w2 ⟨rfl, k2⟩
             have b2 := BB.out.keeps k2 (fun h => h)
             have c5 := b2.cell 5
             have c6 := b2.cell 6
             have c7 := b2.cell 7
             simp at c5 c6 c7
             have K2 := Lib.hid (((Keeps.refl (fun _ => False) w).alloc _).trans k2 (fun _ _ h => h))
             clear k2 b2)
          | (go_at_call 28; refine (HF2.out _).mono ?_
             rintro e w3 ⟨rfl, k3⟩
             have K3 := Lib.hid (K2.out.trans k3 (fun _ _ h => h))
             clear k3))
        go_ret2
        rw [HP.out, HL.out]
        exact ⟨none, 0, 0, rfl, Own.nil _ _ _ _, K3.out⟩
    · have ht : (E1 == 0) = false := by simpa using z1
      have hp := payE_one (r2 := r2) (n := n) (a := a) (i := i) h (by rw [← hE1]; exact z1)
      rw [← hE1] at hp
      have HP := Lib.hid hp
      clear hp hE1 hE2 hN1 hN2 z1 h
      unfold cfgV
      go_enter Try.func17, Try.ntmps17
      go_wp2_with (go_at_call 28; refine (HF1.out _).mono ?_
                   rintro e w2 ⟨rfl, k2⟩
                   have K2 := Lib.hid (((Keeps.refl (fun _ => False) w).alloc _).trans k2 (fun _ _ h => h))
                   clear k2)
      go_ret2
      rw [HP.out.1, HP.out.2]
      exact ⟨none, 0, 0, rfl, Own.nil _ _ _ _, K2.out⟩
  all_goals
    have HP := Lib.hid (payE_out (r1 := r1) (r2 := r2) (x := x) h)
    clear h
    unfold cfgV
    go_enter Try.func17, Try.ntmps17
    go_wp2_with fail
    go_ret2
    rw [HP.out.1, HP.out.2]
    exact ⟨none, 0, 0, rfl, Own.nil _ _ _ _, (Keeps.refl (fun _ => False) w).alloc _⟩
end Go.Proofs.Ytklcooepolmemaa
