/- SettleJoins, walked. -/
import Derived.Test.YtbobmilbcbileaaShown
namespace Go.Proofs.Ytbobmilbcbileaa
open Go.RowKit Mem
theorem elem34 : Elem Try.prog 35 34 entry 16 := Elem.of Try.underlying35 (z := .agg #[.int .i64 0, .int .i64 0]) (by kernel_rfl) rfl
theorem countE_zero {T : List T6} {es : List (Int × Int)} : countE T es = 0 ↔ inAll T.length es ∧ ∃ T', foldT T es = some T' := by
  unfold countE
  by_cases h : inAll T.length es
  · rw [if_neg (fun h' => h' h)]
    cases hf : foldT T es with
    | none => simp
    | some T' => simp [h]
  · rw [if_pos h]
    simp [h]
theorem countT_some {T T' : List T6} {es : List (Int × Int)} (h : inAll T.length es) (hf : foldT T es = some T') : countT T es = T' := by
  unfold countT
  rw [if_neg (fun h' => h' h), hf]
  rfl
theorem countT_length (T : List T6) (es : List (Int × Int)) : (countT T es).length = T.length := by
  unfold countT
  split
  · rfl
  · cases hf : foldT T es with
    | none => rfl
    | some T' => exact foldT_length hf
theorem inAll_append {n : Nat} {a b : List (Int × Int)} : inAll n (a ++ b) ↔ inAll n a ∧ inAll n b := by
  unfold inAll
  constructor
  · intro h
    exact ⟨fun e he => h e (List.mem_append_left _ he), fun e he => h e (List.mem_append_right _ he)⟩
  · intro h e he
    rcases List.mem_append.1 he with h' | h'
    · exact h.1 e h'
    · exact h.2 e h'
/-- Two rows, or one. -/
theorem count_join (T : List T6) (a b : List (Int × Int)) : (countE T a = 0 ∧ countE (countT T a) b = 0 ↔ countE T (a ++ b) = 0) ∧ (countE T (a ++ b) = 0 → countT T (a ++ b) = countT (countT T a) b) := by
  have key : countE T (a ++ b) = 0 → (countE T a = 0 ∧ countE (countT T a) b = 0) ∧ countT T (a ++ b) = countT (countT T a) b := by
    intro h
    obtain ⟨h1, T', hf⟩ := countE_zero.1 h
    obtain ⟨ha, hb⟩ := inAll_append.1 h1
    rw [foldT_append] at hf
    cases hfa : foldT T a with
    | none => rw [hfa] at hf; cases hf
    | some T1 =>
      rw [hfa] at hf
      have hf' : foldT T1 b = some T' := hf
      have e1 := countT_some ha hfa
      have hl : T1.length = T.length := foldT_length hfa
      refine ⟨⟨countE_zero.2 ⟨ha, T1, hfa⟩, ?_⟩, ?_⟩
      · rw [e1]
        exact countE_zero.2 ⟨by rw [hl]; exact hb, T', hf'⟩
      · rw [e1, countT_some (by rw [hl]; exact hb) hf', countT_some h1 (T' := T') (by rw [foldT_append, hfa]; exact hf')]
  refine ⟨⟨fun ⟨h1, h2⟩ => ?_, fun h => (key h).1⟩, fun h => (key h).2⟩
  obtain ⟨ha, T1, hfa⟩ := countE_zero.1 h1
  have e1 := countT_some ha hfa
  rw [e1] at h2
  obtain ⟨hb, T', hfb⟩ := countE_zero.1 h2
  rw [foldT_length hfa] at hb
  exact countE_zero.2 ⟨inAll_append.2 ⟨ha, hb⟩, T', by rw [foldT_append, hfa]; exact hfb⟩
theorem own_reads {α : Type} {E : Enc α} {w : World} {base : Nat} {e : TypeId} {A : Option Addr} {n c : Nat} {l : List α} (h : Own E w base e (.slice A n c) l) : Reads E w A n l := by
  obtain ⟨_, _, er, hr, _⟩ := h.slice
  injection er with e1 e2 e3
  rw [← e1, ← e2] at hr
  exact hr
set_option maxRecDepth 10000 in
set_option maxHeartbeats 3200000 in
theorem joins_any (a b : List (Int × Int)) (A0 : Option Addr) (n0 c0 : Nat) (A1 : Option Addr) (n1 c1 : Nat) (w : World) (h0 : Reads entry w A0 n0 a) (h1 : Reads entry w A1 n1 b) (ok0 : ∀ e ∈ a, okE e) (ok1 : ∀ e ∈ b, okE e) (hn : n0 + n1 ≤ 1048576) :
    Calls Try.prog 4 #[.slice A0 n0 c0, .slice A1 n1 c1] w fun e w' => e = .returned (.bool true) ∧ Below w.heap.size w w' := by
  have la := h0.1
  have lb := h1.1
  have R0 := Lib.hid h0
  have R1 := Lib.hid h1
  have OK0 := Lib.hid ok0
  have OK1 := Lib.hid ok1
  have LA := Lib.hid la
  have LB := Lib.hid lb
  have hj := count_join (zeros 4) a b
  obtain ⟨er1, he1⟩ : ∃ e, e = countE (zeros 4) a := ⟨_, rfl⟩
  obtain ⟨er2, he2⟩ : ∃ e, e = countE (countT (zeros 4) a) b := ⟨_, rfl⟩
  obtain ⟨er3, he3⟩ : ∃ e, e = countE (zeros 4) (a ++ b) := ⟨_, rfl⟩
  have ER1 := Lib.hid he1
  have ER2 := Lib.hid he2
  have ER3 := Lib.hid he3
  rw [← he1, ← he2, ← he3] at hj
  have HJ := Lib.hid hj.2
  have hcase : (er1 = 0 ∧ er2 = 0 ∧ er3 = 0) ∨ (er1 ≠ 0 ∧ er3 ≠ 0) ∨ (er1 = 0 ∧ er2 ≠ 0 ∧ er3 ≠ 0) := by
    have := hj.1
    omega
  clear h0 h1 ok0 ok1 la lb hj he1 he2 he3
  rcases hcase with ⟨rfl, rfl, rfl⟩ | ⟨x1, x3⟩ | ⟨rfl, x2, x3⟩
  · have mo : True := trivial
    have m0 : True := trivial
    have m1 : True := trivial
    have m2 : True := trivial
    have m3 : True := trivial
    have m4 : True := trivial
    go_enter Try.func4, Try.ntmps4
    go_wp2_with (first
      | (go_at_call 7; refine (shown_any w).mono ?_
         rintro e w1 ⟨rfl, k1⟩
         have K1 := Lib.hid k1
         clear k1)
      | (go_at_call 8; clear m0; refine (new_any 4 w1 (by omega) (by omega)).mono ?_
         rintro e w2 ⟨g1, A2, c2, rfl, d2, hg1, k2⟩
         have D2 := Lib.hid d2
         have K2 := Lib.hid (K1.out.trans k2 (fun _ _ h => h))
         have hgl := d2.box.lt
         clear d2 k2)
      | (go_at_call 8; clear m1; refine (new_any 4 w2 (by omega) (by omega)).mono ?_
         rintro e w3 ⟨g2, A3, c3, rfl, d3, hg2, k3⟩
         have D3 := Lib.hid d3
         have D3x := Lib.hid (D2.out.keep k3)
         have K3 := Lib.hid (K2.out.trans k3 (fun _ _ h => h))
         have hgne : g2 ≠ g1 := by omega
         clear d3 k3)
      | (go_at_call 10; clear m2; refine (count_any D3x.out a A0 n0 c0 (R0.out.keeps K3.out (fun _ _ _ h => h)) OK0.out (by omega)).mono ?_
         rintro e w4 ⟨rfl, ⟨A4, c4, d4⟩, k4⟩
         rw [← ER1.out]
         have hz1 := K1.out.size
         have hz3 := K3.out.size
         have D4 := Lib.hid d4
         have D4y := Lib.hid (D3.out.keepg D3x.out.box hgne k4)
         have K4 := Lib.hid ((K3.out.mono (S' := fun b => b = g1) (fun _ _ h => h.elim)).trans k4 (fun _ _ h => h))
         clear d4 k4)
      | (go_at_call 10; clear m3; refine (count_any D4.out b A1 n1 c1 (R1.out.keeps K4.out (fun ad e h0 h => by have := R1.out.lt h0 e; omega)) OK1.out (by omega)).mono ?_
         rintro e w5 ⟨rfl, ⟨A5, c5, d5⟩, k5⟩
         rw [← ER2.out]
         have D5 := Lib.hid d5
         have D5y := Lib.hid (D4y.out.keepg D4.out.box hgne k5)
         have K5 := Lib.hid (K4.out.trans k5 (fun _ _ h => h))
         clear d5 k5)
      | (at_builtin; clear m4; refine wp_append elem34 (by rfl) (.tmp 48) (.tmp 49) (by rfl) w5.heap.size (.slice (some ⟨w5.heap.size, 0, none⟩) 0 0) [] a A0 n0 c0 rfl rfl (own_empty _ _ _ _ _ rfl (Nat.le_refl _)) ((R0.out.keeps K5.out (fun ad e h0 h => by have := R0.out.lt h0 e; omega)).alloc _) (by simp; omega) (by simp [maxLen]; omega) (by simp) ?_
         intro v6 w6 own6 gr6 at6
         rw [List.nil_append] at own6
         obtain ⟨A6, c6, hv6, r6⟩ := Own.val own6 LA.out
         rw [hv6]
         rw [hv6] at own6
         have k6 := app_empty w5 w5.heap.size rfl gr6
         have O6 := Lib.hid own6
         have D6 := Lib.hid (D5.out.keep k6)
         have D6y := Lib.hid (D5y.out.keep k6)
         have K6 := Lib.hid (K5.out.trans k6 (fun _ _ h => h.elim))
         have hz56 := k6.size
         clear own6 gr6 at6 hv6 r6 k6)
      | (at_builtin; refine wp_append elem34 (by rfl) (.tmp 50) (.tmp 51) (by rfl) w5.heap.size (.slice A6 n0 c6) a b A1 n1 c1 rfl rfl O6.out (R1.out.keeps K6.out (fun ad e h0 h => by have := R1.out.lt h0 e; omega)) (by have := LA.out; omega) (by have := LA.out; simp [maxLen]; omega) hz56 ?_
         intro v7 w7 own7 gr7 at7
         obtain ⟨A7, c7, hv7, r7⟩ := Own.val own7 (n := n0 + n1) (by rw [List.length_append, LA.out, LB.out])
         rw [hv7]
         have k7 : Keeps (fun b => (Value.slice A6 n0 c6).ownBlock = some b) w6 w7 := (Keeps.refl _ w6).grown gr7 (fun b hb _ => hb)
         have nb : ∀ {α : Type} {E : Enc α} {e : TypeId} {v : Value} {l : List α}, Own E w5 0 e v l → ∀ q, v.ownBlock = some q → ¬ (Value.slice A6 n0 c6).ownBlock = some q := fun ho q hq h => by
           have := O6.out.base_le h
           have := ho.lt hq
           omega
         have keep : ∀ {g : Nat} {A : Option Addr} {c : Nat} {T : List T6}, g < w5.heap.size → S5 w5 g 1 A 4 c 0 none 0 0 false T [] → S5 w6 g 1 A 4 c 0 none 0 0 false T [] → S5 w7 g 1 A 4 c 0 none 0 0 false T [] := fun hg d5 d =>
           ⟨d.box.keeps k7 (fun h => by have := O6.out.base_le h; omega), d.row.keeps k7 (nb d5.row), d.last.keeps k7 (nb d5.last), d.ts, d.few, d.few2⟩
         have D7 := Lib.hid (keep D5.out.box.lt D5.out D6.out)
         have D7y := Lib.hid (keep D5y.out.box.lt D5y.out D6y.out)
         have K7 := Lib.hid (K6.out.trans k7 (fun b hb h => by have := O6.out.base_le h; have := K5.out.size; omega))
         have R7 := Lib.hid r7
         clear own7 gr7 at7 hv7 r7 k7 nb keep)
      | (go_at_call 10; refine (count_any D7y.out (a ++ b) A7 (n0 + n1) c7 R7.out (fun e he => (List.mem_append.1 he).elim (OK0.out e) (OK1.out e)) (by omega)).mono ?_
         rintro e w8 ⟨rfl, ⟨A8, c8, d8⟩, k8⟩
         rw [← ER3.out]
         have D8 := Lib.hid (D7.out.keepg D7y.out.box hgne.symm k8)
         have D8y := Lib.hid d8
         have K8 := Lib.hid ((K7.out.mono (S' := fun b => b = g1 ∨ b = g2) (fun _ _ h => .inl h)).trans k8 (fun _ _ h => .inr h))
         clear d8 k8)
      | (go_at_call 13; clear mo; refine (open_any D8.out).mono ?_
         rintro e w9 ⟨A9, c9, rfl, o9, k9⟩
         have O9 := Lib.hid o9
         have D9y := Lib.hid (D8y.out.keep k9)
         have K9 := Lib.hid (K8.out.trans k9 (fun _ _ h => h.elim))
         clear o9 k9)
      | (go_at_call 13; refine (open_any D9y.out).mono ?_
         rintro e w10 ⟨A10, c10, rfl, o10, k10⟩
         rw [HJ.out (by first | trivial | rfl)] at o10
         have O10 := Lib.hid o10
         have O9b := Lib.hid (O9.out.keeps k10 (fun _ _ h => h))
         have K10 := Lib.hid (K9.out.trans k10 (fun _ _ h => h.elim))
         clear o10 k10)
      | (go_at_call 12; refine (same_yes 1 _ A9 4 c9 A10 c10 w10 (own_reads O9b.out) (own_reads O10.out) (by omega)).mono ?_
         rintro e w11 ⟨rfl, k11⟩
         have K11 := Lib.hid (K10.out.trans k11 (fun _ _ h => h.elim))
         clear k11))
    go_ret
    have hz1' := K1.out.size
    exact ⟨rfl, K11.out.below (Nat.le_refl _) (fun b hb h => by omega)⟩
  · have t1 : (er1 == 0) = false := by simpa using x1
    have t3 : (er3 == 0) = false := by simpa using x3
    have t1' : (er1 != 0) = true := by simpa using x1
    have t3' : (er3 != 0) = true := by simpa using x3
    have m0 : True := trivial
    have m1 : True := trivial
    have m2 : True := trivial
    have m3 : True := trivial
    have m4 : True := trivial
    go_enter Try.func4, Try.ntmps4
    go_wp2_with (first
      | (go_at_call 7; refine (shown_any w).mono ?_
         rintro e w1 ⟨rfl, k1⟩
         have K1 := Lib.hid k1
         clear k1)
      | (go_at_call 8; clear m0; refine (new_any 4 w1 (by omega) (by omega)).mono ?_
         rintro e w2 ⟨g1, A2, c2, rfl, d2, hg1, k2⟩
         have D2 := Lib.hid d2
         have K2 := Lib.hid (K1.out.trans k2 (fun _ _ h => h))
         have hgl := d2.box.lt
         clear d2 k2)
      | (go_at_call 8; clear m1; refine (new_any 4 w2 (by omega) (by omega)).mono ?_
         rintro e w3 ⟨g2, A3, c3, rfl, d3, hg2, k3⟩
         have D3 := Lib.hid d3
         have D3x := Lib.hid (D2.out.keep k3)
         have K3 := Lib.hid (K2.out.trans k3 (fun _ _ h => h))
         have hgne : g2 ≠ g1 := by omega
         clear d3 k3)
      | (go_at_call 10; clear m2; refine (count_any D3x.out a A0 n0 c0 (R0.out.keeps K3.out (fun _ _ _ h => h)) OK0.out (by omega)).mono ?_
         rintro e w4 ⟨rfl, ⟨A4, c4, d4⟩, k4⟩
         rw [← ER1.out]
         have hz1 := K1.out.size
         have hz3 := K3.out.size
         have D4 := Lib.hid d4
         have D4y := Lib.hid (D3.out.keepg D3x.out.box hgne k4)
         have K4 := Lib.hid ((K3.out.mono (S' := fun b => b = g1) (fun _ _ h => h.elim)).trans k4 (fun _ _ h => h))
         clear d4 k4)
      | (go_at_call 10; clear m3; refine (count_any D4.out b A1 n1 c1 (R1.out.keeps K4.out (fun ad e h0 h => by have := R1.out.lt h0 e; omega)) OK1.out (by omega)).mono ?_
         rintro e w5 ⟨rfl, ⟨A5, c5, d5⟩, k5⟩
         rw [← ER2.out]
         have D5 := Lib.hid d5
         have D5y := Lib.hid (D4y.out.keepg D4.out.box hgne k5)
         have K5 := Lib.hid (K4.out.trans k5 (fun _ _ h => h))
         clear d5 k5)
      | (at_builtin; clear m4; refine wp_append elem34 (by rfl) (.tmp 48) (.tmp 49) (by rfl) w5.heap.size (.slice (some ⟨w5.heap.size, 0, none⟩) 0 0) [] a A0 n0 c0 rfl rfl (own_empty _ _ _ _ _ rfl (Nat.le_refl _)) ((R0.out.keeps K5.out (fun ad e h0 h => by have := R0.out.lt h0 e; omega)).alloc _) (by simp; omega) (by simp [maxLen]; omega) (by simp) ?_
         intro v6 w6 own6 gr6 at6
         rw [List.nil_append] at own6
         obtain ⟨A6, c6, hv6, r6⟩ := Own.val own6 LA.out
         rw [hv6]
         rw [hv6] at own6
         have k6 := app_empty w5 w5.heap.size rfl gr6
         have O6 := Lib.hid own6
         have D6 := Lib.hid (D5.out.keep k6)
         have D6y := Lib.hid (D5y.out.keep k6)
         have K6 := Lib.hid (K5.out.trans k6 (fun _ _ h => h.elim))
         have hz56 := k6.size
         clear own6 gr6 at6 hv6 r6 k6)
      | (at_builtin; refine wp_append elem34 (by rfl) (.tmp 50) (.tmp 51) (by rfl) w5.heap.size (.slice A6 n0 c6) a b A1 n1 c1 rfl rfl O6.out (R1.out.keeps K6.out (fun ad e h0 h => by have := R1.out.lt h0 e; omega)) (by have := LA.out; omega) (by have := LA.out; simp [maxLen]; omega) hz56 ?_
         intro v7 w7 own7 gr7 at7
         obtain ⟨A7, c7, hv7, r7⟩ := Own.val own7 (n := n0 + n1) (by rw [List.length_append, LA.out, LB.out])
         rw [hv7]
         have k7 : Keeps (fun b => (Value.slice A6 n0 c6).ownBlock = some b) w6 w7 := (Keeps.refl _ w6).grown gr7 (fun b hb _ => hb)
         have nb : ∀ {α : Type} {E : Enc α} {e : TypeId} {v : Value} {l : List α}, Own E w5 0 e v l → ∀ q, v.ownBlock = some q → ¬ (Value.slice A6 n0 c6).ownBlock = some q := fun ho q hq h => by
           have := O6.out.base_le h
           have := ho.lt hq
           omega
         have keep : ∀ {g : Nat} {A : Option Addr} {c : Nat} {T : List T6}, g < w5.heap.size → S5 w5 g 1 A 4 c 0 none 0 0 false T [] → S5 w6 g 1 A 4 c 0 none 0 0 false T [] → S5 w7 g 1 A 4 c 0 none 0 0 false T [] := fun hg d5 d =>
           ⟨d.box.keeps k7 (fun h => by have := O6.out.base_le h; omega), d.row.keeps k7 (nb d5.row), d.last.keeps k7 (nb d5.last), d.ts, d.few, d.few2⟩
         have D7 := Lib.hid (keep D5.out.box.lt D5.out D6.out)
         have D7y := Lib.hid (keep D5y.out.box.lt D5y.out D6y.out)
         have K7 := Lib.hid (K6.out.trans k7 (fun b hb h => by have := O6.out.base_le h; have := K5.out.size; omega))
         have R7 := Lib.hid r7
         clear own7 gr7 at7 hv7 r7 k7 nb keep)
      | (go_at_call 10; refine (count_any D7y.out (a ++ b) A7 (n0 + n1) c7 R7.out (fun e he => (List.mem_append.1 he).elim (OK0.out e) (OK1.out e)) (by omega)).mono ?_
         rintro e w8 ⟨rfl, ⟨A8, c8, d8⟩, k8⟩
         rw [← ER3.out]
         have D8 := Lib.hid (D7.out.keepg D7y.out.box hgne.symm k8)
         have D8y := Lib.hid d8
         have K8 := Lib.hid ((K7.out.mono (S' := fun b => b = g1 ∨ b = g2) (fun _ _ h => .inl h)).trans k8 (fun _ _ h => .inr h))
         clear d8 k8))
    go_ret
    have hz1' := K1.out.size
    exact ⟨rfl, K8.out.below (Nat.le_refl _) (fun b hb h => by omega)⟩
  · have t2 : (er2 == 0) = false := by simpa using x2
    have t3 : (er3 == 0) = false := by simpa using x3
    have t2' : (er2 != 0) = true := by simpa using x2
    have t3' : (er3 != 0) = true := by simpa using x3
    have m0 : True := trivial
    have m1 : True := trivial
    have m2 : True := trivial
    have m3 : True := trivial
    have m4 : True := trivial
    go_enter Try.func4, Try.ntmps4
    go_wp2_with (first
      | (go_at_call 7; refine (shown_any w).mono ?_
         rintro e w1 ⟨rfl, k1⟩
         have K1 := Lib.hid k1
         clear k1)
      | (go_at_call 8; clear m0; refine (new_any 4 w1 (by omega) (by omega)).mono ?_
         rintro e w2 ⟨g1, A2, c2, rfl, d2, hg1, k2⟩
         have D2 := Lib.hid d2
         have K2 := Lib.hid (K1.out.trans k2 (fun _ _ h => h))
         have hgl := d2.box.lt
         clear d2 k2)
      | (go_at_call 8; clear m1; refine (new_any 4 w2 (by omega) (by omega)).mono ?_
         rintro e w3 ⟨g2, A3, c3, rfl, d3, hg2, k3⟩
         have D3 := Lib.hid d3
         have D3x := Lib.hid (D2.out.keep k3)
         have K3 := Lib.hid (K2.out.trans k3 (fun _ _ h => h))
         have hgne : g2 ≠ g1 := by omega
         clear d3 k3)
      | (go_at_call 10; clear m2; refine (count_any D3x.out a A0 n0 c0 (R0.out.keeps K3.out (fun _ _ _ h => h)) OK0.out (by omega)).mono ?_
         rintro e w4 ⟨rfl, ⟨A4, c4, d4⟩, k4⟩
         rw [← ER1.out]
         have hz1 := K1.out.size
         have hz3 := K3.out.size
         have D4 := Lib.hid d4
         have D4y := Lib.hid (D3.out.keepg D3x.out.box hgne k4)
         have K4 := Lib.hid ((K3.out.mono (S' := fun b => b = g1) (fun _ _ h => h.elim)).trans k4 (fun _ _ h => h))
         clear d4 k4)
      | (go_at_call 10; clear m3; refine (count_any D4.out b A1 n1 c1 (R1.out.keeps K4.out (fun ad e h0 h => by have := R1.out.lt h0 e; omega)) OK1.out (by omega)).mono ?_
         rintro e w5 ⟨rfl, ⟨A5, c5, d5⟩, k5⟩
         rw [← ER2.out]
         have D5 := Lib.hid d5
         have D5y := Lib.hid (D4y.out.keepg D4.out.box hgne k5)
         have K5 := Lib.hid (K4.out.trans k5 (fun _ _ h => h))
         clear d5 k5)
      | (at_builtin; clear m4; refine wp_append elem34 (by rfl) (.tmp 48) (.tmp 49) (by rfl) w5.heap.size (.slice (some ⟨w5.heap.size, 0, none⟩) 0 0) [] a A0 n0 c0 rfl rfl (own_empty _ _ _ _ _ rfl (Nat.le_refl _)) ((R0.out.keeps K5.out (fun ad e h0 h => by have := R0.out.lt h0 e; omega)).alloc _) (by simp; omega) (by simp [maxLen]; omega) (by simp) ?_
         intro v6 w6 own6 gr6 at6
         rw [List.nil_append] at own6
         obtain ⟨A6, c6, hv6, r6⟩ := Own.val own6 LA.out
         rw [hv6]
         rw [hv6] at own6
         have k6 := app_empty w5 w5.heap.size rfl gr6
         have O6 := Lib.hid own6
         have D6 := Lib.hid (D5.out.keep k6)
         have D6y := Lib.hid (D5y.out.keep k6)
         have K6 := Lib.hid (K5.out.trans k6 (fun _ _ h => h.elim))
         have hz56 := k6.size
         clear own6 gr6 at6 hv6 r6 k6)
      | (at_builtin; refine wp_append elem34 (by rfl) (.tmp 50) (.tmp 51) (by rfl) w5.heap.size (.slice A6 n0 c6) a b A1 n1 c1 rfl rfl O6.out (R1.out.keeps K6.out (fun ad e h0 h => by have := R1.out.lt h0 e; omega)) (by have := LA.out; omega) (by have := LA.out; simp [maxLen]; omega) hz56 ?_
         intro v7 w7 own7 gr7 at7
         obtain ⟨A7, c7, hv7, r7⟩ := Own.val own7 (n := n0 + n1) (by rw [List.length_append, LA.out, LB.out])
         rw [hv7]
         have k7 : Keeps (fun b => (Value.slice A6 n0 c6).ownBlock = some b) w6 w7 := (Keeps.refl _ w6).grown gr7 (fun b hb _ => hb)
         have nb : ∀ {α : Type} {E : Enc α} {e : TypeId} {v : Value} {l : List α}, Own E w5 0 e v l → ∀ q, v.ownBlock = some q → ¬ (Value.slice A6 n0 c6).ownBlock = some q := fun ho q hq h => by
           have := O6.out.base_le h
           have := ho.lt hq
           omega
         have keep : ∀ {g : Nat} {A : Option Addr} {c : Nat} {T : List T6}, g < w5.heap.size → S5 w5 g 1 A 4 c 0 none 0 0 false T [] → S5 w6 g 1 A 4 c 0 none 0 0 false T [] → S5 w7 g 1 A 4 c 0 none 0 0 false T [] := fun hg d5 d =>
           ⟨d.box.keeps k7 (fun h => by have := O6.out.base_le h; omega), d.row.keeps k7 (nb d5.row), d.last.keeps k7 (nb d5.last), d.ts, d.few, d.few2⟩
         have D7 := Lib.hid (keep D5.out.box.lt D5.out D6.out)
         have D7y := Lib.hid (keep D5y.out.box.lt D5y.out D6y.out)
         have K7 := Lib.hid (K6.out.trans k7 (fun b hb h => by have := O6.out.base_le h; have := K5.out.size; omega))
         have R7 := Lib.hid r7
         clear own7 gr7 at7 hv7 r7 k7 nb keep)
      | (go_at_call 10; refine (count_any D7y.out (a ++ b) A7 (n0 + n1) c7 R7.out (fun e he => (List.mem_append.1 he).elim (OK0.out e) (OK1.out e)) (by omega)).mono ?_
         rintro e w8 ⟨rfl, ⟨A8, c8, d8⟩, k8⟩
         rw [← ER3.out]
         have D8 := Lib.hid (D7.out.keepg D7y.out.box hgne.symm k8)
         have D8y := Lib.hid d8
         have K8 := Lib.hid ((K7.out.mono (S' := fun b => b = g1 ∨ b = g2) (fun _ _ h => .inl h)).trans k8 (fun _ _ h => .inr h))
         clear d8 k8))
    go_ret
    have hz1' := K1.out.size
    exact ⟨rfl, K8.out.below (Nat.le_refl _) (fun b hb h => by omega)⟩
end Go.Proofs.Ytbobmilbcbileaa
