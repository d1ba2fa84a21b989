/- LinkJoins, walked. -/
import Derived.Test.YtaccdbiajcnlaaaUse
namespace Go.Proofs.Ytaccdbiajcnlaaa
open Go.RowKit Mem
theorem app_empty {t : TypeId} (w : World) (H : Nat) (hH : w.heap.size = H) {w' : World} (gr : (w.alloc (.cells #[] t)).grownBy w' (Value.slice (some ⟨H, 0, none⟩) 0 0).ownBlock) : Keeps (fun _ => False) w w' :=
  (Keeps.grown (S := fun k => k = H) ((Keeps.refl _ w).alloc _) gr (fun k hk _ => by simpa [Value.ownBlock] using hk.symm)).mono (fun b hb e => by omega)
theorem Lines.append {w : World} {A A1 A2 : Option Addr} {n n1 n2 : Nat} {hs1 hs2 : List Sl} {fs1 fs2 : List (List Nat)} (r : Reads hdr w A n (hs1 ++ hs2)) (l1 : Lines w A1 n1 hs1 fs1) (l2 : Lines w A2 n2 hs2 fs2) : Lines w A n (hs1 ++ hs2) (fs1 ++ fs2) := by
  refine ⟨r, by simp [l1.len, l2.len], fun i h f hi hf => ?_, fun f hf => ?_⟩
  · rcases Nat.lt_or_ge i hs1.length with hl | hl
    · rw [List.getElem?_append_left hl] at hi
      rw [List.getElem?_append_left (by have := l1.len; omega)] at hf
      exact l1.each i h f hi hf
    · rw [List.getElem?_append_right hl] at hi
      rw [List.getElem?_append_right (by have := l1.len; omega), ← l1.len] at hf
      exact l2.each _ h f hi hf
  · rcases List.mem_append.1 hf with h | h
    · exact l1.small f h
    · exact l2.small f h
theorem Below.keep {S : Nat → Prop} {B : Nat} {w w1 w2 : World} (h : Below B w w1) (k : Keeps S w1 w2) (hB : B ≤ w1.heap.size) (hs : ∀ b, b < B → ¬ S b) : Below B w w2 := h.trans (k.below hB hs)
set_option maxRecDepth 100000 in
set_option maxHeartbeats 3200000 in
theorem joins_any (L0 L1 : List Nat) (A0 A1 : Option Addr) (n0 c0 n1 c1 : Nat) (w : World) (h0 : Reads byte w A0 n0 L0) (h1 : Reads byte w A1 n1 L1) (hL0 : ∀ x ∈ L0, x < 256) (hL1 : ∀ x ∈ L1, x < 256) (hn : n0 + n1 ≤ 1048576) :
    Calls Try.prog 6 #[.slice A0 n0 c0, .slice A1 n1 c1] w fun e w' => e = .returned (.bool true) ∧ Below w.heap.size w w' := by
  have hl0 := h0.1
  have hl1 := h1.1
  have R0 := Lib.hid h0
  have R1 := Lib.hid h1
  have S0 := Lib.hid hL0
  have S1 := Lib.hid hL1
  have hp1 := parse_count L0
  have hp2 := parse_count ((parse L0).2.2 ++ L1)
  have hp3 := parse_count (L0 ++ L1)
  have hpa := parse_append L0 L1
  have hs1 := parse_small hL0
  rw [List.length_append] at hp2 hp3
  have P1 := Lib.hid hp1
  have P2 := Lib.hid hp2
  have P3 := Lib.hid hp3
  have PA := Lib.hid hpa
  have SM := Lib.hid hs1
  have HL0 := Lib.hid hl0
  have HL1 := Lib.hid hl1
  clear h0 h1 hL0 hL1 hp1 hp2 hp3 hpa hs1 hl0 hl1
  obtain ⟨e1, he1⟩ : ∃ e, e = (parse L0).2.1 := ⟨_, rfl⟩
  obtain ⟨e2, he2⟩ : ∃ e, e = (parse ((parse L0).2.2 ++ L1)).2.1 := ⟨_, rfl⟩
  obtain ⟨e3, he3⟩ : ∃ e, e = (parse (L0 ++ L1)).2.1 := ⟨_, rfl⟩
  have E1 := Lib.hid he1
  have E2 := Lib.hid he2
  have E3 := Lib.hid he3
  have hcase : e1 = 60 ∨ (e1 = 0 ∧ e2 = 60 ∧ e3 = 60) ∨ (e1 = 0 ∧ e2 = 0 ∧ e3 = 0) := by
    rcases parse_err L0 with h | h
    · have h' := PA.out h
      rcases parse_err ((parse L0).2.2 ++ L1) with h2 | h2
      · right; right; refine ⟨by rw [he1, h], by rw [he2, h2], by rw [he3, h', h2]⟩
      · right; left; refine ⟨by rw [he1, h], by rw [he2, h2.1], by rw [he3, h', h2.1]⟩
    · left; rw [he1, h.1]
  clear he1 he2 he3
  rcases hcase with rfl | ⟨rfl, rfl, rfl⟩ | ⟨rfl, rfl, rfl⟩
  all_goals go_enter Try.func6, Try.ntmps6
  all_goals go_wp2_with (first
    | (at_builtin; refine wp_append elem22 (by rfl) (.tmp 75) (.tmp 76) (by rfl) w7.heap.size v8 hs1 hs2 Ao2 no2 co2 rfl rfl O8.out (L2'.out.lines.heads.keeps K8.out (fun _ _ _ h => h)) (by rw [HH1.out]; omega) (by rw [HH1.out]; simp only [maxLen]; omega) K8.out.size ?_
       intro v9 w9 own9 gr9 at9
       obtain ⟨A9, c9, hv9, hr9⟩ := Own.val (n := no1 + no2) own9 (by rw [List.length_append, HH1.out, HH2.out])
       rw [hv9]
       have k9 : Keeps (fun _ => False) w7 w9 := (Keeps.grown (S := fun k => w7.heap.size ≤ k) (K8.out.mono (fun _ _ h => h.elim)) gr9 (fun k hk _ => O8.out.base_le hk)).mono (fun b hb e => by omega)
       have li9 := Lines.append hr9 (L1'.out.keeps k9 (fun _ _ h => h)).lines (L2'.out.keeps k9 (fun _ _ h => h)).lines
       have li3 := (LI3.out.keeps k9 (fun _ _ h => h)).lines
       have hpp := PA.out E1.out.symm
       have hnn : n7 = n4 := by rw [N7.out, N4.out, hpp]
       subst hnn
       have hsame := same_any _ _ _ _ A9 Ao3 (no1 + no2) no3 c9 co3 w9 li9 li3 (by omega)
       rw [hpp] at hsame
       simp only [decide_true] at hsame
       have bx := BX.out.keeps k9 (fun h => h)
       have by_ := BL3.out.keeps k9 (fun h => h)
       have t9 := Below.keep T7.out k9 (by omega) (fun _ _ h => h)
       have SAME := Lib.hid hsame
       have BX9 := Lib.hid bx
       have BY9 := Lib.hid by_
       have T9 := Lib.hid t9
       clear own9 gr9 at9 hv9 hr9 k9 li9 li3 hpp hsame bx by_ t9)
    | (at_builtin; refine wp_append elem22 (by rfl) (.tmp 73) (.tmp 74) (by rfl) w7.heap.size (.slice (some ⟨w7.heap.size, 0, none⟩) 0 0) [] hs1 Ao1 no1 co1 rfl rfl (own_empty _ _ _ _ _ rfl (Nat.le_refl _)) (L1'.out.lines.heads.alloc _) (by simp; omega) (by simp [maxLen]; omega) (by simp) ?_
       intro v8 w8 own8 gr8 at8
       rw [List.nil_append] at own8
       have k8 := app_empty w7 _ rfl gr8
       have O8 := Lib.hid own8
       have K8 := Lib.hid k8
       clear own8 gr8 at8 k8)
    | (go_at_call 14; refine SAME.out.mono ?_
       rintro e w10 ⟨q, rfl, hw10⟩
       have bx : Blk w10 w1.heap.size 47 #[.slice A4 n7 c4] := by rw [hw10]; exact BX9.out.drewN q
       have by_ : Blk w10 (w1.heap.size + 1) 47 #[.slice A7 n7 c7] := by rw [hw10]; exact BY9.out.drewN q
       have t10 : Below w.heap.size w w10 := by rw [hw10]; exact Below.keep T9.out ((Keeps.refl (fun _ => False) w9).drewN q) T9.out.size (fun _ _ h => h)
       have H1 := Lib.hid (held_any _ n7 c4 A4 w10 bx)
       have H2 := Lib.hid (held_any _ n7 c7 A7 w10 by_)
       have T10 := Lib.hid t10
       clear bx by_ t10 hw10)
    | (go_at_call 15; refine H1.out.mono ?_
       rintro e w11 ⟨rfl, rfl⟩)
    | (go_at_call 15; refine H2.out.mono ?_
       rintro e w11 ⟨rfl, rfl⟩)
    | (go_at_call 9; refine (shown_any w).mono ?_
       rintro e w1 ⟨rfl, hb1⟩
       have B1 := Lib.hid hb1
       clear hb1)
    | (go_at_call 12; refine (new_any _).mono ?_
       rintro e w1' ⟨rfl, rfl⟩)
    | (go_at_call 13; refine (feed_use (w1.heap.size + 1) none 0 0 [] (L0 ++ L1) 0 A5 (n0 + n1) c5 w6 G6.out (Own.nil _ _ _ _) R5.out (by simp) SX.out (Nat.zero_le _) (by simp; omega)).mono ?_
       rintro e w7 ⟨Ao3, no3, co3, hs3, A7, n7, c7, F3, rfl, hno3, hn7, hli3, hbl3, how3, hf3, hk3⟩
       rw [List.nil_append] at hno3 hn7 hli3 how3 ⊢
       rw [← E3.out]
       have NO3 := Lib.hid hno3
       have N7 := Lib.hid hn7
       have LI3 := Lib.hid hli3
       have BL3 := Lib.hid hbl3
       have F3H := Lib.hid hf3
       have li1 := ((LI1.out.keeps K2.out (fun b hb h => by
         have := F1H.out b hb
         rcases h with h | h
         · exact this.1 h
         · exact this.2.1 h)).keeps K6.out (fun _ _ h => h)).keeps hk3 (fun b hb h => by
         have := F1H.out b hb
         rcases h with h | h
         · omega
         · simp [Value.ownBlock] at h)
       have li2 := (LI2.out.keeps K6.out (fun _ _ h => h)).keeps hk3 (fun b hb h => by
         have := F2H.out b hb
         rcases h with h | h
         · rcases this.2.2.2 with h' | h'
           · omega
           · have := OW1.out.base_le h'; omega
         · simp [Value.ownBlock] at h)
       have bl2 := (BL2.out.keeps K6.out (fun h => h)).keeps hk3 (fun h => by
         rcases h with h | h
         · omega
         · simp [Value.ownBlock] at h)
       have t7 := Below.keep (Below.keep T4.out K6.out hz4' (fun _ _ h => h)) hk3 (by omega) (fun b hb h => by
         rcases h with h | h
         · omega
         · simp [Value.ownBlock] at h)
       have hz7 := hk3.size
       have hno12 : no1 ≤ 1048576 ∧ no2 ≤ 1048576 ∧ no3 ≤ 1048576 := by
         have := P1.out; have := P2.out; have := P3.out; have := HL0.out; have := HL1.out; have := NO1.out; have := NO2.out
         omega
       have L1' := Lib.hid li1
       have L2' := Lib.hid li2
       have BX := Lib.hid bl2
       have T7 := Lib.hid t7
       have hh1 : hs1.length = no1 := li1.lines.heads.1
       have hh2 : hs2.length = no2 := li2.lines.heads.1
       have HH1 := Lib.hid hh1
       have HH2 := Lib.hid hh2
       clear hh1 hh2 li1 li2 bl2 t7
       have K3 := Lib.hid hk3
       clear hno3 hn7 hli3 hbl3 how3 hf3 hk3)
    | (at_builtin; refine wp_append elem5 (by rfl) (.tmp 44) (.tmp 45) (by rfl) w4.heap.size v5 L0 L1 A1 n1 c1 rfl rfl O5.out (R1.out.below T5.out) (by have := HL0.out; omega) (by have := HL0.out; simp only [maxLen]; omega) (by have := K5.out.size; omega) ?_
       intro v6 w6 own6 gr6 at6
       obtain ⟨A5, c5, hv5, hr5⟩ := Own.val (n := n0 + n1) own6 (by rw [List.length_append, HL0.out, HL1.out])
       rw [hv5]
       have k6 : Keeps (fun _ => False) w4 w6 := (Keeps.grown (S := fun k => w4.heap.size ≤ k) (K5.out.mono (fun _ _ h => h.elim)) gr6 (fun k hk _ => O5.out.base_le hk)).mono (fun b hb e => by omega)
       have hsx : ∀ x ∈ L0 ++ L1, x < 256 := by
         intro x hx
         rcases List.mem_append.1 hx with h | h
         · exact S0.out x h
         · exact S1.out x h
       have hg6 := GY.out.keeps k6 (fun h => h)
       have hz6 := k6.size
       have R5 := Lib.hid hr5
       have SX := Lib.hid hsx
       have K6 := Lib.hid k6
       have G6 := Lib.hid hg6
       clear own6 gr6 at6 hv5 hr5 k6 hsx hg6)
    | (at_builtin; refine wp_append elem5 (by rfl) (.tmp 42) (.tmp 43) (by rfl) w4.heap.size (.slice (some ⟨w4.heap.size, 0, none⟩) 0 0) [] L0 A0 n0 c0 rfl rfl (own_empty _ _ _ _ _ rfl (Nat.le_refl _)) ((R0.out.below T4.out).alloc _) (by simp; omega) (by simp [maxLen]; omega) (by simp) ?_
       intro v5 w5 own5 gr5 at5
       rw [List.nil_append] at own5
       have k5 := app_empty w4 _ rfl gr5
       have t5 := Below.keep T4.out k5 hz4' (fun _ _ h => h)
       have O5 := Lib.hid own5
       have K5 := Lib.hid k5
       have T5 := Lib.hid t5
       clear own5 gr5 at5 k5 t5)
    | (go_at_call 13; refine (feed_use w1.heap.size A3 n3 c3 (parse L0).2.2 L1 (w1.heap.size + 2) A1 n1 c1 w3 BL1.out OW1.out (R1.out.below T3.out) SM.out.2 S1.out hz3 (by have := P1.out; have := HL0.out; omega)).mono ?_
       rintro e w4 ⟨Ao2, no2, co2, hs2, A4, n4, c4, F2, rfl, hno2, hn4, hli2, hbl2, how2, hf2, hk2⟩
       rw [← E2.out]
       have t4 := Below.keep T3.out hk2 (by omega) (fun b hb h => by
         rcases h with h | h
         · omega
         · have := OW1.out.base_le h; omega)
       have hz4 := hk2.size
       have hgy := (GY3.out.keeps hk2 (fun h => by
         rcases h with h | h
         · omega
         · have := OW1.out.base_le h; omega))
       have hz4' : w.heap.size ≤ w4.heap.size := by omega
       have NO2 := Lib.hid hno2
       have N4 := Lib.hid hn4
       have LI2 := Lib.hid hli2
       have BL2 := Lib.hid hbl2
       have F2H := Lib.hid hf2
       have K2 := Lib.hid hk2
       have T4 := Lib.hid t4
       have GY := Lib.hid hgy
       clear hno2 hn4 hli2 hbl2 how2 hf2 hk2 t4 hgy)
    | (go_at_call 13; refine (feed_use w1.heap.size none 0 0 [] L0 0 A0 n0 c0 ((w1.alloc (.cells #[.slice none 0 0] 47)).alloc (.cells #[.slice none 0 0] 47)) ((Blk.new w1 47 _ _ rfl).alloc _) (Own.nil _ _ _ _) (((R0.out.below B1.out).alloc _).alloc _) (by simp) S0.out (by simp) (by have := HL0.out; simp; omega)).mono ?_
       rintro e w3 ⟨Ao1, no1, co1, hs1, A3, n3, c3, F1, rfl, hno1, hn3, hli1, hbl1, how1, hf1, hk1⟩
       rw [List.nil_append] at hno1 hn3 hli1 how1 ⊢
       rw [← E1.out]
       have hz1 := B1.out.size
       have hz3 : w1.heap.size + 2 ≤ w3.heap.size := by have := hk1.size; simpa using this
       have how1' := how1.rebase (w1.heap.size + 2) (fun k hk => by have := how1.base_le hk; simp at this; omega)
       have t3 : Below w.heap.size w w3 := Below.keep (S := fun k => k = w1.heap.size) B1.out ((((Keeps.refl _ w1).alloc _).alloc _).trans hk1 (fun b hb h => by
         rcases h with h | h
         · exact h
         · simp [Value.ownBlock] at h)) hz1 (fun b hb h => by omega)
       have hgy : Blk w3 (w1.heap.size + 1) 47 #[.slice none 0 0] := (Blk.new (w1.alloc (.cells #[.slice none 0 0] 47)) 47 _ _ (by simp)).keeps hk1 (fun h => by
         rcases h with h | h
         · omega
         · simp [Value.ownBlock] at h)
       have hf1' : ∀ k, F1 k → k ≠ w1.heap.size ∧ (Value.slice A3 n3 c3).ownBlock ≠ some k ∧ k < w3.heap.size ∧ w1.heap.size + 2 ≤ k := fun k hk => by
         have := hf1 k hk
         refine ⟨this.1, this.2.1, this.2.2.1, ?_⟩
         rcases this.2.2.2 with h | h
         · simpa using h
         · simp [Value.ownBlock] at h
       have NO1 := Lib.hid hno1
       have N3 := Lib.hid hn3
       have LI1 := Lib.hid hli1
       have BL1 := Lib.hid hbl1
       have OW1 := Lib.hid how1'
       have F1H := Lib.hid hf1'
       have T3 := Lib.hid t3
       have GY3 := Lib.hid hgy
       clear hno1 hn3 hli1 hbl1 how1 hf1 hk1 how1' hf1' t3 hgy))
  all_goals first
    | (go_ret; exact ⟨rfl, T10.out⟩)
    | (go_ret; exact ⟨rfl, T7.out⟩)
end Go.Proofs.Ytaccdbiajcnlaaa
