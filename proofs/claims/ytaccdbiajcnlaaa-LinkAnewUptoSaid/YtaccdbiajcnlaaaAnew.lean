/- LinkAnew, walked. -/
import Derived.Test.YtaccdbiajcnlaaaHolds
namespace Go.Proofs.Ytaccdbiajcnlaaa
open Go.RowKit Mem
/-- What is held tells nothing by itself. -/
theorem parse_held (l : List Nat) : (parse l).2.1 = 0 → parse (parse l).2.2 = ([], 0, (parse l).2.2) := by
  induction hn : l.length using Nat.strongRecOn generalizing l with
  | _ n ih =>
    intro he
    by_cases h1 : l.length < 2
    · rw [parse_short h1]; exact parse_short h1
    · by_cases h2 : num2 l = 0 ∨ 512 < num2 l
      · rw [parse_bad h1 h2] at he; cases he
      · by_cases h3 : l.length < 2 + num2 l
        · rw [parse_part h1 h2 h3]; exact parse_part h1 h2 h3
        · rw [parse_more h1 h2 h3] at he ⊢
          exact ih _ (by rw [List.length_drop]; omega) _ rfl he
/-- So many noughts, at most, till a length is wrong. -/
def need (l : List Nat) : Nat := if l.length < 2 then (if l.length = 0 then 2 else if nth l 0 = 0 then 1 else 515) else 2 + num2 l - l.length + 2
theorem need_le {l : List Nat} (h : parse l = ([], 0, l)) : need l ≤ 515 := by
  unfold need
  by_cases h1 : l.length < 2
  · rw [if_pos h1]; split <;> (try split) <;> omega
  · rw [if_neg h1]
    by_cases h2 : num2 l = 0 ∨ 512 < num2 l
    · rw [parse_bad h1 h2] at h; cases h
    · omega
theorem need_step {l : List Nat} (hl : ∀ x ∈ l, x < 256) (h : parse l = ([], 0, l)) (he : (parse (l ++ [0])).2.1 = 0) : need (parse (l ++ [0])).2.2 < need l := by
  have hlen : (l ++ [0]).length = l.length + 1 := by simp
  by_cases h1 : l.length < 2
  · rcases Nat.eq_zero_or_pos l.length with h0 | h0
    · have : l = [] := List.eq_nil_of_length_eq_zero h0
      subst this
      rw [parse_short (by simp)]
      unfold need
      simp [nth]
    · obtain ⟨a, rfl⟩ : ∃ a, l = [a] := by
        match l, h0, h1 with
        | [a], _, _ => exact ⟨a, rfl⟩
      have hn : num2 ([a] ++ [0]) = 256 * a := rfl
      by_cases h2 : num2 ([a] ++ [0]) = 0 ∨ 512 < num2 ([a] ++ [0])
      · rw [parse_bad (by simp) h2] at he; cases he
      · have h5 : ([a] ++ [0]).length < 2 + num2 ([a] ++ [0]) := by
          rw [hn] at h2 ⊢
          simp
          omega
        rw [parse_part (by simp) h2 h5]
        rw [hn] at h2
        have ha : a ≠ 0 := by omega
        show need ([a] ++ [0]) < need [a]
        have x1 : need ([a] ++ [0]) = 256 * a + 2 := by
          unfold need
          rw [if_neg (by simp), hn]
          simp only [List.length_append, List.length_cons, List.length_nil]
          omega
        have x2 : need [a] = 515 := by
          unfold need
          rw [if_pos (by simp), if_neg (by simp), if_neg (show ¬ nth [a] 0 = 0 from ha)]
        rw [x1, x2]
        omega
  · have e1 := num2_append (a := l) (b := [0]) (by omega)
    have h2 : ¬ (num2 l = 0 ∨ 512 < num2 l) := by
      intro h2
      rw [parse_bad h1 h2] at h; cases h
    have h3 : l.length < 2 + num2 l := by
      rcases Nat.lt_or_ge l.length (2 + num2 l) with h3 | h3
      · exact h3
      · rw [parse_more h1 h2 (by omega)] at h; cases h
    by_cases h4 : l.length + 1 < 2 + num2 l
    · rw [parse_part (by omega) (by rw [e1]; exact h2) (by rw [e1]; omega)]
      show need (l ++ [0]) < need l
      unfold need
      rw [if_neg (by omega), if_neg h1, e1]
      omega
    · rw [parse_more (by omega) (by rw [e1]; exact h2) (by rw [e1]; omega), e1]
      have hd : (l ++ [0]).drop (2 + num2 l) = [] := List.drop_eq_nil_of_le (by omega)
      rw [hd, parse_short (by simp)]
      unfold need
      rw [if_neg h1]
      simp
      omega
/-- One link, as it stands: what it holds, and where. -/
structure Holds (g base : Nat) (H : List Nat) (wr : World) (A : Option Addr) (n c : Nat) : Prop where
  box : Blk wr g 47 #[.slice A n c]
  row : Own byte wr base 5 (.slice A n c) H
  len : n = H.length
  small : ∀ x ∈ H, x < 256
  few : H.length ≤ 513
set_option maxRecDepth 100000 in
set_option maxHeartbeats 3200000 in
theorem anew_any (L0 : List Nat) (A0 : Option Addr) (n0 c0 : Nat) (fs : List (List Nat)) (hs : List Sl) (A : Option Addr) (n c : Nat) (w : World) (h0 : Reads byte w A0 n0 L0) (hL0 : ∀ x ∈ L0, x < 256) (hl : Lines w A n hs fs) (hb : n0 + (total fs + n) ≤ 1048576) :
    Calls Try.prog 5 #[.slice A0 n0 c0, .slice A n c] w fun e w' => e = .returned (.bool true) ∧ Below w.heap.size w w' := by
  have hln : fs.length = n := by have := hl.heads.1; have := hl.len; omega
  have hl0 := h0.1
  have HLN := Lib.hid hln
  have HL := Lib.hid hl
  have R0 := Lib.hid h0
  have S0 := Lib.hid hL0
  have HL0 := Lib.hid hl0
  clear hln hl h0 hL0 hl0
  obtain ⟨e0, he0⟩ : ∃ e, e = (parse L0).2.1 := ⟨_, rfl⟩
  have E0 := Lib.hid he0
  have hcase : e0 = 60 ∨ e0 = 0 := by
    rcases parse_err L0 with h | h
    · exact .inr (he0.trans h)
    · exact .inl (he0.trans h.1)
  clear he0
  have hps := parse_small (S0.out)
  have hpc := parse_count L0
  have PS := Lib.hid hps
  have PC := Lib.hid hpc
  clear hps hpc
  rcases hcase with rfl | rfl
  all_goals go_enter Try.func5, Try.ntmps5
  all_goals go_wp2_with (first
    | (go_at_call 9; refine (shown_any w).mono ?_
       rintro e w1 ⟨rfl, hb1⟩
       have B1 := Lib.hid hb1
       clear hb1)
    | (go_at_call 12; refine (new_any _).mono ?_
       rintro e w1' ⟨rfl, rfl⟩)
    | (go_at_call 13; refine (feed_use w1.heap.size none 0 0 [] L0 0 A0 n0 c0 ((w1.alloc (.cells #[.slice none 0 0] 47)).alloc (.cells #[.slice none 0 0] 47)) ((Blk.new w1 47 _ _ rfl).alloc _) (Own.nil _ _ _ _) (((R0.out.below B1.out).alloc _).alloc _) (by simp) S0.out (by simp) (by have := HL0.out; simp; omega)).mono ?_
       rintro e w3 ⟨Ao1, no1, co1, hs1, A3, n3, c3, F1, rfl, hno1, hn3, hli1, hbl1, how1, hf1, hk1⟩
       rw [List.nil_append] at hno1 hn3 hli1 how1 ⊢
       rw [← E0.out]
       have hz1 := B1.out.size
       have hz3 : w1.heap.size + 2 ≤ w3.heap.size := by have := hk1.size; simpa using this
       have how1' := how1.rebase (w1.heap.size + 2) (fun k hk => by have := how1.base_le hk; simp at this; omega)
       have t3 : Below w.heap.size w w3 := Below.keep (S := fun k => k = w1.heap.size) B1.out ((((Keeps.refl _ w1).alloc _).alloc _).trans hk1 (fun b hb h => by
         rcases h with h | h
         · exact h
         · simp [Value.ownBlock] at h)) hz1 (fun b hb h => by omega)
       have hgy : Blk w3 (w1.heap.size + 1) 47 #[.slice none 0 0] := (Blk.new (w1.alloc (.cells #[.slice none 0 0] 47)) 47 _ _ (by simp)).keeps hk1 (fun h => by
         rcases h with h | h
         · omega
         · simp [Value.ownBlock] at h)
       have hold : Holds w1.heap.size (w1.heap.size + 2) (parse L0).2.2 w3 A3 n3 c3 := ⟨hbl1, how1', hn3, PS.out.2, PC.out.2.1⟩
       have HOLD := Lib.hid hold
       have T3 := Lib.hid t3
       have GY3 := Lib.hid hgy
       clear hno1 hn3 hli1 hbl1 how1 hf1 hk1 how1' t3 hgy hold))
  · have hh0 : (parse L0).2.2 = [] := by
      rcases parse_err L0 with h | h
      · have := E0.out; omega
      · exact h.2
    have hold0 := HOLD.out
    rw [hh0] at hold0
    have HOLD0 := Lib.hid hold0
    clear hh0 hold0
    have hnx : n3 = 0 := HOLD0.out.len
    have HH := Lib.hid (held_any w1.heap.size n3 c3 A3 w3 HOLD0.out.box)
    subst hnx
    have hbx := HOLD0.out.box
    go_wp2_with (first
      | (go_at_call 15; refine HH.out.mono ?_
         rintro e w10 ⟨rfl, hw10⟩
         subst hw10))
    go_loopw [11] (fun i wr => ∃ (k : Nat) (H : List Nat) (AX : Option Addr) (nX cX : Nat) (AY : Option Addr) (nY cY : Nat), k ≤ n ∧ i = .int .i64 k ∧ Holds w1.heap.size (w1.heap.size + 2) H wr AX nX cX ∧ Holds (w1.heap.size + 1) (w1.heap.size + 2) H wr AY nY cY ∧ Apart (.slice AX nX cX) (.slice AY nY cY) ∧ Below w.heap.size w wr ∧ w1.heap.size + 2 ≤ wr.heap.size) (fun i _ => n - (intOf i).toNat)
    case atStart => exact ⟨0, [], _, _, _, _, _, _, Nat.zero_le _, rfl, HOLD0.out, ⟨GY3.out, Own.nil _ _ _ _, rfl, by simp, by simp⟩, fun k h1 h2 => by simp [Value.ownBlock] at h2, T3.out, by omega⟩
    case round =>
      obtain ⟨k, H, AX, nX, cX, AY, nY, cY, hk, rfl, hX, hY, hap, hbel, hsz⟩ := hrel
      by_cases hlt : k < n ∧ k < 20
      · obtain ⟨ad, a, f, rfl, hf, ha, hc, hr, hfs⟩ := HL.out.at_ hlt.1
        have htl := total_take_le fs (k + 1)
        have htk := total_take_succ hf
        have hfl := hr.1
        have hcw : wr.cell? (ad.add k) = some (.slice a.A a.n a.c) := (hbel.cell (World.block_lt_of_cell? _ _ hc)).trans hc
        have hff : f.length ≤ 1048576 := by omega
        have hXg := hX.row.blk_ne hX.box (by decide)
        have hXg' := hX.row.blk_ne hY.box (by decide)
        have hYg := hY.row.blk_ne hX.box (by decide)
        have hcount := parse_count (H ++ f)
        have hsmall := parse_small (l := H ++ f) (by
          intro x hx
          rcases List.mem_append.1 hx with h | h
          · exact hX.small x h
          · exact hfs x h)
        rw [List.length_append] at hcount
        have hH5 := hX.few
        have HX := Lib.hid hX
        have HY := Lib.hid hY
        have AP := Lib.hid hap
        have BEL := Lib.hid hbel
        have HC := Lib.hid hc
        have HR := Lib.hid hr
        have HFS := Lib.hid hfs
        have HFL := Lib.hid hfl
        have XG := Lib.hid hXg
        have XG' := Lib.hid hXg'
        have YG := Lib.hid hYg
        have CNT := Lib.hid hcount
        have SML := Lib.hid hsmall
        clear hX hY hap hbel hc hr hfs hfl hf ha htl htk hXg hXg' hYg hcount hsmall
        obtain ⟨er, her⟩ : ∃ er, er = (parse (H ++ f)).2.1 := ⟨_, rfl⟩
        obtain ⟨gs, hgs⟩ : ∃ gs, gs = (parse (H ++ f)).1 := ⟨_, rfl⟩
        obtain ⟨R, hR⟩ : ∃ R, R = (parse (H ++ f)).2.2 := ⟨_, rfl⟩
        have ER := Lib.hid her
        have GS := Lib.hid hgs
        have RR := Lib.hid hR
        clear her hgs hR
        obtain ⟨hk1, hk2⟩ := hlt
        have mark : True := trivial
        go_wp2_with (first
          | (go_at_call 13; refine (feed_use (w1.heap.size + 1) AY nY cY H f (w1.heap.size + 2) a.A a.n a.c w4 BY4.out RY4.out (HR.out.below B4.out) HX.out.small HFS.out (by omega) (by have := HFL.out; omega)).mono ?_
             rintro e w5 ⟨Ao5, no5, co5, hs5, A5, n5, c5, F5, rfl, hno5, hn5, hli5, hbl5, how5, hF5, hk5⟩
             rw [← ER.out]
             rw [← GS.out] at hno5 hli5
             rw [← RR.out] at hn5 how5
             have b5 : Below w.heap.size w w5 := Below.keep B4.out hk5 (by omega) (fun b hb h => by
               rcases h with h | h
               · omega
               · have := HY.out.row.base_le h; omega)
             have li4 := LI4.out.keeps hk5 (fun b hb h => by
               have h4 := F4H.out b hb
               rcases h with h | h
               · rcases h4.2.2.2 with h' | h'
                 · have := HY.out.box.lt; omega
                 · exact XG'.out (by rw [h', h])
               · rcases h4.2.2.2 with h' | h'
                 · have := HY.out.row.lt h; omega
                 · exact AP.out b h' h)
             have bx5 := BX4.out.keeps hk5 (fun h => by
               rcases h with h | h
               · omega
               · exact YG.out h)
             have rx5 := RX4.out.keeps hk5 (fun b hb h => by
               rcases h with h | h
               · have := HY.out.box.lt; have := OX4.out b hb; omega
               · have := HY.out.row.lt h; have := OX4.out b hb; omega)
             have ap5 : Apart (.slice A4 n4 c4) (.slice A5 n5 c5) := (Apart.new (fun b hb => how5.base_le hb) (fun b hb => RX4.out.lt hb)).symm
             have hz5 := hk5.size
             have rows5 := how5.rebase (w1.heap.size + 2) (fun b hb => by have := how5.base_le hb; omega)
             have hsame := same_any _ _ _ _ Ao4 Ao5 no4 no5 co4 co5 w5 li4.lines hli5.lines (by have h2 := CNT.out; rw [NO4.out, GS.out]; omega)
             simp only [decide_true] at hsame
             have fin : ∀ q w11, w11 = w5.drewN q → Holds w1.heap.size (w1.heap.size + 2) R w11 A4 n4 c4 ∧ Holds (w1.heap.size + 1) (w1.heap.size + 2) R w11 A5 n5 c5 ∧ Apart (.slice A4 n4 c4) (.slice A5 n5 c5) ∧ Below w.heap.size w w11 ∧ w1.heap.size + 2 ≤ w11.heap.size := by
               rintro q w11 rfl
               have hs2 : ∀ x ∈ R, x < 256 := by rw [RR.out]; exact SML.out.2
               have hs3 : R.length ≤ 513 := by rw [RR.out]; exact CNT.out.2.1
               exact ⟨⟨bx5.drewN q, rx5.drewN q, N4.out, hs2, hs3⟩, ⟨hbl5.drewN q, rows5.drewN q, hn5, hs2, hs3⟩, ap5, Below.keep b5 ((Keeps.refl (fun _ => False) w5).drewN q) b5.size (fun _ _ h => h), by show _ ≤ w5.heap.size; omega⟩
             have hnn : n5 = n4 := by rw [hn5, N4.out]
             subst hnn
             have SAME := Lib.hid hsame
             have FIN := Lib.hid fin
             clear hno5 hn5 hli5 hbl5 how5 hF5 hk5 b5 li4 bx5 rx5 ap5 rows5 hsame fin)
          | (go_at_call 13; clear mark; refine (feed_use w1.heap.size AX nX cX H f (w1.heap.size + 2) a.A a.n a.c wr HX.out.box HX.out.row (HR.out.below BEL.out) HX.out.small HFS.out hsz (by have := HFL.out; omega)).mono ?_
             rintro e w4 ⟨Ao4, no4, co4, hs4, A4, n4, c4, F4, rfl, hno4, hn4, hli4, hbl4, how4, hF4, hk4⟩
             rw [← ER.out]
             rw [← GS.out] at hno4 hli4
             rw [← RR.out] at hn4 how4
             have b4 : Below w.heap.size w w4 := Below.keep BEL.out hk4 (by omega) (fun b hb h => by
               rcases h with h | h
               · omega
               · have := HX.out.row.base_le h; omega)
             have by4 := HY.out.box.keeps hk4 (fun h => by
               rcases h with h | h
               · omega
               · exact XG'.out h)
             have ry4 := HY.out.row.keeps hk4 (fun b hb h => by
               rcases h with h | h
               · subst h; exact YG.out hb
               · exact AP.out b h hb)
             have hz4 := hk4.size
             have ox4 : ∀ b, (Value.slice A4 n4 c4).ownBlock = some b → wr.heap.size ≤ b := fun b hb => how4.base_le hb
             have rx4 := how4.rebase (w1.heap.size + 2) (fun b hb => by have := how4.base_le hb; omega)
             have hcw4 : w4.cell? (ad.add k) = some (.slice a.A a.n a.c) := (b4.cell (World.block_lt_of_cell? _ _ HC.out)).trans HC.out
             have NO4 := Lib.hid hno4
             have N4 := Lib.hid hn4
             have LI4 := Lib.hid hli4
             have F4H := Lib.hid hF4
             have B4 := Lib.hid b4
             have BX4 := Lib.hid hbl4
             have RX4 := Lib.hid rx4
             have OX4 := Lib.hid ox4
             have BY4 := Lib.hid by4
             have RY4 := Lib.hid ry4
             clear hno4 hn4 hli4 hbl4 how4 hF4 hk4 b4 by4 ry4 ox4 rx4)
          | (go_at_call 14; refine SAME.out.mono ?_
             rintro e w11 ⟨q, rfl, hw11⟩
             have fin := FIN.out q w11 hw11
             have HA := Lib.hid (held_any w1.heap.size n5 c4 A4 w11 fin.1.box)
             have HB := Lib.hid (held_any (w1.heap.size + 1) n5 c5 A5 w11 fin.2.1.box)
             have FF := Lib.hid fin
             clear hw11 fin)
          | (go_at_call 15; refine HA.out.mono ?_
             rintro e w12 ⟨rfl, hw12⟩
             subst hw12)
          | (go_at_call 15; refine HB.out.mono ?_
             rintro e w12 ⟨rfl, hw12⟩
             subst hw12))
        refine ⟨⟨k + 1, R, A4, n5, c4, A5, n5, c5, by omega, by go_num, FF.out.1, FF.out.2.1, FF.out.2.2.1, FF.out.2.2.2.1, FF.out.2.2.2.2⟩, by simp [intOf]; omega⟩
      · have BEL := Lib.hid hbel
        clear hX hY hap hbel
        rcases (show ¬ k < n ∨ (k < n ∧ ¬ k < 20) by omega) with h | ⟨h, h'⟩
        all_goals
          go_wp2_with fail
          go_ret
          exact ⟨rfl, BEL.out⟩
  · have hh := parse_held L0 E0.out.symm
    have hnd := need_le hh
    have HHH := Lib.hid hh
    clear hh
    go_loopw [9, 10] (fun e i wr => ∃ (k : Nat) (H : List Nat) (AX : Option Addr) (nX cX : Nat), k ≤ 600 ∧ i = .int .i64 k ∧ Holds w1.heap.size (w1.heap.size + 2) H wr AX nX cX ∧ ((e = .int .i64 0 ∧ parse H = ([], 0, H) ∧ k + need H ≤ 515) ∨ (e = .int .i64 60 ∧ H = [])) ∧ Blk wr (w1.heap.size + 1) 47 #[.slice none 0 0] ∧ Below w.heap.size w wr ∧ w1.heap.size + 2 ≤ wr.heap.size) (fun _ i _ => 1100 - (intOf i).toNat)
    case atStart => exact ⟨0, (parse L0).2.2, A3, n3, c3, by omega, rfl, HOLD.out, .inl ⟨rfl, HHH.out, by omega⟩, GY3.out, T3.out, hz3⟩
    case round =>
      obtain ⟨k, H, AX, nX, cX, hk, rfl, hX, hcs, hgy, hbel, hsz⟩ := hrel
      rcases hcs with ⟨rfl, hpH, hnd2⟩ | ⟨rfl, rfl⟩
      · have hst := need_step hX.small hpH
        have hng : 1 ≤ need H := by
          unfold need
          split
          · split
            · omega
            · split <;> omega
          · omega
        have hpe := parse_err (H ++ [0])
        have hpc := parse_count (H ++ [0])
        have hph := parse_held (H ++ [0])
        have hps := parse_small (l := H ++ [0]) (by
          intro x hx
          rcases List.mem_append.1 hx with h | h
          · exact hX.small x h
          · simp at h; omega)
        have hH5 := hX.few
        have hgl := hX.box.lt
        have hXg := hX.row.blk_ne hgy (by decide)
        have hXg2 : ∀ b, (Value.slice AX nX cX).ownBlock = some b → w1.heap.size + 2 ≤ b := fun b hb => hX.row.base_le hb
        have HX := Lib.hid hX
        have GY := Lib.hid hgy
        have BEL := Lib.hid hbel
        have ST := Lib.hid hst
        have PE := Lib.hid hpe
        have PCC := Lib.hid hpc
        have PH := Lib.hid hph
        have PSS := Lib.hid hps
        have XG := Lib.hid hXg
        have XG2 := Lib.hid hXg2
        clear hX hgy hbel hst hpe hpc hph hps hXg hXg2 hpH
        obtain ⟨er, her⟩ : ∃ er, er = (parse (H ++ [0])).2.1 := ⟨_, rfl⟩
        have ER := Lib.hid her
        clear her
        have hk3 : k < 1100 := by omega
        go_wp2_with (go_at_call 13; refine (feed_use w1.heap.size AX nX cX H [0] (w1.heap.size + 2) (some ⟨wr.heap.size, 0, none⟩) 1 1 (wr.alloc (.cells #[.int .u8 0] 5)) (HX.out.box.alloc _) (HX.out.row.alloc _) ((Blk.new wr 5 #[.int .u8 0] _ rfl).reads [0] rfl rfl) HX.out.small (by decide) (by simp; omega) (by omega)).mono ?_
                     rintro e w4 ⟨Ao4, no4, co4, hs4, A4, n4, c4, F4, rfl, hno4, hn4, hli4, hbl4, how4, hF4, hk4⟩
                     rw [← ER.out]
                     have k4 := ((Keeps.refl (fun k => k = w1.heap.size ∨ (Value.slice AX nX cX).ownBlock = some k) wr).alloc (.cells #[.int .u8 0] 5)).trans hk4 (fun _ _ h => h)
                     have b4 : Below w.heap.size w w4 := Below.keep BEL.out k4 BEL.out.size (fun b hb h => by
                       rcases h with h | h
                       · omega
                       · have := XG2.out b h; omega)
                     have gy4 := GY.out.keeps k4 (fun h => by
                       rcases h with h | h
                       · omega
                       · exact XG.out h)
                     have rx4 := how4.rebase (w1.heap.size + 2) (fun b hb => by have := how4.base_le hb; simp at this; omega)
                     have hold4 : Holds w1.heap.size (w1.heap.size + 2) (parse (H ++ [0])).2.2 w4 A4 n4 c4 := ⟨hbl4, rx4, hn4, PSS.out.2, PCC.out.2.1⟩
                     have hz4 : w1.heap.size + 2 ≤ w4.heap.size := by have := k4.size; omega
                     have B4 := Lib.hid b4
                     have GY4 := Lib.hid gy4
                     have HOLD4 := Lib.hid hold4
                     clear hno4 hn4 hli4 hbl4 how4 hF4 hk4 k4 b4 gy4 rx4 hold4)
        refine ⟨⟨k + 1, (parse (H ++ [0])).2.2, A4, n4, c4, by omega, by go_num, HOLD4.out, ?_, GY4.out, B4.out, hz4⟩, by simp [intOf]; omega⟩
        rcases PE.out with h | h
        · have := ST.out h
          exact .inl ⟨by rw [ER.out, h], PH.out h, by omega⟩
        · exact .inr ⟨by rw [ER.out, h.1], h.2⟩
      · have HX := Lib.hid hX
        have GYW := Lib.hid hgy
        have TW := Lib.hid hbel
        clear hX hgy hbel
        obtain ⟨w2, hw2⟩ : ∃ w2, w2 = wr := ⟨_, rfl⟩
        rw [← hw2] at HX GYW TW hsz ⊢
        clear hw2
        have hnx : nX = 0 := HX.out.len
        have HH := Lib.hid (held_any w1.heap.size nX cX AX w2 HX.out.box)
        subst hnx
        have hbx := HX.out.box
        go_wp2_with (first
          | (go_at_call 15; refine HH.out.mono ?_
             rintro e w10 ⟨rfl, hw10⟩
             subst hw10))
        go_loopw [11] (fun i wr => ∃ (k : Nat) (H : List Nat) (AX : Option Addr) (nX cX : Nat) (AY : Option Addr) (nY cY : Nat), k ≤ n ∧ i = .int .i64 k ∧ Holds w1.heap.size (w1.heap.size + 2) H wr AX nX cX ∧ Holds (w1.heap.size + 1) (w1.heap.size + 2) H wr AY nY cY ∧ Apart (.slice AX nX cX) (.slice AY nY cY) ∧ Below w.heap.size w wr ∧ w1.heap.size + 2 ≤ wr.heap.size) (fun i _ => n - (intOf i).toNat)
        case atStart => exact ⟨0, [], _, _, _, _, _, _, Nat.zero_le _, rfl, HX.out, ⟨GYW.out, Own.nil _ _ _ _, rfl, by simp, by simp⟩, fun k h1 h2 => by simp [Value.ownBlock] at h2, TW.out, by omega⟩
        case round =>
          obtain ⟨k, H, AX, nX, cX, AY, nY, cY, hk, rfl, hX, hY, hap, hbel, hsz⟩ := hrel
          by_cases hlt : k < n ∧ k < 20
          · obtain ⟨ad, a, f, rfl, hf, ha, hc, hr, hfs⟩ := HL.out.at_ hlt.1
            have htl := total_take_le fs (k + 1)
            have htk := total_take_succ hf
            have hfl := hr.1
            have hcw : wr.cell? (ad.add k) = some (.slice a.A a.n a.c) := (hbel.cell (World.block_lt_of_cell? _ _ hc)).trans hc
            have hff : f.length ≤ 1048576 := by omega
            have hXg := hX.row.blk_ne hX.box (by decide)
            have hXg' := hX.row.blk_ne hY.box (by decide)
            have hYg := hY.row.blk_ne hX.box (by decide)
            have hcount := parse_count (H ++ f)
            have hsmall := parse_small (l := H ++ f) (by
              intro x hx
              rcases List.mem_append.1 hx with h | h
              · exact hX.small x h
              · exact hfs x h)
            rw [List.length_append] at hcount
            have hH5 := hX.few
            have HX := Lib.hid hX
            have HY := Lib.hid hY
            have AP := Lib.hid hap
            have BEL := Lib.hid hbel
            have HC := Lib.hid hc
            have HR := Lib.hid hr
            have HFS := Lib.hid hfs
            have HFL := Lib.hid hfl
            have XG := Lib.hid hXg
            have XG' := Lib.hid hXg'
            have YG := Lib.hid hYg
            have CNT := Lib.hid hcount
            have SML := Lib.hid hsmall
            clear hX hY hap hbel hc hr hfs hfl hf ha htl htk hXg hXg' hYg hcount hsmall
            obtain ⟨er, her⟩ : ∃ er, er = (parse (H ++ f)).2.1 := ⟨_, rfl⟩
            obtain ⟨gs, hgs⟩ : ∃ gs, gs = (parse (H ++ f)).1 := ⟨_, rfl⟩
            obtain ⟨R, hR⟩ : ∃ R, R = (parse (H ++ f)).2.2 := ⟨_, rfl⟩
            have ER := Lib.hid her
            have GS := Lib.hid hgs
            have RR := Lib.hid hR
            clear her hgs hR
            obtain ⟨hk1, hk2⟩ := hlt
            have mark : True := trivial
            go_wp2_with (first
              | (go_at_call 13; refine (feed_use (w1.heap.size + 1) AY nY cY H f (w1.heap.size + 2) a.A a.n a.c w4 BY4.out RY4.out (HR.out.below B4.out) HX.out.small HFS.out (by omega) (by have := HFL.out; omega)).mono ?_
                 rintro e w5 ⟨Ao5, no5, co5, hs5, A5, n5, c5, F5, rfl, hno5, hn5, hli5, hbl5, how5, hF5, hk5⟩
                 rw [← ER.out]
                 rw [← GS.out] at hno5 hli5
                 rw [← RR.out] at hn5 how5
                 have b5 : Below w.heap.size w w5 := Below.keep B4.out hk5 (by omega) (fun b hb h => by
                   rcases h with h | h
                   · omega
                   · have := HY.out.row.base_le h; omega)
                 have li4 := LI4.out.keeps hk5 (fun b hb h => by
                   have h4 := F4H.out b hb
                   rcases h with h | h
                   · rcases h4.2.2.2 with h' | h'
                     · have := HY.out.box.lt; omega
                     · exact XG'.out (by rw [h', h])
                   · rcases h4.2.2.2 with h' | h'
                     · have := HY.out.row.lt h; omega
                     · exact AP.out b h' h)
                 have bx5 := BX4.out.keeps hk5 (fun h => by
                   rcases h with h | h
                   · omega
                   · exact YG.out h)
                 have rx5 := RX4.out.keeps hk5 (fun b hb h => by
                   rcases h with h | h
                   · have := HY.out.box.lt; have := OX4.out b hb; omega
                   · have := HY.out.row.lt h; have := OX4.out b hb; omega)
                 have ap5 : Apart (.slice A4 n4 c4) (.slice A5 n5 c5) := (Apart.new (fun b hb => how5.base_le hb) (fun b hb => RX4.out.lt hb)).symm
                 have hz5 := hk5.size
                 have rows5 := how5.rebase (w1.heap.size + 2) (fun b hb => by have := how5.base_le hb; omega)
                 have hsame := same_any _ _ _ _ Ao4 Ao5 no4 no5 co4 co5 w5 li4.lines hli5.lines (by have h2 := CNT.out; rw [NO4.out, GS.out]; omega)
                 simp only [decide_true] at hsame
                 have fin : ∀ q w11, w11 = w5.drewN q → Holds w1.heap.size (w1.heap.size + 2) R w11 A4 n4 c4 ∧ Holds (w1.heap.size + 1) (w1.heap.size + 2) R w11 A5 n5 c5 ∧ Apart (.slice A4 n4 c4) (.slice A5 n5 c5) ∧ Below w.heap.size w w11 ∧ w1.heap.size + 2 ≤ w11.heap.size := by
                   rintro q w11 rfl
                   have hs2 : ∀ x ∈ R, x < 256 := by rw [RR.out]; exact SML.out.2
                   have hs3 : R.length ≤ 513 := by rw [RR.out]; exact CNT.out.2.1
                   exact ⟨⟨bx5.drewN q, rx5.drewN q, N4.out, hs2, hs3⟩, ⟨hbl5.drewN q, rows5.drewN q, hn5, hs2, hs3⟩, ap5, Below.keep b5 ((Keeps.refl (fun _ => False) w5).drewN q) b5.size (fun _ _ h => h), by show _ ≤ w5.heap.size; omega⟩
                 have hnn : n5 = n4 := by rw [hn5, N4.out]
                 subst hnn
                 have SAME := Lib.hid hsame
                 have FIN := Lib.hid fin
                 clear hno5 hn5 hli5 hbl5 how5 hF5 hk5 b5 li4 bx5 rx5 ap5 rows5 hsame fin)
              | (go_at_call 13; clear mark; refine (feed_use w1.heap.size AX nX cX H f (w1.heap.size + 2) a.A a.n a.c wr HX.out.box HX.out.row (HR.out.below BEL.out) HX.out.small HFS.out hsz (by have := HFL.out; omega)).mono ?_
                 rintro e w4 ⟨Ao4, no4, co4, hs4, A4, n4, c4, F4, rfl, hno4, hn4, hli4, hbl4, how4, hF4, hk4⟩
                 rw [← ER.out]
                 rw [← GS.out] at hno4 hli4
                 rw [← RR.out] at hn4 how4
                 have b4 : Below w.heap.size w w4 := Below.keep BEL.out hk4 (by omega) (fun b hb h => by
                   rcases h with h | h
                   · omega
                   · have := HX.out.row.base_le h; omega)
                 have by4 := HY.out.box.keeps hk4 (fun h => by
                   rcases h with h | h
                   · omega
                   · exact XG'.out h)
                 have ry4 := HY.out.row.keeps hk4 (fun b hb h => by
                   rcases h with h | h
                   · subst h; exact YG.out hb
                   · exact AP.out b h hb)
                 have hz4 := hk4.size
                 have ox4 : ∀ b, (Value.slice A4 n4 c4).ownBlock = some b → wr.heap.size ≤ b := fun b hb => how4.base_le hb
                 have rx4 := how4.rebase (w1.heap.size + 2) (fun b hb => by have := how4.base_le hb; omega)
                 have hcw4 : w4.cell? (ad.add k) = some (.slice a.A a.n a.c) := (b4.cell (World.block_lt_of_cell? _ _ HC.out)).trans HC.out
                 have NO4 := Lib.hid hno4
                 have N4 := Lib.hid hn4
                 have LI4 := Lib.hid hli4
                 have F4H := Lib.hid hF4
                 have B4 := Lib.hid b4
                 have BX4 := Lib.hid hbl4
                 have RX4 := Lib.hid rx4
                 have OX4 := Lib.hid ox4
                 have BY4 := Lib.hid by4
                 have RY4 := Lib.hid ry4
                 clear hno4 hn4 hli4 hbl4 how4 hF4 hk4 b4 by4 ry4 ox4 rx4)
              | (go_at_call 14; refine SAME.out.mono ?_
                 rintro e w11 ⟨q, rfl, hw11⟩
                 have fin := FIN.out q w11 hw11
                 have HA := Lib.hid (held_any w1.heap.size n5 c4 A4 w11 fin.1.box)
                 have HB := Lib.hid (held_any (w1.heap.size + 1) n5 c5 A5 w11 fin.2.1.box)
                 have FF := Lib.hid fin
                 clear hw11 fin)
              | (go_at_call 15; refine HA.out.mono ?_
                 rintro e w12 ⟨rfl, hw12⟩
                 subst hw12)
              | (go_at_call 15; refine HB.out.mono ?_
                 rintro e w12 ⟨rfl, hw12⟩
                 subst hw12))
            refine ⟨⟨k + 1, R, A4, n5, c4, A5, n5, c5, by omega, by go_num, FF.out.1, FF.out.2.1, FF.out.2.2.1, FF.out.2.2.2.1, FF.out.2.2.2.2⟩, by simp [intOf]; omega⟩
          · have BEL := Lib.hid hbel
            clear hX hY hap hbel
            rcases (show ¬ k < n ∨ (k < n ∧ ¬ k < 20) by omega) with h | ⟨h, h'⟩
            all_goals
              go_wp2_with fail
              go_ret
              exact ⟨rfl, BEL.out⟩
end Go.Proofs.Ytaccdbiajcnlaaa
