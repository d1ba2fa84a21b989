/- The timers' calls that go to the heap: walked. -/
import Derived.Test.YteeginfbonfhlaaW7
namespace Go.Proofs.Yteeginfbonfhlaa
open Go.RowKit Mem
def maxC : Int := 1125899906842624
/-- When something set now is due. -/
def setAt (c ticks : Int) : Int := if c + ticks < maxC then c + ticks else maxC
def setD (c : Int) (s : ByteArray) (i ticks : Int) : DU := ⟨setAt c ticks, s, i⟩
/-- What Set answers: nought, or that the ticks may not be. -/
def setE (ticks : Int) : Int := if ticks < 0 ∨ maxC < ticks then 1 else 0
def setL (c : Int) (L : List DU) (s : ByteArray) (i ticks : Int) : List DU := if ticks < 0 ∨ maxC < ticks then L else wo L s i ++ [setD c s i ticks]
/-- The first one's time. -/
def firstI (L : List DU) : Int := match minD L with | some x => x.at_ | none => 0
def someB (L : List DU) : Bool := (minD L).isSome
section
variable {w w' : World} {F : Nat → Prop} {g : Nat} {c : Int} {L : List DU} {N : Nat}
theorem firstF (h : TF w F g c L N) (hN : N < 1000000) : Calls Try.prog 26 #[.pointer (some ⟨g, 0, none⟩)] w fun e w' => e = .returned (firstV (minD L)) ∧ TF w' F g c L N ∧ Keeps F w w' := by
  obtain ⟨mb, A, n, cp, H, t, hF⟩ := h
  refine (first_any t hN).mono ?_
  rintro e w' ⟨he, n', H', t', _, k⟩
  exact ⟨he, ⟨mb, A, n', cp, H', t', hF⟩, k.mono (fun q _ hq => (hF q).2 hq)⟩
theorem First_any (h : TF w F g c L N) (hN : N < 1000000) :
    Calls Try.prog 11 #[.pointer (some ⟨g, 0, none⟩)] w fun e w' => e = .returned (.tuple #[.int .i64 (firstI L), .bool (someB L)]) ∧ TF w' F g c L N ∧ Keeps F w w' := by
  have T := Lib.hid h
  have hl := h.lies
  clear h
  unfold firstI someB
  cases hm : minD L with
  | none =>
    have HM := Lib.hid hm
    clear hm
    go_enter Try.func11, Try.ntmps11
    go_wp2_with (go_at_call 26; refine (firstF T.out hN).mono ?_
                 rw [HM.out]
                 rintro e w2 ⟨rfl, t2, k2⟩
                 have T2 := Lib.hid t2
                 have K2 := Lib.hid k2
                 clear t2 k2
                 unfold firstV)
    go_ret2
    exact ⟨rfl, T2.out.keep ((Keeps.refl (fun _ => False) w2).alloc _) (fun _ _ h => h), K2.out.alloc _⟩
  | some x =>
    have HM := Lib.hid hm
    clear hm
    go_enter Try.func11, Try.ntmps11
    go_wp2_with (go_at_call 26; refine (firstF T.out hN).mono ?_
                 rw [HM.out]
                 rintro e w2 ⟨rfl, t2, k2⟩
                 have T2 := Lib.hid t2
                 have K2 := Lib.hid k2
                 clear t2 k2
                 unfold firstV)
    go_ret2
    exact ⟨rfl, T2.out.keep ((Keeps.refl (fun _ => False) w2).alloc _) (fun _ _ h => h), K2.out.alloc _⟩
/-- How far the clock goes. -/
def goTo (L : List DU) (x : Int) : Int := if someB L then min x (firstI L) else x
def goC (c : Int) (L : List DU) (x : Int) : Int := max c (min (goTo L x) maxC)
theorem goC_clk {c : Int} (h : 0 ≤ c ∧ c ≤ 1125899906842624) (L : List DU) (x : Int) : 0 ≤ goC c L x ∧ goC c L x ≤ 1125899906842624 := by
  unfold goC maxC
  omega
theorem go_key {w w2 : World} {F : Nat → Prop} {g mb : Nat} {A : Option Addr} {n cp : Nat} {c : Int} {H L : List DU} {N : Nat} {x v : Int} (ts : TS w2 g mb A n cp c H L N) (hF : ∀ q, F q ↔ tfoot g mb A q) (K : Keeps F w w2) (hv : goC c L x = v) :
    TF (w2.setCell ⟨g, 0, none⟩ (.int .i64 v)) F g (goC c L x) L N ∧ Keeps F w (w2.setCell ⟨g, 0, none⟩ (.int .i64 v)) := by
  subst hv
  have k : Keeps (fun q => q = g) w2 (w2.setCell ⟨g, 0, none⟩ (.int .i64 (goC c L x))) := (Keeps.refl (fun q => q = g) w2).setCell _ _ (fun _ => rfl)
  exact ⟨⟨mb, A, n, cp, H, ⟨ts.box.set 0 _, ts.map.keeps k (ts.map.ne_blk ts.box), ts.row.keeps k (fun q hq e => by rw [e] at hq; exact ts.row.blk_ne ts.box (by decide) hq), ts.heap, ts.sub, ts.unl, ts.ok, ts.few, goC_clk ts.clk L x⟩, hF⟩, K.setCell _ _ (fun _ => (hF g).2 (.inl rfl))⟩
theorem Go_any (h : TF w F g c L N) (hN : N < 1000000) (x : Int) :
    Calls Try.prog 13 #[.pointer (some ⟨g, 0, none⟩), .int .i64 x] w fun e w' => e = .returned (.tuple #[]) ∧ TF w' F g (goC c L x) L N ∧ Keeps F w w' := by
  have T := Lib.hid h
  clear h
  cases hb : someB L with
  | false =>
    have HB := Lib.hid hb
    have hg : goC c L x = max c (min x maxC) := by unfold goC goTo; rw [hb]; rfl
    have HG := Lib.hid hg
    clear hb hg
    go_enter Try.func13, Try.ntmps13
    go_wp2_with (go_at_call 11; refine (First_any T.out hN).mono ?_
                 rw [HB.out]
                 rintro e w2 ⟨rfl, t2, k2⟩
                 have K2 := Lib.hid k2
                 obtain ⟨mb, A, n, cp, H, ts, hF⟩ := t2
                 have b0 := ts.box.cell 0
                 have f0 := ts.box.frozen 0
                 simp at b0
                 have TS2 := Lib.hid ts
                 have HF := Lib.hid hF
                 clear ts hF k2)
    all_goals
      go_end0
      refine ⟨rfl, go_key TS2.out HF.out K2.out ?_⟩
      rw [HG.out]
      unfold maxC
      omega
  | true =>
    have HB := Lib.hid hb
    have hg : goC c L x = max c (min (min x (firstI L)) maxC) := by unfold goC goTo; rw [hb]; rfl
    have HG := Lib.hid hg
    clear hb hg
    go_enter Try.func13, Try.ntmps13
    go_wp2_with (go_at_call 11; refine (First_any T.out hN).mono ?_
                 rw [HB.out]
                 rintro e w2 ⟨rfl, t2, k2⟩
                 have K2 := Lib.hid k2
                 obtain ⟨mb, A, n, cp, H, ts, hF⟩ := t2
                 have b0 := ts.box.cell 0
                 have f0 := ts.box.frozen 0
                 simp at b0
                 have TS2 := Lib.hid ts
                 have HF := Lib.hid hF
                 clear ts hF k2)
    all_goals
      go_end0
      refine ⟨rfl, go_key TS2.out HF.out K2.out ?_⟩
      rw [HG.out]
      unfold maxC
      omega
theorem set_any (h : TF w F g c L N) (hN : N < 1000000) {s : ByteArray} {i : Int} (hs : isStr s) (hi : isInt i) (ticks : Int) (ht : isInt ticks) :
    Calls Try.prog 9 #[.pointer (some ⟨g, 0, none⟩), .string s, .int .i64 i, .int .i64 ticks] w fun e w' => e = .returned (.int .i64 (setE ticks)) ∧ ∃ F', TF w' F' g c (setL c L s i ticks) (N + 1) ∧ Step F F' w w' := by
  by_cases hb : ticks < 0 ∨ maxC < ticks
  · have hl := h.lies
    have T := Lib.hid h
    clear h
    unfold setE setL
    rw [if_pos hb, if_pos hb]
    unfold maxC at hb
    rcases (show ticks < 0 ∨ (¬ ticks < 0 ∧ 1125899906842624 < ticks) by omega) with hb | ⟨hb, hb2⟩
    all_goals
      go_enter Try.func9, Try.ntmps9
      go_wp2_with fail
      go_ret
      exact ⟨rfl, F, T.out.more (Nat.le_succ _), Step.of_keeps (Keeps.refl _ _) hl⟩
  · have he : setE ticks = 0 := by unfold setE; rw [if_neg hb]
    have hL : setL c L s i ticks = wo L s i ++ [setD c s i ticks] := by unfold setL; rw [if_neg hb]
    rw [he, hL]
    have hclk := h.clk
    have hlies := h.lies
    obtain ⟨mb, A, n, cp, H, t, hF⟩ := h
    have b0 := t.box.cell 0
    have b1 := t.box.cell 1
    simp at b0 b1
    unfold maxC at hb
    have hb1 : ¬ ticks < 0 := fun e => hb (.inl e)
    have hb2 : ¬ (1125899906842624 < ticks) := fun e => hb (.inr e)
    obtain ⟨v, hv⟩ : ∃ v, v = setAt c ticks := ⟨_, rfl⟩
    have hvr : 0 ≤ v ∧ v ≤ 1125899906842624 := by rw [hv]; unfold setAt maxC; split <;> omega
    have hvi : isInt v := by unfold isInt; omega
    have hw : IntKind.i64.wrap (c + ticks) = c + ticks := IntWalk.i64_in _ (by unfold isInt at ht; omega)
    obtain ⟨w2, hput, tm2, k2⟩ := t.map.put t.unl (d := ⟨v, s, i⟩) hs hi hvi hN
    have T := Lib.hid t
    have TM2 := Lib.hid tm2
    have K2 := Lib.hid k2
    have HF := Lib.hid hF
    have HV := Lib.hid hv
    clear t tm2 k2 hF hb hv he hL
    go_enter Try.func9, Try.ntmps9
    go_upto_region 3 with fail
    go_cut [9] (fun x wx => x = .int .i64 v ∧ wx = w)
    case first =>
      go_wp2_with fail
      all_goals
        go_meet
        refine ⟨?_, rfl⟩
        have hv := HV.out
        unfold setAt maxC at hv
        congr 1
        split at hv <;> omega
    case rest =>
      obtain ⟨rfl, rfl⟩ := hcut
      have hbx := T.out.box.keeps K2.out (fun e => T.out.map.ne_blk T.out.box e.symm)
      have hrow := T.out.row.keeps K2.out (fun q hq e => T.out.map.ne_own T.out.row (by rw [← e]; exact hq))
      have d2 := hbx.cell 2
      simp at d2
      have HBX := Lib.hid hbx
      have HROW := Lib.hid hrow
      clear hbx hrow
      go_wp2_with (
        go_at_call 25; refine (hpush_any g c (.map (some mb)) A n cp H ⟨v, s, i⟩ 0 w2 HBX.out HROW.out (by have := T.out.few; omega) (Nat.zero_le _) T.out.heap).mono ?_
        rintro e w3 ⟨rfl, b3, c3, H3, q3, h3, m3, f3, k3⟩
        have Q3 := Lib.hid q3
        have M3 := Lib.hid (And.intro h3 (And.intro m3 f3))
        have K3 := Lib.hid k3
        clear q3 h3 m3 f3 k3)
      go_ret
      have hd : setD c s i ticks = ⟨v, s, i⟩ := by unfold setD; rw [← HV.out]
      rw [hd]
      obtain ⟨hh, hm, hb⟩ := M3.out
      have hn : ¬ (mb = g ∨ (Value.slice A n cp).ownBlock = some mb) := fun e => by
        rcases e with e | e
        · exact T.out.map.ne_blk T.out.box e
        · exact T.out.map.ne_own T.out.row e
      have ts : TS w3 g mb (some ⟨b3, 0, none⟩) (n + 1) c3 c H3 (wo L s i ++ [⟨v, s, i⟩]) (N + 1) := ⟨Q3.out.box, TM2.out.keeps K3.out hn, Q3.out.row, hh, fun d hd => (hm d).2 (by
          rcases List.mem_append.1 hd with hd | hd
          · exact .inr (T.out.sub d (mem_wo.1 hd).1)
          · exact .inl (List.mem_singleton.1 hd)), set_unlike T.out.unl ⟨v, s, i⟩, fun d hd => (by
          rcases (hm d).1 hd with rfl | hd
          · exact ⟨hs, hi, hvr.1, hvr.2⟩
          · exact T.out.ok d hd), by have := T.out.few; omega, hclk⟩
      refine ⟨rfl, tfoot g mb (some ⟨b3, 0, none⟩), ⟨mb, _, n + 1, c3, H3, ts, fun _ => Iff.rfl⟩, ⟨(K2.out.mono (fun q _ e => (HF.out q).2 (.inr (.inl e)))).trans K3.out (fun q _ hq => (HF.out q).2 (by
          rcases hq with e | e
          · exact .inl e
          · exact .inr (.inr (by rw [← own_of A n cp]; exact e)))), fun q hq => ⟨?_, ts.lt hq⟩⟩⟩
      rcases hq with rfl | rfl | hq
      · exact .inl ((HF.out _).2 (.inl rfl))
      · exact .inl ((HF.out _).2 (.inr (.inl rfl)))
      · have hq' : b3 = q := by simpa [Value.ownBlock] using hq
        subst hq'
        rcases hb with hb | hb
        · exact .inl ((HF.out _).2 (.inr (.inr (by rw [← own_of A n cp]; exact hb))))
        · exact .inr (Nat.le_trans K2.out.size hb)
theorem TF.clock (h : TF w F g c L N) : w.cell? ⟨g, 0, none⟩ = some (.int .i64 c) := by
  obtain ⟨mb, A, n, cp, H, t, hF⟩ := h
  have b0 := t.box.cell 0
  simpa using b0
/-- What comes due. -/
def dueR (c : Int) (L : List DU) : Option DU := match minD L with | some x => if x.at_ ≤ c then some x else none | none => none
def dueL (c : Int) (L : List DU) : List DU := match dueR c L with | some x => wo L x.key x.kind | none => L
set_option maxHeartbeats 3200000 in
theorem due_no (h : TF w F g c L N) (hN : N < 1000000) (hd : dueR c L = none) :
    Calls Try.prog 14 #[.pointer (some ⟨g, 0, none⟩)] w fun e w' => e = .returned (firstV none) ∧ TF w' F g c L N ∧ Keeps F w w' := by
  obtain ⟨w1, hw1⟩ : ∃ w1, w1 = w.alloc (.cells #[.int .i64 0, .string ⟨#[]⟩, .int .i64 0] 34) := ⟨_, rfl⟩
  have k1 : Keeps (fun _ => False) w w1 := by rw [hw1]; exact (Keeps.refl _ w).alloc _
  have r1 : Blk w1 w.heap.size 34 #[.int .i64 0, .string ⟨#[]⟩, .int .i64 0] := by rw [hw1]; exact Blk.new w 34 _ _ rfl
  have T1 := Lib.hid (h.keep k1 (fun _ _ h => h))
  have R1 := Lib.hid r1
  have K1 := Lib.hid k1
  have HW := Lib.hid hw1
  have HL := Lib.hid h.lies
  clear h k1 r1 hw1
  have finish : ∀ (w3 : World), TF w3 F g c L N → Blk w3 w.heap.size 34 #[.int .i64 0, .string ⟨#[]⟩, .int .i64 0] → Keeps F w1 w3 → TF (((w3.setCell ⟨w.heap.size, 0, none⟩ (.int .i64 0)).setCell ⟨w.heap.size, 1, none⟩ (.string ⟨#[]⟩)).setCell ⟨w.heap.size, 2, none⟩ (.int .i64 0)) F g c L N ∧ Keeps F w (((w3.setCell ⟨w.heap.size, 0, none⟩ (.int .i64 0)).setCell ⟨w.heap.size, 1, none⟩ (.string ⟨#[]⟩)).setCell ⟨w.heap.size, 2, none⟩ (.int .i64 0)) := fun w3 t r k => by
    have kz : Keeps (fun q => q = w.heap.size) w3 (((w3.setCell ⟨w.heap.size, 0, none⟩ (.int .i64 0)).setCell ⟨w.heap.size, 1, none⟩ (.string ⟨#[]⟩)).setCell ⟨w.heap.size, 2, none⟩ (.int .i64 0)) := (((Keeps.refl (fun q => q = w.heap.size) w3).setCell _ _ (fun _ => rfl)).setCell _ _ (fun _ => rfl)).setCell _ _ (fun _ => rfl)
    exact ⟨t.keep kz (fun q hq e => by have := (HL.out q hq).2; omega), ((K1.out.mono (S' := F) (fun _ _ h => h.elim)).trans k (fun _ _ h => h)).trans kz (fun q hq e => by omega)⟩
  have FIN := Lib.hid finish
  clear finish
  rcases (show minD L = none ∨ ∃ x, minD L = some x ∧ ¬ x.at_ ≤ c by
    unfold dueR at hd
    cases hm : minD L with
    | none => exact .inl rfl
    | some x =>
      rw [hm] at hd
      refine .inr ⟨x, rfl, fun hle => ?_⟩
      simp [hle] at hd) with hm | ⟨x, hm, hlt⟩
  · have HM := Lib.hid hm
    clear hm hd
    go_enter Try.func14, Try.ntmps14
    go_upto_region 1 with fail
    rw [← HW.out]
    go_upto_region 2 with (
      go_at_call 26; refine (firstF T1.out hN).mono ?_
      rw [HM.out]
      rintro e w2 ⟨rfl, t2, k2⟩
      have r2 := R1.out.keeps k2 (fun e => by have := (HL.out _ e).2; omega)
      have T2 := Lib.hid t2
      have R2 := Lib.hid r2
      have K2 := Lib.hid k2
      clear t2 r2 k2
      unfold firstV)
    obtain ⟨w3, hw3⟩ : ∃ w3, w3 = w2.alloc (.cells #[.int .i64 0, .string ⟨#[]⟩, .int .i64 0] 34) := ⟨_, rfl⟩
    rw [← hw3]
    have k3 : Keeps (fun _ => False) w2 w3 := by rw [hw3]; exact (Keeps.refl _ w2).alloc _
    have r3 := R2.out.keeps k3 (fun h => h)
    have T3 := Lib.hid (T2.out.keep k3 (fun _ _ h => h))
    have K3 := Lib.hid (K2.out.trans k3 (fun _ _ h => h.elim))
    have l0 := r3.cell 0
    have l1 := r3.cell 1
    have l2 := r3.cell 2
    have e0 := r3.frozen 0
    have e1 := r3.frozen 1
    have e2 := r3.frozen 2
    simp at l0 l1 l2
    have R3 := Lib.hid r3
    clear r3 k3 hw3
    go_quiet (fail)
    go_wp2_with fail
    obtain ⟨tz, kz⟩ := FIN.out (w3.drewN nq) (T3.out.keep ((Keeps.refl (fun _ => False) w3).drewN nq) (fun _ _ h => h)) (R3.out.drewN nq) (K3.out.drewN nq)
    have hb3 : Blk ((((w3.drewN nq).setCell ⟨w.heap.size, 0, none⟩ (.int .i64 0)).setCell ⟨w.heap.size, 1, none⟩ (.string ⟨#[]⟩)).setCell ⟨w.heap.size, 2, none⟩ (.int .i64 0)) w.heap.size 34 #[.int .i64 0, .string ⟨#[]⟩, .int .i64 0] := (((R3.out.drewN nq).set 0 _).set 1 _).set 2 _
    (try simp only [Exit.inBlock, Exit.then])
    refine bodyPost_ret (results_cell_row_tmp rfl _ _ w.heap.size 34 #[.int .i64 0, .string ⟨#[]⟩, .int .i64 0] (0, 0) _ rfl hb3 Try.underlying34 rfl (by kernel_rfl)) rfl ?_
    exact ⟨rfl, tz, kz⟩
  · have HM := Lib.hid hm
    have hlt2 : c < x.at_ := by omega
    clear hm hd
    go_enter Try.func14, Try.ntmps14
    go_upto_region 1 with fail
    rw [← HW.out]
    go_upto_region 2 with (
      go_at_call 26; refine (firstF T1.out hN).mono ?_
      rw [HM.out]
      rintro e w2 ⟨rfl, t2, k2⟩
      have r2 := R1.out.keeps k2 (fun e => by have := (HL.out _ e).2; omega)
      have T2 := Lib.hid t2
      have R2 := Lib.hid r2
      have K2 := Lib.hid k2
      clear t2 r2 k2
      unfold firstV)
    obtain ⟨w3, hw3⟩ : ∃ w3, w3 = w2.alloc (.cells #[.int .i64 x.at_, .string x.key, .int .i64 x.kind] 34) := ⟨_, rfl⟩
    rw [← hw3]
    have k3 : Keeps (fun _ => False) w2 w3 := by rw [hw3]; exact (Keeps.refl _ w2).alloc _
    have x3 : Blk w3 w2.heap.size 34 #[.int .i64 x.at_, .string x.key, .int .i64 x.kind] := by rw [hw3]; exact Blk.new w2 34 _ _ rfl
    have r3 := R2.out.keeps k3 (fun h => h)
    have t3 := T2.out.keep k3 (fun _ _ h => h)
    have T3 := Lib.hid t3
    have K3 := Lib.hid (K2.out.trans k3 (fun _ _ h => h.elim))
    have c0 := t3.clock
    have y0 := x3.cell 0
    have l0 := r3.cell 0
    have l1 := r3.cell 1
    have l2 := r3.cell 2
    have e0 := r3.frozen 0
    have e1 := r3.frozen 1
    have e2 := r3.frozen 2
    simp at l0 l1 l2 y0
    have R3 := Lib.hid r3
    clear r3 t3 k3 x3 hw3
    go_quiet (fail)
    go_wp2_with fail
    obtain ⟨tz, kz⟩ := FIN.out (w3.drewN nq) (T3.out.keep ((Keeps.refl (fun _ => False) w3).drewN nq) (fun _ _ h => h)) (R3.out.drewN nq) (K3.out.drewN nq)
    have hb3 : Blk ((((w3.drewN nq).setCell ⟨w.heap.size, 0, none⟩ (.int .i64 0)).setCell ⟨w.heap.size, 1, none⟩ (.string ⟨#[]⟩)).setCell ⟨w.heap.size, 2, none⟩ (.int .i64 0)) w.heap.size 34 #[.int .i64 0, .string ⟨#[]⟩, .int .i64 0] := (((R3.out.drewN nq).set 0 _).set 1 _).set 2 _
    (try simp only [Exit.inBlock, Exit.then])
    refine bodyPost_ret (results_cell_row_tmp rfl _ _ w.heap.size 34 #[.int .i64 0, .string ⟨#[]⟩, .int .i64 0] (0, 0) _ rfl hb3 Try.underlying34 rfl (by kernel_rfl)) rfl ?_
    exact ⟨rfl, tz, kz⟩
end
theorem drop_core {w : World} {g mb : Nat} {c : Int} {V : Value} {L : List DU} {N : Nat} (hb : Blk w g 54 #[.int .i64 c, .map (some mb), V]) (tm : TM w mb N L) (hu : Unlike L) {s : ByteArray} {i : Int} (hs : isStr s) (hi : isInt i) :
    Calls Try.prog 12 #[.pointer (some ⟨g, 0, none⟩), .string s, .int .i64 i] w fun e w' => e = .returned (.bool (getA L s i).isSome) ∧ TM w' mb N (wo L s i) ∧ Keeps (fun q => q = mb) w w' := by
  have b1 := hb.cell 1
  simp at b1
  have hlook := tm.look hs hi
  obtain ⟨w2, hdel, tm2, k2⟩ := tm.del hu hs hi 0
  have TM2 := Lib.hid tm2
  have K2 := Lib.hid k2
  clear tm tm2 k2 hb
  go_enter Try.func12, Try.ntmps12
  go_wp2_with fail
  go_ret
  exact ⟨rfl, TM2.out, K2.out⟩
section
variable {w w' : World} {F : Nat → Prop} {g : Nat} {c : Int} {L : List DU} {N : Nat}
set_option maxHeartbeats 3200000 in
theorem due_yes (h : TF w F g c L N) (hN : N < 1000000) {x : DU} (hm : minD L = some x) (hle : x.at_ ≤ c) :
    Calls Try.prog 14 #[.pointer (some ⟨g, 0, none⟩)] w fun e w' => e = .returned (firstV (some x)) ∧ TF w' F g c (wo L x.key x.kind) N ∧ Keeps F w w' := by
  obtain ⟨w1, hw1⟩ : ∃ w1, w1 = w.alloc (.cells #[.int .i64 0, .string ⟨#[]⟩, .int .i64 0] 34) := ⟨_, rfl⟩
  have k1 : Keeps (fun _ => False) w w1 := by rw [hw1]; exact (Keeps.refl _ w).alloc _
  have r1 : Blk w1 w.heap.size 34 #[.int .i64 0, .string ⟨#[]⟩, .int .i64 0] := by rw [hw1]; exact Blk.new w 34 _ _ rfl
  have HLF := Lib.hid h.lies
  obtain ⟨mb, A, n, cp, H, t, hF⟩ := h
  have T1 := Lib.hid (t.keep0 k1)
  have HF := Lib.hid hF
  have R1 := Lib.hid r1
  have K1 := Lib.hid k1
  have HW := Lib.hid hw1
  have HM := Lib.hid hm
  have hnlt : ¬ c < x.at_ := by omega
  clear t hF k1 r1 hw1 hm
  go_enter Try.func14, Try.ntmps14
  go_upto_region 1 with fail
  rw [← HW.out]
  go_upto_region 2 with (
    go_at_call 26; refine (first_any T1.out hN).mono ?_
    rw [HM.out]
    rintro e w2 ⟨rfl, n2, H2, t2, hx2, k2⟩
    have r2 := R1.out.keeps k2 (fun e => by have := (HLF.out _ ((HF.out _).2 e)).2; omega)
    have T2 := Lib.hid t2
    have HX2 := Lib.hid (hx2 x rfl)
    have R2 := Lib.hid r2
    have K2 := Lib.hid k2
    clear t2 r2 k2 hx2
    unfold firstV)
  obtain ⟨w3, hw3⟩ : ∃ w3, w3 = w2.alloc (.cells #[.int .i64 x.at_, .string x.key, .int .i64 x.kind] 34) := ⟨_, rfl⟩
  rw [← hw3]
  have k3 : Keeps (fun _ => False) w2 w3 := by rw [hw3]; exact (Keeps.refl _ w2).alloc _
  have x3 : Blk w3 w2.heap.size 34 #[.int .i64 x.at_, .string x.key, .int .i64 x.kind] := by rw [hw3]; exact Blk.new w2 34 _ _ rfl
  have r3 := R2.out.keeps k3 (fun h => h)
  have t3 := T2.out.keep0 k3
  obtain ⟨hx0, hn2⟩ := HX2.out
  obtain ⟨m, hmn⟩ : ∃ m, n2 = m + 1 := ⟨n2 - 1, by omega⟩
  subst hmn
  obtain ⟨b, _, hv, _⟩ := t3.row.form (by rw [t3.len]; omega)
  injection hv with hA hn3 hc3
  subst hA
  have hlt2 : w.heap.size < w2.heap.size := R2.out.lt
  have hxok : okD x := t3.ok x ((fn_mem H2 x).2 ⟨0, by rw [t3.len]; omega, hx0⟩)
  have T3 := Lib.hid t3
  have K3 := Lib.hid (K2.out.trans k3 (fun _ _ h => h.elim))
  have c0 := t3.box.cell 0
  have y0 := x3.cell 0
  have y1 := x3.cell 1
  have y2 := x3.cell 2
  simp at c0 y0 y1 y2
  have X3 := Lib.hid x3
  have R3 := Lib.hid r3
  have HX0 := Lib.hid hx0
  clear r3 t3 k3 x3 hw3 hn3 hc3 hx0
  go_quiet (fail)
  have hgF : g < w.heap.size := (HLF.out g ((HF.out g).2 (.inl rfl))).2
  have hmF : mb < w.heap.size := (HLF.out mb ((HF.out mb).2 (.inr (.inl rfl)))).2
  have hbF : b < w.heap.size := (HLF.out b ((HF.out b).2 (.inr (.inr rfl)))).2
  have hmg : mb ≠ g := T3.out.map.ne_blk T3.out.box
  have hmb : mb ≠ b := fun e => T3.out.map.ne_own T3.out.row (by rw [e]; rfl)
  go_wp2_with (first
    | (go_at_call 12; refine (drop_core Q4.out.box TM4.out T3.out.unl hxok.1 hxok.2.1).mono ?_
       rintro e w5 ⟨rfl, tm5, k5⟩
       have x5 := X4.out.keeps k5 (fun e => by omega)
       have r5 := R4.out.keeps k5 (fun e => by omega)
       have z0 := x5.cell 0
       have z1 := x5.cell 1
       have z2 := x5.cell 2
       have l0 := r5.cell 0
       have l1 := r5.cell 1
       have l2 := r5.cell 2
       have e0 := r5.frozen 0
       have e1 := r5.frozen 1
       have e2 := r5.frozen 2
       simp at z0 z1 z2 l0 l1 l2
       have TM5 := Lib.hid tm5
       have R5 := Lib.hid r5
       have K5 := Lib.hid k5
       clear tm5 k5 x5 r5)
    | (go_at_call 27; refine (hpop_any g c (.map (some mb)) b m cp H2 0 (w3.drewN nq) ⟨T3.out.box.drewN _, T3.out.row.drewN _⟩ (by have := T3.out.few; omega) T3.out.heap).mono ?_
       rintro e w4 ⟨⟨v4, rfl⟩, H4, q4, h4, m4, n4, k4⟩
       have k4' : Keeps (fun q => q = g ∨ q = b) w3 w4 := ((Keeps.refl (fun q => q = g ∨ q = b) w3).drewN nq).trans k4 (fun _ _ h => h)
       have x4 := X3.out.keeps k4' (fun e => by omega)
       have y1 := x4.cell 1
       have y2 := x4.cell 2
       simp at y1 y2
       have X4 := Lib.hid x4
       have R4 := Lib.hid (R3.out.keeps k4' (fun e => by omega))
       have TM4 := Lib.hid (T3.out.map.keeps k4' (fun e => by omega))
       have Q4 := Lib.hid q4
       have H4' := Lib.hid (And.intro h4 (And.intro m4 n4))
       have K4 := Lib.hid k4'
       clear q4 h4 m4 n4 k4 k4' x4))
  have hb3 : Blk (((w5.setCell ⟨w.heap.size, 0, none⟩ (.int .i64 x.at_)).setCell ⟨w.heap.size, 1, none⟩ (.string x.key)).setCell ⟨w.heap.size, 2, none⟩ (.int .i64 x.kind)) w.heap.size 34 #[.int .i64 x.at_, .string x.key, .int .i64 x.kind] := ((R5.out.set 0 _).set 1 _).set 2 _
  (try simp only [Exit.inBlock, Exit.then])
  refine bodyPost_ret (results_cell_row_tmp rfl _ _ w.heap.size 34 #[.int .i64 x.at_, .string x.key, .int .i64 x.kind] (0, 0) _ rfl hb3 Try.underlying34 rfl (by kernel_rfl)) rfl ?_
  have kz : Keeps (fun q => q = w.heap.size) w5 (((w5.setCell ⟨w.heap.size, 0, none⟩ (.int .i64 x.at_)).setCell ⟨w.heap.size, 1, none⟩ (.string x.key)).setCell ⟨w.heap.size, 2, none⟩ (.int .i64 x.kind)) := (((Keeps.refl (fun q => q = w.heap.size) w5).setCell _ _ (fun _ => rfl)).setCell _ _ (fun _ => rfl)).setCell _ _ (fun _ => rfl)
  have hsub : ∀ d ∈ wo L x.key x.kind, d ∈ H4 := fun d hd => by
    obtain ⟨h1, h2⟩ := mem_wo.1 hd
    refine H4'.out.2.2 d (T3.out.sub d h1) (fun e => ?_)
    rw [HX0.out] at e
    subst e
    rw [same_self] at h2
    cases h2
  have hrow5 : Own due w5 0 34 (.slice (some ⟨b, 0, none⟩) m cp) H4 := Q4.out.row.keeps K5.out (fun q hq e => by
    have h1 : b = q := by simpa [Value.ownBlock] using hq
    omega)
  have ts5 : TS w5 g mb (some ⟨b, 0, none⟩) m cp c H4 (wo L x.key x.kind) N := ⟨Q4.out.box.keeps K5.out (fun e => hmg e.symm), TM5.out, hrow5, H4'.out.1, hsub, wo_unlike T3.out.unl _ _, fun d hd => T3.out.ok d (H4'.out.2.1 d hd), by have := T3.out.few; omega, T3.out.clk⟩
  refine ⟨rfl, ⟨mb, _, m, cp, H4, ts5.keep kz (fun q hq e => ?_), HF.out⟩, ?_⟩
  · have := (HLF.out q ((HF.out q).2 hq)).2
    omega
  · have ka : Keeps F w w3 := ((K1.out.mono (S' := F) (fun _ _ h => h.elim)).trans K3.out (fun q _ hq => (HF.out q).2 hq))
    have kb : Keeps F w w4 := ka.trans K4.out (fun q _ hq => (HF.out q).2 (by
      rcases hq with rfl | rfl
      · exact .inl rfl
      · exact .inr (.inr rfl)))
    have kc : Keeps F w w5 := kb.trans K5.out (fun q _ hq => (HF.out q).2 (.inr (.inl hq)))
    exact kc.trans kz (fun q hq e => by omega)
theorem due_any (h : TF w F g c L N) (hN : N < 1000000) :
    Calls Try.prog 14 #[.pointer (some ⟨g, 0, none⟩)] w fun e w' => e = .returned (firstV (dueR c L)) ∧ TF w' F g c (dueL c L) N ∧ Keeps F w w' := by
  cases hd : dueR c L with
  | none =>
    have hl : dueL c L = L := by unfold dueL; rw [hd]
    rw [hl]
    exact due_no h hN hd
  | some x =>
    have hl : dueL c L = wo L x.key x.kind := by unfold dueL; rw [hd]
    rw [hl]
    unfold dueR at hd
    cases hm : minD L with
    | none => rw [hm] at hd; cases hd
    | some y =>
      rw [hm] at hd
      by_cases hle : y.at_ ≤ c
      · simp only [hle, if_true] at hd
        injection hd with hd
        subst hd
        exact due_yes h hN hm hle
      · simp [hle] at hd
end
end Go.Proofs.Yteeginfbonfhlaa
