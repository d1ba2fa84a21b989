/- The document's timers: Set, Due, Clone: walked. -/
import Derived.Test.YteeginfbonfhlaaRef3
namespace Go.Proofs.Yteeginfbonfhlaa
open Go.RowKit Mem
section
variable {w w' : World} {G : Nat → Prop} {g : Nat} {c : Int} {L : List DU}
set_option maxHeartbeats 6400000 in
theorem rSet_any (h : RF w G g c L) (hn : L.length < 1000000) (hc : 0 ≤ c ∧ c ≤ 1125899906842624) (s : ByteArray) (i ticks : Int) (ht : isInt ticks) :
    Calls Try.prog 19 #[.pointer (some ⟨g, 0, none⟩), .string s, .int .i64 i, .int .i64 ticks] w fun e w' => e = .returned (.int .i64 (setE ticks)) ∧ ∃ G', RF w' G' g c (setL c L s i ticks) ∧ Step G G' w w' := by
  by_cases hb : ticks < 0 ∨ maxC < ticks
  · have hl := h.lies
    have T := Lib.hid h
    clear h
    unfold setE setL
    rw [if_pos hb, if_pos hb]
    unfold maxC at hb
    rcases (show ticks < 0 ∨ (¬ ticks < 0 ∧ 1125899906842624 < ticks) by omega) with hb | ⟨hb, hb2⟩
    all_goals
      go_enter Try.func19, Try.ntmps19
      go_wp2_with fail
      go_ret
      exact ⟨rfl, G, T.out, Step.of_keeps (Keeps.refl _ _) hl⟩
  · have he : setE ticks = 0 := by unfold setE; rw [if_neg hb]
    have hL : setL c L s i ticks = wo L s i ++ [setD c s i ticks] := by unfold setL; rw [if_neg hb]
    rw [he, hL]
    obtain ⟨A, n, cp, t, hG⟩ := h
    have b0 := t.box.cell 0
    have f1 := t.box.frozen 1
    simp at b0
    unfold maxC at hb
    have hb1 : ¬ ticks < 0 := fun e => hb (.inl e)
    have hb2 : ¬ (1125899906842624 < ticks) := fun e => hb (.inr e)
    have hw : IntKind.i64.wrap (c + ticks) = c + ticks := IntWalk.i64_in _ (by unfold isInt at ht; omega)
    have hll := wo_le L s i
    have hgl := t.box.lt
    have hlen := t.len
    have hd : setD c s i ticks = ⟨(if 1125899906842624 < c + ticks then 1125899906842624 else c + ticks), s, i⟩ := by
      unfold setD setAt maxC
      congr 1
      split <;> split <;> omega
    rw [hd]
    obtain ⟨v, hif⟩ : ∃ v : Int, (if 1125899906842624 < c + ticks then 1125899906842624 else c + ticks) = v := ⟨_, rfl⟩
    rw [hif]
    have ks : ∀ W, Keeps (fun _ => False) w W → W.cell? ⟨g, 0, none⟩ = some (.int .i64 c) := fun W k => k.cell (fun h => h) b0
    have fz : ∀ W, Keeps (fun _ => False) w W → ∃ u, W.cell? ⟨g, 1, none⟩ = some u ∧ W.frozen? ⟨g, 1, none⟩ = false := fun W k => by
      have b := t.box.keeps k (fun h => h)
      have b1 := b.cell 1
      simp at b1
      exact ⟨_, b1, b.frozen 1⟩
    have T := Lib.hid t
    have HG := Lib.hid hG
    have KS := Lib.hid ks
    have FZ := Lib.hid fz
    have HLL := Lib.hid hll
    clear t hG ks fz hb he hL hd hll
    go_enter Try.func19, Try.ntmps19
    go_upto_region 3 with fail
    go_region_held3 (fun W => W.cell? ⟨g, 0, none⟩ = some (.int .i64 c)) (first | exact Z0.out | exact KS.out _ (by (repeat first | assumption | exact Lib.Hid.out (by assumption) | exact Keeps.refl _ _ | refine Keeps.alloc ?_ _ | refine Keeps.drewN ?_ _ | refine Keeps.drew ?_ | refine Keeps.setCell ?_ _ _ (fun h => by simp at h <;> omega))) | fail) (first
      | (go_at_call 29; refine (without_any (T.out.keep0 ((Keeps.refl _ w).drew)) (by omega) s i).mono ?_
         rintro e w3 ⟨A3, n3, p3, rfl, o3, k3⟩
         have k3' : Keeps (fun _ => False) w w3 := ((Keeps.refl (fun _ => False) w).drew).trans k3 (fun _ _ h => h)
         have O3 := Lib.hid (show Own due w3 w.heap.size 34 (.slice A3 n3 p3) (wo L s i) from o3)
         have K3 := Lib.hid k3'
         clear o3 k3 k3')
      | (go_at_call 29; refine (without_any (T.out.keep0 (((Keeps.refl _ w).drew).alloc _)) (by omega) s i).mono ?_
         rintro e w3 ⟨A3, n3, p3, rfl, o3, k3⟩
         have k3' : Keeps (fun _ => False) w w3 := (((Keeps.refl (fun _ => False) w).drew).alloc _).trans k3 (fun _ _ h => h)
         have RB := Lib.hid ((Blk.new w.drew 34 #[.int .i64 v, .string s, .int .i64 i] w.heap.size rfl).keeps k3 (fun h => h))
         have O3 := Lib.hid (o3.rebase w.heap.size (fun q hq => by have := o3.base_le hq; simp at this; omega))
         have K3 := Lib.hid k3'
         clear o3 k3 k3')
      | (refine step_append elem40 (by rfl) (.tmp 19) (.tmp 30) (by rfl) w.heap.size (.slice A3 n3 p3) (wo L s i) [(⟨v, s, i⟩ : DU)] (some ⟨w3.heap.size, 0, none⟩) 1 1 (by rfl) (by rfl) (O3.out.alloc _) ((Blk.new w3 34 _ _ rfl).reads _ rfl rfl) (by have := HLL.out; omega) (by have := HLL.out; unfold maxLen; omega) (by have := K3.out.size; simp; omega) ?_
         intro k6 A6 c6 w6 hk6 own6 gr6 at6
         have k6' : Keeps (fun _ => False) w w6 := own_grow (K3.out.alloc _) gr6 (fun q hq => O3.out.base_le hq)
         obtain ⟨u6, y6, z6⟩ := FZ.out _ k6'
         have Z0 := Lib.hid (by simpa using (((T.out.box.keeps k6' (fun h => h)).set 1 (.slice A6 k6 c6)).cell 0) : (w6.setCell ⟨g, 1, none⟩ (.slice A6 k6 c6)).cell? ⟨g, 0, none⟩ = some (.int .i64 c))
         have O6 := Lib.hid own6
         have K6 := Lib.hid k6'
         clear own6 gr6 at6 hk6 k6')
      | (refine step_append elem40 (by rfl) (.tmp 19) (.tmp 30) (by rfl) w.heap.size (.slice A3 n3 p3) (wo L s i) [(⟨v, s, i⟩ : DU)] (some ⟨w.heap.size, 0, none⟩) 1 1 (by rfl) (by rfl) O3.out (RB.out.reads _ rfl rfl) (by have := HLL.out; omega) (by have := HLL.out; unfold maxLen; omega) K3.out.size ?_
         intro k6 A6 c6 w6 hk6 own6 gr6 at6
         have k6' : Keeps (fun _ => False) w w6 := own_grow K3.out gr6 (fun q hq => O3.out.base_le hq)
         obtain ⟨u6, y6, z6⟩ := FZ.out _ k6'
         have Z0 := Lib.hid (by simpa using (((T.out.box.keeps k6' (fun h => h)).set 1 (.slice A6 k6 c6)).cell 0) : (w6.setCell ⟨g, 1, none⟩ (.slice A6 k6 c6)).cell? ⟨g, 0, none⟩ = some (.int .i64 c))
         have O6 := Lib.hid own6
         have K6 := Lib.hid k6'
         clear own6 gr6 at6 hk6 k6')
      | fail)
    all_goals
      go_wp2_with fail
      go_ret
      obtain ⟨G', hr, hs⟩ := rf_new T.out HG.out K6.out O6.out
      exact ⟨rfl, G', hr, hs⟩
set_option maxHeartbeats 3200000 in
theorem rClone_any (h : RF w G g c L) (hn : L.length ≤ 1000000) :
    Calls Try.prog 17 #[.pointer (some ⟨g, 0, none⟩)] w fun e w' => ∃ g' G', e = .returned (.pointer (some ⟨g', 0, none⟩)) ∧ RF w' G' g' c L ∧ (∀ q, G' q → w.heap.size ≤ q) ∧ Keeps (fun _ => False) w w' := by
  obtain ⟨A, n, cp, t, hG⟩ := h
  have b0 := t.box.cell 0
  have b1 := t.box.cell 1
  simp at b0 b1
  have hlen := t.len
  have ks : ∀ W, Keeps (fun _ => False) w W → W.cell? ⟨g, 0, none⟩ = some (.int .i64 c) ∧ W.cell? ⟨g, 1, none⟩ = some (.slice A n cp) := fun W k => ⟨k.cell (fun h => h) b0, k.cell (fun h => h) b1⟩
  have rd : Reads due w A n L := own_reads t.row
  have KS := Lib.hid ks
  have RD := Lib.hid rd
  have hap : (0 + n) * 32 ≤ 140737488355328 := by omega
  have hap2 : 0 + n ≤ maxLen := by unfold maxLen; omega
  clear t hG ks rd
  go_enter Try.func17, Try.ntmps17
  go_upto_region 1 with fail
  go_region_held3 (fun W => W.cell? ⟨g, 0, none⟩ = some (.int .i64 c) ∧ W.cell? ⟨g, 1, none⟩ = some (.slice A n cp)) (exact KS.out _ (by (repeat first | assumption | exact Lib.Hid.out (by assumption) | exact Keeps.refl _ _ | refine Keeps.alloc ?_ _ | refine Keeps.drewN ?_ _ | refine Keeps.drew ?_ | refine Keeps.setCell ?_ _ _ (fun h => by simp at h <;> omega)))) (first
    | (refine step_append elem40 (by rfl) (.tmp 7) (.tmp 11) (by rfl) w.heap.size (.slice (some ⟨w.heap.size, 0, none⟩) 0 0) [] L A n cp (by rfl) (by rfl) (own_empty due w.drew 34 w.heap.size w.heap.size rfl (Nat.le_refl _)) (RD.out.drew.alloc _) hap hap2 (by simp) ?_
       intro k6 A6 c6 w6 hk6 own6 gr6 at6
       have k6' : Keeps (fun _ => False) w w6 := own_grow (((Keeps.refl (fun _ => False) w).drew).alloc _) gr6 (by simp [Value.ownBlock])
       rw [List.nil_append] at own6
       have O6 := Lib.hid own6
       have K6 := Lib.hid k6'
       clear own6 gr6 at6 hk6 k6')
    | fail)
  all_goals
    go_wp2_with fail
    go_ret
    have hl : L.length = k6 := O6.out.len_eq rfl
    have ka := K6.out.alloc (.cells #[.int .i64 c, .slice A6 k6 c6] 42)
    refine ⟨w6.heap.size, rfoot w6.heap.size A6, rfl, ⟨A6, k6, c6, ⟨Blk.new w6 42 _ _ rfl, (O6.out.alloc _).rebase 0 (fun _ _ => Nat.zero_le _)⟩, fun _ => Iff.rfl⟩, fun q hq => ?_, ka⟩
    rcases hq with rfl | hq
    · exact K6.out.size
    · exact O6.out.base_le (by rw [own_of]; exact hq)
end
end Go.Proofs.Yteeginfbonfhlaa
