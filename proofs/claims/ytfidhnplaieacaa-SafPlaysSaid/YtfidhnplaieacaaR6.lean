/- A message put into the document's queue: walked. -/
import Derived.Test.YtfidhnplaieacaaR5
import Derived.Deep.RegionLaw
import Derived.Deep.CutBlock
import Derived.Deep.DeepCutAuto
namespace Go.Proofs.Ytfidhnplaieacaa
open Go.RowKit Mem
section
variable {w w' : World} {g most : Nat} {A : Option Addr} {n c : Nat} {way : Bool} {l : List AD}
set_option maxHeartbeats 6400000 in
theorem refPut_ok (d : QR w g most A n c way l) (s : ByteArray) (ty : Int) (Am : Option Addr) (nm cm : Nat) (fs : List FD) (hr : Reads fld w Am nm fs) (hh : hasN l s = false) (hfull : n ≠ most) (hn : nm * 24 ≤ 140737488355328) :
    Calls Try.prog 21 #[.pointer (some ⟨g, 0, none⟩), .string s, .agg #[.int .i64 ty, .slice Am nm cm]] w fun e w' => e = .returned (.int .i64 0) ∧ ∃ a A' c', a.name = s ∧ a.ty = ty ∧ a.fs = fs ∧ (∀ q, (Value.slice a.A a.n a.c).ownBlock = some q → w.heap.size ≤ q) ∧ QR w' g most A' (n + 1) c' way (l ++ [a]) ∧ (∀ q, (Value.slice A' (n + 1) c').ownBlock = some q → w.heap.size ≤ q) ∧ Keeps (fun b => b = g) w w' := by
  have HH := Lib.hid hh
  clear hh
  obtain ⟨w0, hw0⟩ : ∃ w0, w0 = w.alloc (.cells #[.int .i64 ty, .slice Am nm cm] 32) := ⟨_, rfl⟩
  have k0 : Keeps (fun _ => False) w w0 := by rw [hw0]; exact (Keeps.refl _ w).alloc _
  have bm : Blk w0 w.heap.size 32 #[.int .i64 ty, .slice Am nm cm] := by rw [hw0]; exact Blk.new _ 32 _ _ rfl
  have dd := d.keep k0
  have e0 := dd.box.cell 0
  have e1 := dd.box.cell 1
  simp at e0 e1
  have m0 := bm.cell 0
  have m1 := bm.cell 1
  simp at m0 m1
  have hlen : l.length = n := d.row.len_eq rfl
  have hfewm := d.few
  have hroom := d.room
  have hgl := d.box.lt
  have el := elem70
  have D := Lib.hid d
  have D0 := Lib.hid dd
  have K0 := Lib.hid k0
  have BM := Lib.hid bm
  have R := Lib.hid (hr.keeps k0 (fun _ _ _ h => h))
  have HW := Lib.hid hw0
  have HL := Lib.hid hlen
  clear d dd k0 bm hr hw0 hlen
  go_enter Try.func21, Try.ntmps21
  go_upto_region 1 with fail
  rw [← HW.out]
  go_wp2_with fail
  go_loopw [7] (fun v wr => ∃ k q : Nat, k ≤ n ∧ v = .int .i64 k ∧ wr = w0.drewN q ∧ hasN (l.take k) s = false) (fun v _ => n - (intOf v).toNat)
  case atStart => exact ⟨0, 0, Nat.zero_le _, rfl, rfl, rfl⟩
  case round =>
    obtain ⟨k, q, hk, rfl, hwr, hf⟩ := hrel
    subst hwr
    have HF := Lib.hid hf
    clear hf
    by_cases hkn : k < n
    · obtain ⟨a, ha⟩ : ∃ a, l[k]? = some a := ⟨_, List.getElem?_eq_getElem (by rw [HL.out]; exact hkn)⟩
      obtain ⟨ad, hA, hc⟩ := (own_reads D0.out.row).at_ ha
      subst hA
      have q0 := hc 0 _ rfl
      simp [adv] at q0
      have ht := anyN_take (s := s) ha
      rw [HF.out, Bool.false_or] at ht
      have HT := Lib.hid ht
      clear hc ha ht
      by_cases hm : (a.name.toList == s.toList) = true
      · have ho := hasN_take (HT.out.trans hm)
        rw [HH.out] at ho
        cases ho
      · have hm2 : (a.name.toList == s.toList) = false := by simpa using hm
        clear hm
        have HM := Lib.hid hm2
        go_wp2_with fail
        exact ⟨⟨k + 1, q, by omega, by go_num, by first | rfl | trivial, HT.out.trans HM.out⟩, by simp [intOf]; omega⟩
    · clear HF
      have s1 : ((n : Int) == (most : Int)) = false := by simp; omega
      go_wp2_with fail
      go_quiet (fail)
      go_upto_region 8 with fail
      go_cut [8] (fun v wx => ∃ (X : Nat) (A4 : Option Addr) (c4 : Nat), v = .pointer (some ⟨X, 0, none⟩) ∧ Blk wx X 32 #[.int .i64 ty, .slice A4 nm c4] ∧ Own fld wx w.heap.size 51 (.slice A4 nm c4) fs ∧ Keeps (fun _ => False) w wx)
      case first =>
        have hlt0 : w.heap.size < w0.heap.size := BM.out.lt
        have hgl0 : g < w0.heap.size := by omega
        have ks : ∀ W, Keeps (fun _ => False) w0 W → W.cell? ⟨w.heap.size, 0, none⟩ = some (.int .i64 ty) ∧ W.cell? ⟨w.heap.size, 1, none⟩ = some (.slice Am nm cm) := fun W k => ⟨k.cell (fun h => h) m0, k.cell (fun h => h) m1⟩
        have KS := Lib.hid ks
        have hap : (0 + nm) * 24 ≤ 140737488355328 := by omega
        have hap2 : 0 + nm ≤ maxLen := by unfold maxLen; omega
        clear ks
        go_region_held3 (fun W => W.cell? ⟨w.heap.size, 0, none⟩ = some (.int .i64 ty) ∧ W.cell? ⟨w.heap.size, 1, none⟩ = some (.slice Am nm cm)) (exact KS.out _ (by (repeat first | assumption | exact Lib.Hid.out (by assumption) | exact Keeps.refl _ _ | refine Keeps.alloc ?_ _ | refine Keeps.drewN ?_ _ | refine Keeps.drew ?_ | refine Keeps.setCell ?_ _ _ (fun h => by simp at h <;> omega)))) (first
          | (refine step_append elem31 (by rfl) (.tmp 40) (.tmp 42) (by rfl) w0.heap.size (.slice (some ⟨w0.heap.size, 0, none⟩) 0 0) [] fs Am nm cm (by rfl) (by rfl) (((own_empty fld ((w0.drewN q).drewN nq).drew 51 w0.heap.size w0.heap.size rfl (Nat.le_refl _)).alloc _)) (((R.out.drewN _).alloc _).alloc _) hap hap2 (by simp; omega) ?_
             intro k4 A4 c4 w4 hk4 own4 gr4 at4
             have k4' : Keeps (fun _ => False) w0 w4 := own_grow (by (repeat first | assumption | exact Lib.Hid.out (by assumption) | exact Keeps.refl _ _ | refine Keeps.alloc ?_ _ | refine Keeps.drewN ?_ _ | refine Keeps.drew ?_ | refine Keeps.setCell ?_ _ _ (fun h => by simp at h <;> omega))) gr4 (by simp [Value.ownBlock])
             have bx4 := (Blk.new (((w0.drewN (q + nq + 1)).alloc (.cells #[] 51))) 32 #[.int .i64 0, .slice none 0 0] (w0.heap.size + 1) (by simp)).grown gr4 (by simp [Value.ownBlock])
             have hk := hk4.trans (Nat.zero_add nm)
             subst hk
             have l0 := bx4.cell 0
             have l1 := bx4.cell 1
             have e0' := bx4.frozen 0
             have e1' := bx4.frozen 1
             simp at l0 l1
             have BX := Lib.hid bx4
             have O4 := Lib.hid own4
             have K4 := Lib.hid k4'
             clear own4 gr4 at4 hk4 bx4 k4')
          | (refine step_append elem31 (by rfl) (.tmp 40) (.tmp 42) (by rfl) w0.heap.size (.slice (some ⟨w0.heap.size, 0, none⟩) 0 0) [] fs Am nm cm (by rfl) (by rfl) (own_empty fld ((w0.drewN q).drewN nq).drew 51 w0.heap.size w0.heap.size rfl (Nat.le_refl _)) ((R.out.drewN _).alloc _) hap hap2 (by simp) ?_
             intro k4 A4 c4 w4 hk4 own4 gr4 at4
             have k4' : Keeps (fun _ => False) w0 w4 := own_grow (by (repeat first | assumption | exact Lib.Hid.out (by assumption) | exact Keeps.refl _ _ | refine Keeps.alloc ?_ _ | refine Keeps.drewN ?_ _ | refine Keeps.drew ?_ | refine Keeps.setCell ?_ _ _ (fun h => by simp at h <;> omega))) gr4 (by simp [Value.ownBlock])
             have hk := hk4.trans (Nat.zero_add nm)
             subst hk
             have O4 := Lib.hid own4
             have K4 := Lib.hid k4'
             clear own4 gr4 at4 hk4 k4')
          | (refine step_append elem31 (by rfl) (.tmp 40) (.tmp 42) (by rfl) w0.heap.size (.slice (some ⟨w0.heap.size + 1, 0, none⟩) 0 0) [] fs Am nm cm (by rfl) (by rfl) (own_empty fld (((w0.drewN q).drewN nq).drew.alloc _) 51 w0.heap.size (w0.heap.size + 1) (by simp) (by omega)) (((R.out.drewN _).alloc _).alloc _) hap hap2 (by simp; omega) ?_
             intro k4 A4 c4 w4 hk4 own4 gr4 at4
             have k4' : Keeps (fun _ => False) w0 w4 := own_grow (by (repeat first | assumption | exact Lib.Hid.out (by assumption) | exact Keeps.refl _ _ | refine Keeps.alloc ?_ _ | refine Keeps.drewN ?_ _ | refine Keeps.drew ?_ | refine Keeps.setCell ?_ _ _ (fun h => by simp at h <;> omega))) gr4 (by simp [Value.ownBlock])
             have bx4 := ((Blk.new (w0.drewN (q + nq + 1)) 32 #[.int .i64 0, .slice none 0 0] w0.heap.size rfl).alloc (.cells #[] 51)).grown gr4 (by simp [Value.ownBlock])
             have hk := hk4.trans (Nat.zero_add nm)
             subst hk
             have l0 := bx4.cell 0
             have l1 := bx4.cell 1
             have e0' := bx4.frozen 0
             have e1' := bx4.frozen 1
             simp at l0 l1
             have BX := Lib.hid bx4
             have O4 := Lib.hid own4
             have K4 := Lib.hid k4'
             clear own4 gr4 at4 hk4 bx4 k4'))
        all_goals
          rw [List.nil_append] at O4
          go_wp2_with fail
          go_meet
          refine ⟨_, A4, c4, rfl, ?_, ?_, K0.out.trans (w1 := w0) (by (repeat first | assumption | exact Lib.Hid.out (by assumption) | exact Keeps.refl _ _ | refine Keeps.alloc ?_ _ | refine Keeps.drewN ?_ _ | refine Keeps.drew ?_ | refine Keeps.setCell ?_ _ _ (fun h => by simp at h <;> omega))) (fun _ _ h => h)⟩
          · first | exact (BX.out.set 0 _).set 1 _ | exact Blk.new w4 32 _ _ rfl
          · refine Own.rebase (base := w0.heap.size) ?_ _ (fun q hq => Nat.le_trans K0.out.size (O4.out.base_le hq))
            first | exact O4.out.alloc _ | exact (O4.out.setCell _ _ (fun q hq e => O4.out.blk_ne BX.out (by decide) (by rw [hq, e]))).setCell _ _ (fun q hq e => O4.out.blk_ne BX.out (by decide) (by rw [hq, e]))
      case rest =>
        obtain ⟨X, A4, c4, rfl, bx, o4, kc⟩ := hcut
        have rl : ∀ W, Keeps (fun _ => False) wc W → Reads adv W A n l := fun W k => (own_reads D.out.row).keeps (kc.trans k (fun _ _ h => h)) (fun _ _ _ h => h)
        have fw : ∀ W, Keeps (fun _ => False) wc W → (W.cell? ⟨X, 0, none⟩ = some (.int .i64 ty) ∧ W.cell? ⟨X, 1, none⟩ = some (.slice A4 nm c4)) ∧ W.cell? ⟨g, 1, none⟩ = some (.slice A n c) ∧ W.frozen? ⟨g, 1, none⟩ = false := fun W k => by
          have b := bx.keeps k (fun h => h)
          have d := (D.out.box.keeps kc (fun h => h)).keeps k (fun h => h)
          have b0 := b.cell 0
          have b1 := b.cell 1
          have d1 := d.cell 1
          simp at b0 b1 d1
          exact ⟨⟨b0, b1⟩, d1, d.frozen 1⟩
        obtain ⟨⟨x0, x1⟩, y1, z1⟩ := fw wc (Keeps.refl _ wc)
        have hXc : X < wc.heap.size := bx.lt
        have hgc : g < wc.heap.size := Nat.lt_of_lt_of_le hgl kc.size
        have RL := Lib.hid rl
        have FW := Lib.hid fw
        have O4 := Lib.hid o4
        have KC := Lib.hid kc
        have hap : (0 + n) * 48 ≤ 140737488355328 := by omega
        have hap2 : 0 + n ≤ maxLen := by unfold maxLen; omega
        have hap3 : (n + 1) * 48 ≤ 140737488355328 := by omega
        have hap4 : n + 1 ≤ maxLen := by unfold maxLen; omega
        clear rl fw o4 kc bx m0 m1 e0 e1
        go_upto_region 9 with fail
        go_region_law (first
          | (refine step_append elem70 (by rfl) (.tmp 51) (.tmp 55) (by rfl) wc.heap.size (.slice A5 n c5) l [(⟨s, ty, A4, nm, c4, fs⟩ : AD)] (some ⟨w5.heap.size, 0, none⟩) 1 1 (by rfl) (by rfl) (O5.out.alloc _) ((Blk.new w5 70 _ _ rfl).reads _ rfl rfl) (by rw [HL.out]; exact hap3) (by rw [HL.out]; exact hap4) (Nat.le_trans K5.out.size (by simp)) ?_
             intro k6 A6 c6 w6 hk6 own6 gr6 at6
             have k6' : Keeps (fun _ => False) wc w6 := own_grow (by (repeat first | assumption | exact Lib.Hid.out (by assumption) | exact Keeps.refl _ _ | refine Keeps.alloc ?_ _ | refine Keeps.drewN ?_ _ | refine Keeps.drew ?_ | refine Keeps.setCell ?_ _ _ (fun h => by simp at h <;> omega))) gr6 (fun q hq => O5.out.base_le hq)
             obtain ⟨_, y6, z6⟩ := FW.out _ k6'
             have hk := hk6.trans (by rw [HL.out])
             subst hk
             have O6 := Lib.hid own6
             have K6 := Lib.hid k6'
             clear own6 gr6 at6 hk6 k6')
          | (refine step_append elem70 (by rfl) (.tmp 51) (.tmp 55) (by rfl) wc.heap.size (.slice A5 n c5) l [(⟨s, ty, A4, nm, c4, fs⟩ : AD)] (some ⟨_, 0, none⟩) 1 1 (by rfl) (by rfl) O5.out (BB.out.reads _ rfl rfl) (by rw [HL.out]; exact hap3) (by rw [HL.out]; exact hap4) K5.out.size ?_
             intro k6 A6 c6 w6 hk6 own6 gr6 at6
             have k6' : Keeps (fun _ => False) wc w6 := own_grow (by (repeat first | assumption | exact Lib.Hid.out (by assumption) | exact Keeps.refl _ _ | refine Keeps.alloc ?_ _ | refine Keeps.drewN ?_ _ | refine Keeps.drew ?_ | refine Keeps.setCell ?_ _ _ (fun h => by simp at h <;> omega))) gr6 (fun q hq => O5.out.base_le hq)
             obtain ⟨_, y6, z6⟩ := FW.out _ k6'
             have hk := hk6.trans (by rw [HL.out])
             subst hk
             have O6 := Lib.hid own6
             have K6 := Lib.hid k6'
             clear own6 gr6 at6 hk6 k6')
          | (refine step_append elem70 (by rfl) (.tmp 46) (.tmp 50) (by rfl) wc.heap.size (.slice (some ⟨wc.heap.size, 0, none⟩) 0 0) [] l A n c (by rfl) (by rfl) (own_empty adv wc.drew 70 wc.heap.size wc.heap.size rfl (Nat.le_refl _)) (RL.out _ (by (repeat first | assumption | exact Lib.Hid.out (by assumption) | exact Keeps.refl _ _ | refine Keeps.alloc ?_ _ | refine Keeps.drewN ?_ _ | refine Keeps.drew ?_ | refine Keeps.setCell ?_ _ _ (fun h => by simp at h <;> omega)))) hap hap2 (by simp) ?_
             intro k5 A5 c5 w5 hk5 own5 gr5 at5
             have k5' : Keeps (fun _ => False) wc w5 := own_grow (by (repeat first | assumption | exact Lib.Hid.out (by assumption) | exact Keeps.refl _ _ | refine Keeps.alloc ?_ _ | refine Keeps.drewN ?_ _ | refine Keeps.drew ?_ | refine Keeps.setCell ?_ _ _ (fun h => by simp at h <;> omega))) gr5 (by simp [Value.ownBlock])
             obtain ⟨⟨x05, x15⟩, _⟩ := FW.out _ k5'
             obtain rfl : n = k5 := (hk5.trans (Nat.zero_add n)).symm
             rw [List.nil_append] at own5
             have O5 := Lib.hid own5
             have K5 := Lib.hid k5'
             clear own5 gr5 at5 hk5 k5')
          | (refine step_append elem70 (by rfl) (.tmp 46) (.tmp 50) (by rfl) wc.heap.size (.slice (some ⟨wc.heap.size, 0, none⟩) 0 0) [] l A n c (by rfl) (by rfl) ((own_empty adv wc.drew 70 wc.heap.size wc.heap.size rfl (Nat.le_refl _)).alloc _) (RL.out _ (by (repeat first | assumption | exact Lib.Hid.out (by assumption) | exact Keeps.refl _ _ | refine Keeps.alloc ?_ _ | refine Keeps.drewN ?_ _ | refine Keeps.drew ?_ | refine Keeps.setCell ?_ _ _ (fun h => by simp at h <;> omega)))) hap hap2 (by simp; omega) ?_
             intro k5 A5 c5 w5 hk5 own5 gr5 at5
             have k5' : Keeps (fun _ => False) wc w5 := own_grow (by (repeat first | assumption | exact Lib.Hid.out (by assumption) | exact Keeps.refl _ _ | refine Keeps.alloc ?_ _ | refine Keeps.drewN ?_ _ | refine Keeps.drew ?_ | refine Keeps.setCell ?_ _ _ (fun h => by simp at h <;> omega))) gr5 (by simp [Value.ownBlock])
             have bb := (Blk.new (wc.drew.alloc (.cells #[] 70)) 70 #[.string s, .int .i64 ty, .slice A4 nm c4] (wc.heap.size + 1) (by simp)).grown gr5 (by simp [Value.ownBlock])
             obtain ⟨⟨x05, x15⟩, _⟩ := FW.out _ k5'
             obtain rfl : n = k5 := (hk5.trans (Nat.zero_add n)).symm
             rw [List.nil_append] at own5
             have O5 := Lib.hid own5
             have BB := Lib.hid bb
             have K5 := Lib.hid k5'
             clear own5 gr5 at5 hk5 k5' bb)
          | (refine step_append elem70 (by rfl) (.tmp 46) (.tmp 50) (by rfl) wc.heap.size (.slice (some ⟨wc.heap.size + 1, 0, none⟩) 0 0) [] l A n c (by rfl) (by rfl) (own_empty adv (wc.drew.alloc _) 70 wc.heap.size (wc.heap.size + 1) (by simp) (by omega)) (RL.out _ (by (repeat first | assumption | exact Lib.Hid.out (by assumption) | exact Keeps.refl _ _ | refine Keeps.alloc ?_ _ | refine Keeps.drewN ?_ _ | refine Keeps.drew ?_ | refine Keeps.setCell ?_ _ _ (fun h => by simp at h <;> omega)))) hap hap2 (by simp; omega) ?_
             intro k5 A5 c5 w5 hk5 own5 gr5 at5
             have k5' : Keeps (fun _ => False) wc w5 := own_grow (by (repeat first | assumption | exact Lib.Hid.out (by assumption) | exact Keeps.refl _ _ | refine Keeps.alloc ?_ _ | refine Keeps.drewN ?_ _ | refine Keeps.drew ?_ | refine Keeps.setCell ?_ _ _ (fun h => by simp at h <;> omega))) gr5 (by simp [Value.ownBlock])
             have bb := ((Blk.new wc.drew 70 #[.string s, .int .i64 ty, .slice A4 nm c4] wc.heap.size rfl).alloc (.cells #[] 70)).grown gr5 (by simp [Value.ownBlock])
             obtain ⟨⟨x05, x15⟩, _⟩ := FW.out _ k5'
             obtain rfl : n = k5 := (hk5.trans (Nat.zero_add n)).symm
             rw [List.nil_append] at own5
             have O5 := Lib.hid own5
             have BB := Lib.hid bb
             have K5 := Lib.hid k5'
             clear own5 gr5 at5 hk5 k5' bb))
        all_goals
          go_wp2_with fail
          go_ret
          have kg : Keeps (fun b => b = g) w6 (w6.setCell ⟨g, 1, none⟩ (.slice A6 (n + 1) c6)) := (Keeps.refl (fun b => b = g) w6).setCell _ _ (fun _ => rfl)
          have kw6 : Keeps (fun _ => False) w w6 := KC.out.trans K6.out (fun _ _ h => h)
          have b6 := D.out.box.keeps kw6 (fun h => h)
          have kz : Keeps (fun b => b = g) w (w6.setCell ⟨g, 1, none⟩ (.slice A6 (n + 1) c6)) := (kw6.mono (S' := fun b => b = g) (fun _ _ h => h.elim)).trans kg (fun _ _ h => h)
          have n4 := (O4.out.keeps K6.out (fun _ _ h => h)).keep1 kg b6 (by decide)
          refine ⟨rfl, ⟨s, ty, A4, nm, c4, fs⟩, A6, c6, rfl, rfl, rfl, fun q hq => O4.out.base_le hq, ⟨b6.set 1 _, (O6.out.keep1 kg b6 (by decide)).rebase 0 (fun _ _ => Nat.zero_le _), ?_, D.out.one, hfewm, by omega, fun _ => Nat.succ_pos _⟩, fun q hq => Nat.le_trans KC.out.size (O6.out.base_le hq), kz⟩
          intro a ha
          rcases List.mem_append.1 ha with ha | ha
          · exact ⟨(D.out.ok a ha).1.keep1 kz D.out.box (by decide), (D.out.ok a ha).2⟩
          · rw [List.mem_singleton.1 ha]
            exact ⟨n4.rebase 0 (fun _ _ => Nat.zero_le _), hn⟩
end
end Go.Proofs.Ytfidhnplaieacaa
