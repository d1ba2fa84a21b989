/- A message put in: walked. -/
import Derived.Test.YtfidhnplaieacaaW3
import Derived.Deep.RegionLaw
namespace Go.Proofs.Ytfidhnplaieacaa
open Go.RowKit Mem
/-- What Put answers. -/
def putE (l : List AD) (n most : Nat) (s : ByteArray) : Int := if hasN l s then 161 else if n = most then 3 else 0
set_option maxHeartbeats 6400000 in
theorem put_any {w : World} {g most : Nat} {A : Option Addr} {n c : Nat} {way : Bool} {l : List AD} (d : QS w g most A n c way l) (s : ByteArray) (ty : Int) (Am : Option Addr) (nm cm : Nat) (fs : List FD) (hr : Reads fld w Am nm fs) (hn : nm * 24 ≤ 140737488355328) :
    Calls Try.prog 8 #[.pointer (some ⟨g, 0, none⟩), .string s, .agg #[.int .i64 ty, .slice Am nm cm]] w fun e w' => e = .returned (.int .i64 (putE l n most s)) ∧ (if putE l n most s = 0 then ∃ a A' c', a.name = s ∧ a.ty = ty ∧ a.fs = fs ∧ (∀ q, (Value.slice a.A a.n a.c).ownBlock = some q → w.heap.size ≤ q) ∧ QS w' g most A' (n + 1) c' way (l ++ [a]) ∧ (∀ q, (Value.slice A' (n + 1) c').ownBlock = some q → (Value.slice A n c).ownBlock = some q ∨ w.heap.size ≤ q) ∧ Keeps (fun b => b = g ∨ (Value.slice A n c).ownBlock = some b) w w'
      else Keeps (fun _ => False) w w') := by
  obtain ⟨w0, hw0⟩ : ∃ w0, w0 = (w.alloc (.cells #[.string s] 9)).alloc (.cells #[.int .i64 ty, .slice Am nm cm] 32) := ⟨_, rfl⟩
  have hmf : ∀ (fn : Fn) (first cap : Array Value) (w : World), (Instr.makeFunc fn first cap).run Try.prog w = .ok (.func fn first cap) w := fun _ _ _ _ => rfl
  have k0 : Keeps (fun _ => False) w w0 := by rw [hw0]; exact ((Keeps.refl _ w).alloc _).alloc _
  have bs : Blk w0 w.heap.size 9 #[.string s] := by rw [hw0]; exact (Blk.new w 9 _ _ rfl).alloc _
  have bm : Blk w0 (w.heap.size + 1) 32 #[.int .i64 ty, .slice Am nm cm] := by rw [hw0]; exact Blk.new _ 32 _ _ (by simp)
  have c0 := bs.cell 0
  simp at c0
  have dd := d.keep k0
  have e1 := dd.box.cell 1
  simp at e1
  have hrow := own_reads dd.row
  have hfew : n ≤ 1000 := by have := d.few; have := d.room; omega
  have hlen := d.len
  have hh : w.heap.size + 2 = w0.heap.size := by rw [hw0]; simp
  have hfewm := d.few
  have hroom := d.room
  have D := Lib.hid d
  have D0 := Lib.hid dd
  have K0 := Lib.hid k0
  have BM := Lib.hid bm
  have BS := Lib.hid bs
  have R := Lib.hid (hr.keeps k0 (fun _ _ _ h => h))
  have HR := Lib.hid hrow
  have HW := Lib.hid hw0
  have HL := Lib.hid hlen
  have HH := Lib.hid hh
  have hgl := d.box.lt
  clear d dd k0 bs bm hr hrow hw0 hlen hh
  by_cases h1 : hasN l s = true
  · have hp : putE l n most s = 161 := by unfold putE; rw [if_pos h1]
    rw [hp]
    have H1 := Lib.hid h1
    clear hp h1
    go_enter Try.func8, Try.ntmps8
    go_upto_region 1 with fail
    rw [← HW.out]
    go_wp2_with (go_at_call 28; refine (has_any A n c l s w.heap.size w0 HR.out hfew c0).mono ?_
                 rintro e w2 ⟨rfl, k2⟩
                 rw [H1.out]
                 have K2 := Lib.hid (K0.out.trans k2 (fun _ _ h => h))
                 clear k2)
    go_ret
    exact ⟨rfl, by first | exact K2.out | (rw [if_neg (by decide)]; exact K2.out)⟩
  · have h1' : hasN l s = false := by simpa using h1
    have H1 := Lib.hid h1'
    by_cases h2 : n = most
    · have hp : putE l n most s = 3 := by unfold putE; rw [if_neg h1, if_pos h2]
      rw [hp]
      have t2 : (most : Int) - n = 0 := by omega
      have T2 := Lib.hid t2
      clear hp h1 h1' h2 t2
      go_enter Try.func8, Try.ntmps8
      go_upto_region 1 with fail
      rw [← HW.out]
      go_wp2_with (first
        | (go_at_call 16; refine (room_any D2.out).mono ?_
           rintro e w3 ⟨rfl, k3⟩
           rw [T2.out]
           have K3 := Lib.hid (K2.out.trans k3 (fun _ _ h => h))
           clear k3)
        | (go_at_call 28; refine (has_any A n c l s w.heap.size w0 HR.out hfew c0).mono ?_
           rintro e w2 ⟨rfl, k2⟩
           rw [H1.out]
           have K2 := Lib.hid (K0.out.trans k2 (fun _ _ h => h))
           have D2 := Lib.hid (D0.out.keep k2)
           clear k2))
      go_ret
      exact ⟨rfl, by first | exact K3.out | (rw [if_neg (by decide)]; exact K3.out)⟩
    · have hp : putE l n most s = 0 := by unfold putE; rw [if_neg h1, if_neg h2]
      simp only [hp, ↓reduceIte]
      have t2 : (((most : Int) - n) == 0) = false := by simp; omega
      clear hp h1 h1'
      go_enter Try.func8, Try.ntmps8
      go_upto_region 1 with fail
      rw [← HW.out]
      go_upto_region 5 with (first
        | (go_at_call 16; refine (room_any D2.out).mono ?_
           rintro e w3 ⟨rfl, k3⟩
           have K3 := Lib.hid (K2.out.trans k3 (fun _ _ h => h))
           have D3 := Lib.hid (D2.out.keep k3)
           have M3 := Lib.hid (M2.out.keeps k3 (fun h => h))
           have S3 := Lib.hid (S2.out.keeps k3 (fun h => h))
           have R3 := Lib.hid (R2.out.keeps k3 (fun _ _ _ h => h))
           clear k3)
        | (go_at_call 28; refine (has_any A n c l s w.heap.size w0 HR.out hfew c0).mono ?_
           rintro e w2 ⟨rfl, k2⟩
           rw [H1.out]
           have K2 := Lib.hid (K0.out.trans k2 (fun _ _ h => h))
           have D2 := Lib.hid (D0.out.keep k2)
           have M2 := Lib.hid (BM.out.keeps k2 (fun h => h))
           have S2 := Lib.hid (BS.out.keeps k2 (fun h => h))
           have R2 := Lib.hid (R.out.keeps k2 (fun _ _ _ h => h))
           clear k2))
      have m0 := M3.out.cell 0
      have m1 := M3.out.cell 1
      have s0 := S3.out.cell 0
      have g1 := D3.out.box.cell 1
      simp at m0 m1 s0 g1
      have hs3 := K3.out.size
      go_region_law (first
        | (go_simp; go_at_call 30; refine (own_any ty Am nm cm fs w3.drew R3.out hn).mono ?_
           rintro e w4 ⟨A4, c4, rfl, o4, hA4, k4⟩
           have k4' : Keeps (fun _ => False) w3 w4 := ((Keeps.refl (fun _ => False) w3).drew).trans k4 (fun _ _ h => h)
           have D4 := Lib.hid (D3.out.keep k4')
           have s4 := (S3.out.keeps k4' (fun h => h)).cell 0
           have g4 := (D3.out.box.keeps k4' (fun h => h)).cell 1
           have g4a := ((D3.out.box.keeps k4' (fun h => h)).alloc (.cells #[.string s, .int .i64 ty, .slice A4 nm c4] 59)).cell 1
           simp at s4 g4 g4a
           have K4 := Lib.hid (K3.out.trans k4' (fun _ _ h => h))
           have O4 := Lib.hid o4
           clear k4 k4' o4)
        | (refine step_append elem59 (by rfl) (.tmp 22) (.tmp 27) (by rfl) 0 (.slice A n c) l [(⟨s, ty, A4, nm, c4, fs⟩ : AD)] (some ⟨w4.heap.size, 0, none⟩) 1 1 (by rfl) (by rfl) (D4.out.row.alloc _) ((Blk.new w4 59 _ _ rfl).reads _ rfl rfl) (by rw [HL.out]; omega) (by rw [HL.out]; simp [maxLen]; omega) (by simp) ?_
           intro k5 A5 c5 w5 hk5 own5 gr5 at5
           have b5 := (D4.out.box.alloc (.cells #[.string s, .int .i64 ty, .slice A4 nm c4] 59)).grown gr5 (fun h => D4.out.row.blk_ne D4.out.box (by decide) h.symm)
           have f5 := b5.frozen 1
           have g5 := b5.cell 1
           simp at g5
           have G5 := Lib.hid gr5
           have B5 := Lib.hid b5
           have hk := hk5.trans (by rw [HL.out])
           subst hk
           have T5 := Lib.hid at5
           have D5 := Lib.hid own5
           clear own5 b5 gr5 at5 hk5))
      all_goals
        go_wp2_with fail
        go_ret
        have k5 : Keeps (fun b => b = g ∨ (Value.slice A n c).ownBlock = some b) w w5 := Keeps.grown ((K4.out.alloc _).mono (fun _ _ h => h.elim)) G5.out (fun k hk _ => .inr hk)
        have k6 : Keeps (fun b => b = g ∨ (Value.slice A n c).ownBlock = some b) w (w5.setCell ⟨g, 1, none⟩ (.slice A5 (n + 1) c5)) := k5.setCell _ _ (fun _ => .inl rfl)
        have b6 : Blk (w5.setCell ⟨g, 1, none⟩ (.slice A5 (n + 1) c5)) g 56 #[.int .i64 most, .slice A5 (n + 1) c5, .bool way] := B5.out.set 1 _
        have r6 := D5.out.setCell ⟨g, 1, none⟩ (.slice A5 (n + 1) c5) (fun q hq e => by
          have h1 : q = g := e
          rw [h1] at hq
          exact D5.out.blk_ne B5.out (by decide) hq)
        have old : ∀ a ∈ l, okA (w5.setCell ⟨g, 1, none⟩ (.slice A5 (n + 1) c5)) a := fun a ha => ⟨(D.out.ok a ha).1.keeps k6 (fun q hq hs => by
          rcases hs with rfl | hs
          · exact (D.out.ok a ha).1.blk_ne D.out.box (by decide) hq
          · exact (D.out.ok a ha).1.own_ne D.out.row (by decide) q hq hs), (D.out.ok a ha).2⟩
        have hz4 := K4.out.size
        have hz3 := K3.out.size
        have new1 : Own fld w5 w3.heap.size 51 (.slice A4 nm c4) fs := (O4.out.alloc _).grown G5.out (fun q hq e => O4.out.own_ne D4.out.row (by decide) q hq e.symm)
        have new2 : Own fld (w5.setCell ⟨g, 1, none⟩ (.slice A5 (n + 1) c5)) w3.heap.size 51 (.slice A4 nm c4) fs := new1.setCell _ _ (fun q hq e => by
          have h1 : q = g := e
          rw [h1] at hq
          exact new1.blk_ne B5.out (by decide) hq)
        have hfr : ∀ q, (Value.slice A4 nm c4).ownBlock = some q → w.heap.size ≤ q := fun q hq => Nat.le_trans hz3 (O4.out.base_le hq)
        refine ⟨rfl, ⟨s, ty, A4, nm, c4, fs⟩, A5, c5, rfl, rfl, rfl, hfr, ⟨b6, r6, ?_, D.out.one, hfewm, by omega, fun _ => Nat.succ_pos _⟩, ?_, k6⟩
        · intro a ha
          rcases List.mem_append.1 ha with ha | ha
          · exact old a ha
          · rw [List.mem_singleton.1 ha]
            exact ⟨new2.rebase 0 (fun _ _ => Nat.zero_le _), hn⟩
        · intro q hq
          rcases T5.out with e | e
          · rw [e] at hq; exact .inl hq
          · rw [e] at hq
            simp at hq
            exact .inr (by omega)
end Go.Proofs.Ytfidhnplaieacaa
