/- Names looked up; a message of one's own: walked. -/
import Derived.Test.YtfidhnplaieacaaW1
namespace Go.Proofs.Ytfidhnplaieacaa
open Go.RowKit Mem
theorem same_any (a : AD) (s : ByteArray) (b : Nat) (w : World) (hb : w.cell? ⟨b, 0, none⟩ = some (.string s)) :
    Calls Try.prog 29 #[.agg #[.string a.name, .int .i64 a.ty, .slice a.A a.n a.c], .pointer (some ⟨b, 0, none⟩)] w fun e w' => e = .returned (.bool (a.name.toList == s.toList)) ∧ Keeps (fun _ => False) w w' := by
  have hbl : b < w.heap.size := World.block_lt_of_cell? w _ hb
  go_enter Try.func29, Try.ntmps29
  go_wp2_with fail
  go_ret
  exact ⟨rfl, (Keeps.refl _ w).alloc _⟩
/-- Is there one of this name? -/
def hasN (l : List AD) (s : ByteArray) : Bool := l.any (fun a => a.name.toList == s.toList)
theorem make_flds (n : Nat) (hn : n * 24 ≤ 140737488355328) (W : World) : (Instr.makeSlice 30 (.int .i64 n) (.int .i64 n)).run Try.prog W = .ok (.slice (some ⟨W.heap.size, 0, none⟩) n n) (W.alloc (.cells (madeCells #[.int .i64 0, .string ⟨#[]⟩] (n * 2)) 51)) := by
  have hinf : (Try.prog.info? 51).map (fun i => (i.zero, i.size, i.bytes)) = some (some (.agg #[.int .i64 0, .string ⟨#[]⟩]), 2, 24) := by kernel_rfl
  obtain ⟨i, hi, hz⟩ := Option.map_eq_some_iff.1 hinf
  simp only [Prod.mk.injEq] at hz
  obtain ⟨hz0, hz1, hz2⟩ := hz
  have := run_make (P := Try.prog) W 30 51 i (.agg #[.int .i64 0, .string ⟨#[]⟩]) Try.underlying30 hi hz0 .i64 .i64 n n (by omega) (Int.le_refl _) (by rw [hz2]; omega) (by omega)
  rw [hz1] at this
  simpa [Value.cells] using this
set_option maxHeartbeats 1600000 in
theorem own_any (ty : Int) (A : Option Addr) (n c : Nat) (fs : List FD) (w : World) (hr : Reads fld w A n fs) (hn : n * 24 ≤ 140737488355328) :
    Calls Try.prog 30 #[.agg #[.int .i64 ty, .slice A n c]] w fun e w' => ∃ A' c', e = .returned (.agg #[.int .i64 ty, .slice A' n c']) ∧ Own fld w' w.heap.size 51 (.slice A' n c') fs ∧ A' ≠ none ∧ Keeps (fun _ => False) w w' := by
  have R := Lib.hid hr
  have HL := Lib.hid hr.1
  have hmk := make_flds n hn
  obtain ⟨w1, hw1⟩ : ∃ w1, w1 = ((w.alloc (.cells #[.int .i64 ty, .slice A n c] 32)).alloc (.cells #[.int .i64 0, .slice none 0 0] 32)).alloc (.cells (madeCells #[.int .i64 0, .string ⟨#[]⟩] (n * 2)) 51) := ⟨_, rfl⟩
  have K1 := Lib.hid (show Keeps (fun _ => False) w w1 by rw [hw1]; exact (((Keeps.refl _ w).alloc _).alloc _).alloc _)
  have B1 := Lib.hid (show Blk w1 w.heap.size 32 #[.int .i64 ty, .slice A n c] by rw [hw1]; exact ((Blk.new w 32 _ _ rfl).alloc _).alloc _)
  have R1 := Lib.hid (show Blk w1 (w.heap.size + 1) 32 #[.int .i64 0, .slice none 0 0] by rw [hw1]; exact (Blk.new _ 32 _ _ (by simp)).alloc _)
  have F1 := Lib.hid (show Blk w1 (w.heap.size + 2) 51 (madeCells #[.int .i64 0, .string ⟨#[]⟩] (n * 2)) by rw [hw1]; exact Blk.new _ 51 _ _ (by simp))
  have b1 := B1.out.cell 1
  simp at b1
  have HW1 := Lib.hid hw1
  clear hr hw1
  go_enter Try.func30, Try.ntmps30
  go_upto_region 2 with fail
  rw [← HW1.out]
  go_wp2_with (refine wp_copy elem31 (by rfl) (.tmp 8) (.tmp 10) (by rfl) (w.heap.size + 2) n n A c fs (madeCells #[.int .i64 0, .string ⟨#[]⟩] (n * 2)) rfl rfl F1.out (by simp [madeCells]; rfl) (R.out.keeps K1.out (fun _ _ _ h => h)) ?_
               intro w2 f2 k2
               have F2 := Lib.hid f2
               have bb := B1.out.keeps k2 (fun h => by omega)
               have rr := R1.out.keeps k2 (fun h => by omega)
               have b0 := bb.cell 0
               have r0 := rr.cell 0
               have r1 := rr.cell 1
               have e0 := rr.frozen 0
               have e1 := rr.frozen 1
               simp at b0 r0 r1
               have RR := Lib.hid rr
               have K2 := Lib.hid (K1.out.trans k2 (fun b hb h => by omega))
               clear f2 k2 bb rr)
  have hb5 : Blk ((w2.setCell ⟨w.heap.size + 1, 0, none⟩ (.int .i64 ty)).setCell ⟨w.heap.size + 1, 1, none⟩ (.slice (some ⟨w.heap.size + 2, 0, none⟩) n n)) (w.heap.size + 1) 32 #[.int .i64 ty, .slice (some ⟨w.heap.size + 2, 0, none⟩) n n] := (RR.out.set 0 _).set 1 _
  (try simp only [Exit.inBlock, Exit.then])
  refine bodyPost_ret (results_cell_row rfl _ _ (w.heap.size + 1) 32 #[.int .i64 ty, .slice (some ⟨w.heap.size + 2, 0, none⟩) n n] (0, 0) _ rfl hb5 Try.underlying32 rfl (by kernel_rfl)) rfl ?_
  have hf5 := (F2.out.far (p := ⟨w.heap.size + 1, 0, none⟩) (by show w.heap.size + 2 ≠ w.heap.size + 1; omega) (.int .i64 ty)).far (p := ⟨w.heap.size + 1, 1, none⟩) (by show w.heap.size + 2 ≠ w.heap.size + 1; omega) (.slice (some ⟨w.heap.size + 2, 0, none⟩) n n)
  exact ⟨_, _, rfl, Own.of_blk hf5 (by simp) (by omega) HL.out (by unfold maxLen; omega), by simp, (K2.out.setCell _ _ (fun h => by simp at h; omega)).setCell _ _ (fun h => by simp at h; omega)⟩
theorem anyN_take {l : List AD} {s : ByteArray} {k : Nat} {a : AD} (hk : l[k]? = some a) : hasN (l.take (k + 1)) s = (hasN (l.take k) s || (a.name.toList == s.toList)) := by
  unfold hasN
  rw [List.take_add_one, hk, List.any_append]
  simp
theorem hasN_take {l : List AD} {s : ByteArray} {k : Nat} (h : hasN (l.take k) s = true) : hasN l s = true := by
  unfold hasN at *
  rw [List.any_eq_true] at *
  obtain ⟨a, ha, h⟩ := h
  exact ⟨a, List.mem_of_mem_take ha, h⟩
end Go.Proofs.Ytfidhnplaieacaa
