/- A desk's clone: walked. -/
import Derived.Test.YtpkmdhplbpejhaaW3
import Derived.Shelf.SlMaps.Clone
import Derived.Deep.RegionHeld3
import Derived.Deep.RegionWith
namespace Go.Proofs.Ytpkmdhplbpejhaa
open Go.RowKit Mem
theorem MapIs.copied {w : World} {b n : Nat} {M : Int → ByteArray → Int} (h : MapIs w b n M) : ∃ es clock, w.heap[b]? = some (.map es clock) ∧ MapIs (w.alloc (.map es clock)) w.heap.size n M := by
  obtain ⟨D, ⟨es, clock, hb, F, hs, hD⟩, hM⟩ := h
  exact ⟨es, clock, hb, D, ⟨es, clock, heap_alloc_new w _, F, hs, hD⟩, hM⟩
theorem mapClone_any {w : World} {b n : Nat} {M : Int → ByteArray → Int} (h : MapIs w b n M) :
    Calls Try.prog 21 #[.map (some b)] w fun e w' => e = .returned (.map (some w.heap.size)) ∧ MapIs w' w.heap.size n M ∧ Keeps (fun _ => False) w w' := by
  obtain ⟨es, clock, hb, hm⟩ := h.copied
  have HM := Lib.hid hm
  have hq := fun w => run_eql_map_nil_sl (P := Try.prog) w 47 _ _ (some b) Try.underlying47
  clear h hm
  go_enter Try.func21, Try.ntmps21
  go_wp2
  rw [run_callFunc_extern Try.func22 (by kernel_rfl) (by kernel_rfl) (by kernel_rfl) (e := Extern.MapsClone.clone) (by kernel_rfl), run_maps_clone_sl w 47 hb]
  simp only [Result.andThen]
  rw [Oper.upon_value]
  go_wp2
  rw [run_typeAssert_map_sl _ 47 20 _ _ _ Try.underlying47]
  simp only [Result.andThen]
  rw [Oper.upon_value]
  go_wp2
  go_ret
  exact ⟨rfl, HM.out, (Keeps.refl _ w).alloc _⟩
set_option maxHeartbeats 1600000 in
theorem deskClone_any {w : World} {g m k : Nat} {A : Option Addr} {n c : Nat} {ls : List (Int × Int)} {M : Int → ByteArray → Int} (d : Desk w g m k A n c ls M) :
    Calls Try.prog 13 #[.pointer (some ⟨g, 0, none⟩)] w fun e w' => ∃ g' m', e = .returned (.pointer (some ⟨g', 0, none⟩)) ∧ Desk w' g' m' k A n c ls M ∧ w.heap.size ≤ g' ∧ w.heap.size ≤ m' ∧ Keeps (fun _ => False) w w' := by
  have c0 := d.box.cell 0
  have c1 := d.box.cell 1
  simp at c0 c1
  have D := Lib.hid d
  have hgl := d.box.lt
  clear d
  go_enter Try.func13, Try.ntmps13
  go_wp2
  go_region_with (go_at_call 21; refine (mapClone_any (w := w.drew) D.out.map).mono ?_
                  rintro e w1 ⟨rfl, hm1, k1⟩
                  have d1 := (D.out.box.drew).keeps k1 (fun h => h)
                  have e0 := d1.cell 0
                  have e1 := d1.cell 1
                  simp at e0 e1
                  have HM1 := Lib.hid hm1
                  have K1 := Lib.hid k1
                  clear hm1 k1 d1)
  all_goals
    go_wp2_with fail
    go_ret
    have hz : w.heap.size ≤ w1.heap.size := K1.out.size
    have kk : Keeps (fun _ => False) w (w1.alloc (.cells #[.slice A n c, .map (some w.heap.size)] 49)) := ((Keeps.refl (fun _ => False) w).drew.trans K1.out (fun _ _ h => h)).alloc _
    refine ⟨w1.heap.size, w.heap.size, rfl, ⟨Blk.new _ 49 _ _ rfl, D.out.rows.keeps kk (fun _ _ _ h => h), fun ad e h0 => ?_, HM1.out.keeps ((Keeps.refl (fun _ => False) _).alloc _) (fun h => h), D.out.good, D.out.few, D.out.had⟩, hz, Nat.le_refl _, kk⟩
    have := D.out.rows.lt h0 e
    omega
end Go.Proofs.Ytpkmdhplbpejhaa
