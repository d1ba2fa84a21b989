/- A clone of timers: walked. -/
import Derived.Test.YteeginfbonfhlaaRef5
import Derived.Laws.Externs
import Derived.WalkSpells
namespace Go.Proofs.Yteeginfbonfhlaa
open Go.RowKit Mem
theorem run_clone {w : World} {r : Nat} {es : Array MapEntry} {clock : Nat} (t : TypeId) (hb : w.heap[r]? = some (.map es clock)) :
    (Extern.MapsClone.clone #[.iface t (.map (some r))]).run Try.prog w = .ok (.iface t (.map (some w.heap.size))) (w.alloc (.map es clock)) := by
  have e : Extern.MapsClone.clone #[.iface t (.map (some r))] = (getObj r >>= fun o => match o with
      | .map entries clock => (newObj (.map entries clock) >>= fun n => pure (.iface t (.map (some n))))
      | _ => stuck "maps.clone: a map expected") := rfl
  rw [e]
  simp [MapKept.run_getObj_map hb, Result.andThen, go_sem]
theorem run_assert51 (v : Value) (w : World) : (Instr.typeAssert (.iface 51 v) 20 51 false).run Try.prog w = .ok v w := by
  simp [Instr.typeAssert, run_underlying Try.underlying51, go_sem, Result.andThen]
theorem mclone_any (mb : Nat) (es : Array MapEntry) (clock : Nat) (w : World) (hb : w.heap[mb]? = some (.map es clock)) :
    Calls Try.prog 28 #[.map (some mb)] w fun e w' => e = .returned (.map (some w.heap.size)) ∧ w' = w.alloc (.map es clock) := by
  have hq : ∀ (w : World) (r : Option Nat), (binOp .eql 51 (.map r) (.map none)).run Try.prog w = .ok (.bool r.isNone) w := fun w r => run_eql_map_nil w _ _ _ r Try.underlying51
  have hc : (callFunc 34 #[.iface 51 (.map (some mb))]).run Try.prog w = .ok (.value (.iface 51 (.map (some w.heap.size)))) (w.alloc (.map es clock)) := by
    rw [run_callFunc_extern Try.func34 (by kernel_rfl) (by kernel_rfl) (by kernel_rfl) (e := Extern.MapsClone.clone) (by kernel_rfl), run_clone 51 hb]
    rfl
  have ha := run_assert51
  go_enter Try.func28, Try.ntmps28
  go_wp2_with fail
  go_ret
  exact ⟨rfl, rfl⟩
section
variable {w w' : World} {F : Nat → Prop} {g : Nat} {c : Int} {L : List DU} {N : Nat}
theorem clone_end {mb : Nat} {A : Option Addr} {n cp : Nat} {H : List DU} (T : TS w g mb A n cp c H L N) {wz : World} {mbz : Nat} {A6 : Option Addr} {k6 c6 : Nat} (tm : TM wz mbz N L) (o : Own due wz w.heap.size 34 (.slice A6 k6 c6) H) (K : Keeps (fun _ => False) w wz) (hm : w.heap.size ≤ mbz) :
    ∃ g' F', Ending.returned (.pointer (some ⟨wz.heap.size, 0, none⟩)) = Ending.returned (.pointer (some ⟨g', 0, none⟩)) ∧ TF (wz.alloc (.cells #[.int .i64 c, .map (some mbz), .slice A6 k6 c6] 54)) F' g' c L N ∧ (∀ q, F' q → w.heap.size ≤ q) ∧ Keeps (fun _ => False) w (wz.alloc (.cells #[.int .i64 c, .map (some mbz), .slice A6 k6 c6] 54)) := by
  have ka : Keeps (fun _ => False) wz (wz.alloc (.cells #[.int .i64 c, .map (some mbz), .slice A6 k6 c6] 54)) := (Keeps.refl _ wz).alloc _
  have hl : k6 = n := (o.len_eq rfl).symm.trans T.len
  subst hl
  refine ⟨wz.heap.size, tfoot wz.heap.size mbz A6, rfl, ⟨mbz, A6, k6, c6, H, ⟨Blk.new wz 54 _ _ rfl, tm.keeps ka (fun h => h), (o.keeps ka (fun _ _ h => h)).rebase 0 (fun _ _ => Nat.zero_le _), T.heap, T.sub, T.unl, T.ok, T.few, T.clk⟩, fun _ => Iff.rfl⟩, fun q hq => ?_, K.alloc _⟩
  rcases hq with rfl | rfl | hq
  · exact K.size
  · exact hm
  · exact o.base_le (by rw [own_of]; exact hq)
set_option maxHeartbeats 3200000 in
theorem clone_any (h : TF w F g c L N) (hN : N ≤ 1000000) :
    Calls Try.prog 16 #[.pointer (some ⟨g, 0, none⟩)] w fun e w' => ∃ g' F', e = .returned (.pointer (some ⟨g', 0, none⟩)) ∧ TF w' F' g' c L N ∧ (∀ q, F' q → w.heap.size ≤ q) ∧ Keeps (fun _ => False) w w' := by
  obtain ⟨mb, A, n, cp, H, t, hF⟩ := h
  have b0 := t.box.cell 0
  have b1 := t.box.cell 1
  have b2 := t.box.cell 2
  simp at b0 b1 b2
  have hlen := t.len
  have hfew := t.few
  have ks : ∀ W, Keeps (fun _ => False) w W → W.cell? ⟨g, 0, none⟩ = some (.int .i64 c) ∧ W.cell? ⟨g, 1, none⟩ = some (.map (some mb)) ∧ W.cell? ⟨g, 2, none⟩ = some (.slice A n cp) := fun W k => ⟨k.cell (fun h => h) b0, k.cell (fun h => h) b1, k.cell (fun h => h) b2⟩
  have T := Lib.hid t
  have KS := Lib.hid ks
  have hap : (0 + n) * 32 ≤ 140737488355328 := by omega
  have hap2 : 0 + n ≤ maxLen := by unfold maxLen; omega
  clear t hF ks
  go_enter Try.func16, Try.ntmps16
  go_upto_region 1 with fail
  go_region_held3 (fun W => W.cell? ⟨g, 0, none⟩ = some (.int .i64 c) ∧ W.cell? ⟨g, 1, none⟩ = some (.map (some mb)) ∧ W.cell? ⟨g, 2, none⟩ = some (.slice A n cp)) (exact KS.out _ (by (repeat first | assumption | exact Lib.Hid.out (by assumption) | exact Keeps.refl _ _ | refine Keeps.alloc ?_ _ | refine Keeps.drewN ?_ _ | refine Keeps.drew ?_ | refine Keeps.setCell ?_ _ _ (fun h => by simp at h <;> omega)))) (first
    | (go_at_call 28; obtain ⟨es, clock, hes, tm⟩ := (TM.clone (T.out.map.keeps K6.out (fun h => h)))
       refine (mclone_any mb es clock w6 hes).mono ?_
       rintro e w3 ⟨rfl, rfl⟩
       have TM3 := Lib.hid tm
       have O3 := Lib.hid (O6.out.alloc (.map es clock))
       have K3 := Lib.hid (K6.out.alloc (.map es clock))
       clear tm)
    | (go_at_call 28; obtain ⟨es, clock, hes, tm⟩ := (TM.clone (T.out.map.keeps ((Keeps.refl (fun _ => False) w).drew) (fun h => h)))
       refine (mclone_any mb es clock w.drew hes).mono ?_
       rintro e w5 ⟨rfl, hw5⟩
       rw [hw5]
       obtain ⟨w5', hw5'⟩ : ∃ w5', w5' = w.drew.alloc (.map es clock) := ⟨_, rfl⟩
       have k5 : Keeps (fun _ => False) w w5' := by rw [hw5']; exact ((Keeps.refl _ w).drew).alloc _
       have TM5 := Lib.hid (show TM w5' w.heap.size N L by rw [hw5']; exact tm)
       have K5 := Lib.hid k5
       rw [← hw5']
       clear tm k5 hw5 hw5')
    | (refine step_append elem34 (by rfl) (.const (.slice none 0 0)) (.tmp 15) (by rfl) w.heap.size (.slice none 0 0) [] H A n cp (by rfl) (by rfl) (Own.nil due w5' w.heap.size 34) ((own_reads T.out.row).keeps K5.out (fun _ _ _ h => h)) hap hap2 K5.out.size ?_
       intro k6 A6 c6 w6 hk6 own6 gr6 at6
       have k6' : Keeps (fun _ => False) w w6 := own_grow K5.out gr6 (by simp [Value.ownBlock])
       rw [List.nil_append] at own6
       have TM6 := Lib.hid (TM5.out.keeps (Keeps.grown (Keeps.refl (fun _ => False) w5') gr6 (by simp [Value.ownBlock])) (fun h => h))
       have O6b := Lib.hid own6
       have K6b := Lib.hid k6'
       clear own6 gr6 at6 hk6 k6')
    | (refine step_append elem34 (by rfl) (.const (.slice none 0 0)) (.tmp 15) (by rfl) w.heap.size (.slice none 0 0) [] H A n cp (by rfl) (by rfl) (Own.nil due w.drew w.heap.size 34) (own_reads T.out.row.drew) hap hap2 (Nat.le_refl _) ?_
       intro k6 A6 c6 w6 hk6 own6 gr6 at6
       have k6' : Keeps (fun _ => False) w w6 := own_grow ((Keeps.refl (fun _ => False) w).drew) gr6 (by simp [Value.ownBlock])
       rw [List.nil_append] at own6
       have O6 := Lib.hid own6
       have K6 := Lib.hid k6'
       clear own6 gr6 at6 hk6 k6')
    | fail)
  all_goals
    go_wp2_with fail
    go_ret
    first
      | exact clone_end T.out TM6.out O6b.out K6b.out (Nat.le_refl _)
      | exact clone_end T.out TM3.out O3.out K3.out K6.out.size
end
end Go.Proofs.Yteeginfbonfhlaa
