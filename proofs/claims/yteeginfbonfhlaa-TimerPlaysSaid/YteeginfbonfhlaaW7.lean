/- The timers' calls: walked. -/
import Derived.Test.YteeginfbonfhlaaW6
namespace Go.Proofs.Yteeginfbonfhlaa
open Go.RowKit Mem
/-- Timers that say c and L, and lie in F. -/
def TF (w : World) (F : Nat → Prop) (g : Nat) (c : Int) (L : List DU) (N : Nat) : Prop := ∃ mb A n cp H, TS w g mb A n cp c H L N ∧ ∀ q, F q ↔ tfoot g mb A q
section
variable {w w' : World} {F : Nat → Prop} {g : Nat} {c : Int} {L : List DU} {N : Nat}
theorem TF.lies (h : TF w F g c L N) : Lies 0 F w := fun k hk => by
  obtain ⟨mb, A, n, cp, H, t, hF⟩ := h
  exact ⟨Nat.zero_le _, t.lt ((hF k).1 hk)⟩
theorem TF.keep {S : Nat → Prop} (h : TF w F g c L N) (K : Keeps S w w') (hS : ∀ q, F q → ¬ S q) : TF w' F g c L N := by
  obtain ⟨mb, A, n, cp, H, t, hF⟩ := h
  exact ⟨mb, A, n, cp, H, t.keep K (fun q hq => hS q ((hF q).2 hq)), hF⟩
theorem TF.unl (h : TF w F g c L N) : Unlike L := by
  obtain ⟨mb, A, n, cp, H, t, hF⟩ := h
  exact t.unl
theorem TF.ok (h : TF w F g c L N) : ∀ d ∈ L, okD d := by
  obtain ⟨mb, A, n, cp, H, t, hF⟩ := h
  exact fun d hd => t.ok d (t.sub d hd)
theorem TF.clk (h : TF w F g c L N) : 0 ≤ c ∧ c ≤ 1125899906842624 := by
  obtain ⟨mb, A, n, cp, H, t, hF⟩ := h
  exact t.clk
theorem TF.more (h : TF w F g c L N) {M : Nat} (hM : N ≤ M) : TF w F g c L M := by
  obtain ⟨mb, A, n, cp, H, t, hF⟩ := h
  exact ⟨mb, A, n, cp, H, ⟨t.box, t.map.more hM, t.row, t.heap, t.sub, t.unl, t.ok, Nat.le_trans t.few hM, t.clk⟩, hF⟩
theorem new_any (w : World) : Calls Try.prog 8 #[] w fun e w' => ∃ g F, e = .returned (.pointer (some ⟨g, 0, none⟩)) ∧ TF w' F g 0 [] 0 ∧ (∀ q, F q → w.heap.size ≤ q) ∧ Keeps (fun _ => False) w w' := by
  have hmk : ∀ W, (Instr.makeMap 51 none).run Try.prog W = .ok (.map (some W.heap.size)) (W.alloc (.map #[] 0)) := fun W => by kernel_rfl
  go_enter Try.func8, Try.ntmps8
  go_wp2_with fail
  go_ret
  have k : Keeps (fun _ => False) w ((w.alloc (.map #[] 0)).alloc (.cells #[.int .i64 0, .map (some w.heap.size), .slice none 0 0] 54)) := ((Keeps.refl _ w).alloc _).alloc _
  refine ⟨w.heap.size + 1, tfoot (w.heap.size + 1) w.heap.size none, rfl, ⟨w.heap.size, none, 0, 0, [], ⟨Blk.new _ 54 _ _ (by simp), (TM.made w _ rfl).keeps ((Keeps.refl (fun _ => False) _).alloc _) (fun h => h), Own.nil _ _ _ _, fun k _ h => by omega, by simp, List.Pairwise.nil, by simp, Nat.le_refl _, by omega⟩, fun _ => Iff.rfl⟩, fun q hq => ?_, k⟩
  rcases hq with rfl | rfl | hq
  · omega
  · omega
  · simp [Value.ownBlock] at hq
theorem now_any (h : TF w F g c L N) : Calls Try.prog 15 #[.pointer (some ⟨g, 0, none⟩)] w fun e w' => e = .returned (.int .i64 c) ∧ w' = w := by
  obtain ⟨mb, A, n, cp, H, t, hF⟩ := h
  have b0 := t.box.cell 0
  simp at b0
  clear t hF
  go_enter Try.func15, Try.ntmps15
  go_wp2_with fail
  go_ret
  exact ⟨rfl, rfl⟩
theorem len_any (h : TF w F g c L N) : Calls Try.prog 10 #[.pointer (some ⟨g, 0, none⟩)] w fun e w' => e = .returned (.int .i64 L.length) ∧ w' = w := by
  obtain ⟨mb, A, n, cp, H, t, hF⟩ := h
  have b1 := t.box.cell 1
  simp at b1
  have hlen : ∀ ty, (Builtin.len_ #[51] ty #[.map (some mb)]).run Try.prog w = .ok (.int .i64 L.length) w := fun ty => t.map.len ty
  clear t hF
  go_enter Try.func10, Try.ntmps10
  go_wp2_with fail
  go_ret
  exact ⟨rfl, rfl⟩
theorem drop_any (h : TF w F g c L N) {s : ByteArray} {i : Int} (hs : isStr s) (hi : isInt i) :
    Calls Try.prog 12 #[.pointer (some ⟨g, 0, none⟩), .string s, .int .i64 i] w fun e w' => e = .returned (.bool (getA L s i).isSome) ∧ TF w' F g c (wo L s i) N ∧ Keeps F w w' := by
  obtain ⟨mb, A, n, cp, H, t, hF⟩ := h
  have b1 := t.box.cell 1
  simp at b1
  have hlook := t.map.look hs hi
  obtain ⟨w2, hdel, tm2, k2⟩ := t.map.del t.unl hs hi 0
  have T := Lib.hid t
  have TM2 := Lib.hid tm2
  have K2 := Lib.hid k2
  have HF := Lib.hid hF
  clear t tm2 k2 hF
  go_enter Try.func12, Try.ntmps12
  go_wp2_with fail
  go_ret
  have ts : TS w2 g mb A n cp c H (wo L s i) N := ⟨T.out.box.keeps K2.out (fun e => T.out.map.ne_blk T.out.box e.symm), TM2.out, T.out.row.keeps K2.out (fun q hq e => T.out.map.ne_own T.out.row (by rw [← e]; exact hq)), T.out.heap, fun d hd => T.out.sub d (mem_wo.1 hd).1, wo_unlike T.out.unl _ _, T.out.ok, T.out.few, T.out.clk⟩
  exact ⟨rfl, ⟨mb, A, n, cp, H, ts, HF.out⟩, K2.out.mono (fun q _ e => (HF.out q).2 (.inr (.inl e)))⟩
end
end Go.Proofs.Yteeginfbonfhlaa
