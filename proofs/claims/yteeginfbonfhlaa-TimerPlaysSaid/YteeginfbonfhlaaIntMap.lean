/- A map from a number and a text to a number, in a block of its own. -/
import Derived.Test.YteeginfbonfhlaaProg
import Derived.Test.YteeginfbonfhlaaFoot
import Derived.Maps.OwnSet
import Derived.DeepKeys5
import Derived.KernelRfl
namespace Go.Proofs.Yteeginfbonfhlaa
open Go.RowKit Go.Maps Go.MapKept Go.ChangeMaps Mem
theorem laidOutB_ : laidOutB Try.prog = true := by kernel_rfl
theorem lawKey : WideMaps.KeyLaw Try.prog 56 := deep_law_laid laidOutB_ (m := 2) (by omega) (of_decide_eq_true (by kernel_rfl)) (by kernel_rfl) (by kernel_rfl)
theorem keyed : Keyed Try.prog 56 := Keyed.of_law lawKey
theorem zeroE (w : World) : (zeroValue 3).run Try.prog w = .ok (.int .i64 0) w := by kernel_rfl
/-- A number that an int may be; a text that a string may be. -/
def isInt (i : Int) : Prop := -9223372036854775808 ≤ i ∧ i ≤ 9223372036854775807
def isStr (s : ByteArray) : Prop := s.size ≤ maxLen
theorem wf_int {i : Int} (h : isInt i) : (Lit.int .i64 i).wf = true := by
  unfold isInt at h
  simp [Lit.wf, IntKind.min, IntKind.max, IntKind.signed, IntKind.bits]
  omega
theorem int_wf {i : Int} (h : (Lit.int .i64 i).wf = true) : isInt i := by
  simp [Lit.wf, IntKind.min, IntKind.max, IntKind.signed, IntKind.bits] at h
  unfold isInt
  omega
def kval (i : Int) (s : ByteArray) : Value := .agg #[.string s, .int .i64 i]
def klit (i : Int) (s : ByteArray) : Lit := .string (keyBytes [.string s.data.toList, .int .i64 i])
theorem size_pos : ∃ m, Try.prog.types.size = m + 1 := by
  have h : (0 : TypeId) < Try.prog.types.size := of_decide_eq_true (by kernel_rfl)
  exact ⟨Try.prog.types.size - 1, by have : 0 < Try.prog.types.size := h; omega⟩
theorem keyTypeK : Try.prog.keyType 56 = true := by kernel_rfl
theorem cellsK : Try.prog.cellsOf 56 = 2 := by kernel_rfl
theorem cells3 : Try.prog.cellsOf 3 = 1 := by kernel_rfl
theorem cells9 : Try.prog.cellsOf 9 = 1 := by kernel_rfl
theorem key_at {i : Int} {s : ByteArray} (hi : isInt i) (hs : isStr s) : keyOf Try.prog 56 (kval i s) = some (klit i s) := by
  have hw := wf_int hi
  have hs' : s.size ≤ maxLen := hs
  obtain ⟨m, hm⟩ := size_pos
  unfold keyOf kval klit
  simp only [Try.underlying56]
  rw [if_pos (by simp [keyTypeK, Value.formed, Try.underlying56, cellsK]), hm]
  unfold Program.keyLits
  simp only [Try.underlying56, Value.cells]
  rw [if_pos ⟨by simp [cellsK], by kernel_rfl⟩]
  simp [List.mapM_cons, List.mapM_nil, cells3, cells9, Program.keyLits, Try.underlying3, Try.underlying9, hw, hs']
theorem klit_ne {i j : Int} {s t : ByteArray} (hi : isInt i) (hs : isStr s) (hj : isInt j) (ht : isStr t) (h : ¬ (j = i ∧ t = s)) : klit j t ≠ klit i s := by
  intro e
  have h1 := key_at hi hs
  have h2 := key_at hj ht
  rw [e] at h2
  have h3 := keyed.inj h1 h2
  unfold kval at h3
  simp at h3
  exact h ⟨by simp [h3], by simp [h3]⟩
/-- Block b is a map of at most n entries that says M. -/
def MapIs (w : World) (b n : Nat) (M : Int → ByteArray → Int) : Prop :=
  ∃ D : DataW Unit, w.ownsMap Try.prog 56 (plainElem Try.prog 3) b n D ∧ ∀ i s, isInt i → isStr s → D.atKey (klit i s) (.lit (.int .i64 0)) = .lit (.int .i64 (M i s))
/-- The map with one entry more. -/
def upd (M : Int → ByteArray → Int) (i : Int) (s : ByteArray) (v : Int) : Int → ByteArray → Int := fun j t => if j = i ∧ t = s then v else M j t
section
variable {w w' : World} {b n : Nat} {M : Int → ByteArray → Int} {S : Nat → Prop}
theorem MapIs.lt (h : MapIs w b n M) : b < w.heap.size := let ⟨_, h, _⟩ := h; h.lt
theorem MapIs.of_block (h : MapIs w b n M) (e : w'.heap[b]? = w.heap[b]?) : MapIs w' b n M := by
  obtain ⟨D, ⟨es, clock, hb, F, hs, hD⟩, hM⟩ := h
  exact ⟨D, ⟨es, clock, e.trans hb, F, hs, hD⟩, hM⟩
theorem MapIs.keeps (h : MapIs w b n M) (k : Keeps S w w') (hn : ¬ S b) : MapIs w' b n M := h.of_block (k.block b h.lt hn)
theorem MapIs.drewN (h : MapIs w b n M) (q : Nat) : MapIs (w.drewN q) b n M := h
theorem MapIs.drew (h : MapIs w b n M) : MapIs w.drew b n M := h
theorem MapIs.made (w : World) (H : Nat) (hH : w.heap.size = H) : MapIs (w.alloc (.map #[] 0)) H 0 (fun _ _ => 0) := by
  subst hH
  exact ⟨.map [], World.ownsMap_made _ _ _ _, fun i s _ _ => rfl⟩
theorem MapIs.ne_blk (h : MapIs w b n M) {g : Nat} {t : TypeId} {cs : Array Value} (hb : Blk w g t cs) : b ≠ g := by
  rintro rfl
  obtain ⟨D, ⟨es, clock, hm, _⟩, _⟩ := h
  unfold Blk at hb
  rw [hm] at hb
  cases hb
theorem MapIs.ne_cell (h : MapIs w b n M) {ad : Addr} {u : Value} (hc : w.cell? ad = some u) : ad.block ≠ b := by
  rintro rfl
  obtain ⟨D, ⟨es, clock, hm, _⟩, _⟩ := h
  simp [World.cell?, hm] at hc
theorem MapIs.look (h : MapIs w b n M) {i : Int} {s : ByteArray} (hi : isInt i) (hs : isStr s) : (Instr.lookup 51 (.map (some b)) (kval i s) false).run Try.prog w = .ok (.int .i64 (M i s)) w := by
  obtain ⟨D, ho, hM⟩ := h
  obtain ⟨c, hr, hat, _⟩ := ho.lookup_int keyed Try.underlying51 Try.underlying3 (zeroE _) (key_at hi hs)
  rw [hM i s hi hs] at hat
  simp at hat
  rw [hr, hat]
theorem MapIs.put (h : MapIs w b n M) {i : Int} {s : ByteArray} (hi : isInt i) (hs : isStr s) {v : Int} (hv : isInt v) (hn : n < 1000000) :
    ∃ w', (Instr.mapUpdate 51 (.map (some b)) (kval i s) (.int .i64 v)).run Try.prog w = .ok () w' ∧ MapIs w' b (n + 1) (upd M i s v) ∧ w.grownBy w' (some b) := by
  obtain ⟨D, ho, hM⟩ := h
  obtain ⟨w', hr, ho', hg⟩ := ho.update (d := .lit (.int .i64 v)) (ps := []) keyed Try.underlying51 (by unfold maxLen; omega) (key_at hi hs) (plainElem_int Try.underlying3 (wf_int hv))
  refine ⟨w', hr, ⟨_, ho', fun j t hj ht => ?_⟩, hg⟩
  unfold upd
  by_cases e : j = i ∧ t = s
  · rw [if_pos e, e.1, e.2]
    exact atKey_put_same ho.isMap (keyed.key (key_at hi hs)) _ _
  · rw [if_neg e, atKey_put_other (klit_ne hi hs hj ht e)]
    exact hM j t hj ht
theorem MapIs.clear (h : MapIs w b n M) (ty : TypeId) : ∃ w', (Builtin.clear_ #[51] ty #[.map (some b)]).run Try.prog w = .ok (.tuple #[]) w' ∧ MapIs w' b 0 (fun _ _ => 0) ∧ w.grownBy w' (some b) := by
  obtain ⟨D, ⟨es, clock, hb, F, hs, hD⟩, hM⟩ := h
  refine ⟨setBlock w b (.map #[] clock), ?_, ⟨.map [], ⟨#[], clock, heap_setBlock_same hb _, ⟨by simp, MapKept.stamped_empty clock, by simp⟩, Nat.le_refl _, rfl⟩, fun _ _ _ _ => rfl⟩, ⟨rfl, rfl, rfl, by simp [setBlock], fun i _ hi => heap_setBlock_other hb _ (fun e => hi (by rw [e]))⟩⟩
  simp [Builtin.clear_, run_underlying Try.underlying51, _root_.Go.MapKept.run_getObj_map hb, _root_.Go.MapKept.run_setObj_map _ hb, Result.andThen]
  rfl
end
end Go.Proofs.Yteeginfbonfhlaa
