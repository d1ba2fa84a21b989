/- The map of what is due says a list. -/
import Derived.Test.YteeginfbonfhlaaP2
import Derived.Test.YteeginfbonfhlaaIntMap
namespace Go.Proofs.Yteeginfbonfhlaa
open Go.RowKit Go.Maps Go.MapKept Go.ChangeMaps Mem
/-- Block b is a map of at most n entries that says L. -/
def TM (w : World) (b n : Nat) (L : List DU) : Prop :=
  ∃ D : DataW Unit, w.ownsMap Try.prog 56 (plainElem Try.prog 3) b n D ∧ Maps.size D = L.length ∧ ∀ s i, isStr s → isInt i → Maps.has D (klit i s) = (getA L s i).isSome ∧ ∀ v, getA L s i = some v → D.atKey (klit i s) (.lit (.int .i64 0)) = .lit (.int .i64 v)
section
variable {w w' : World} {b n : Nat} {L : List DU} {S : Nat → Prop}
theorem TM.lt (h : TM w b n L) : b < w.heap.size := let ⟨_, h, _⟩ := h; h.lt
theorem TM.of_block (h : TM w b n L) (e : w'.heap[b]? = w.heap[b]?) : TM w' b n L := by
  obtain ⟨D, ⟨es, clock, hb, F, hs, hD⟩, hM⟩ := h
  exact ⟨D, ⟨es, clock, e.trans hb, F, hs, hD⟩, hM⟩
theorem TM.keeps (h : TM w b n L) (k : Keeps S w w') (hn : ¬ S b) : TM w' b n L := h.of_block (k.block b h.lt hn)
theorem TM.drewN (h : TM w b n L) (q : Nat) : TM (w.drewN q) b n L := h
theorem TM.more (h : TM w b n L) {m : Nat} (hm : n ≤ m) : TM w b m L := by
  obtain ⟨D, ⟨es, clock, hb, F, hs, hD⟩, hM⟩ := h
  exact ⟨D, ⟨es, clock, hb, F, Nat.le_trans hs hm, hD⟩, hM⟩
theorem TM.made (w : World) (H : Nat) (hH : w.heap.size = H) : TM (w.alloc (.map #[] 0)) H 0 [] := by
  subst hH
  exact ⟨.map [], World.ownsMap_made _ _ _ _, rfl, fun s i _ _ => ⟨rfl, fun v h => by cases h⟩⟩
theorem TM.ne_blk (h : TM w b n L) {g : Nat} {t : TypeId} {cs : Array Value} (hb : Blk w g t cs) : b ≠ g := by
  rintro rfl
  obtain ⟨D, ⟨es, clock, hm, _⟩, _⟩ := h
  unfold Blk at hb
  rw [hm] at hb
  cases hb
theorem TM.ne_own (h : TM w b n L) {α : Type} {E : Enc α} {base : Nat} {e : TypeId} {v : Value} {l : List α} (ho : Own E w base e v l) : v.ownBlock ≠ some b := by
  rcases ho.2 with ⟨rfl, _⟩ | ⟨g', cap, cur, rfl, _, hh, _⟩
  · simp [Value.ownBlock]
  · intro he
    have : g' = b := by simpa [Value.ownBlock] using he
    subst this
    exact h.ne_blk (t := e) hh rfl
theorem TM.look (h : TM w b n L) {s : ByteArray} {i : Int} (hs : isStr s) (hi : isInt i) : (Instr.lookup 51 (.map (some b)) (.agg #[.string s, .int .i64 i]) true).run Try.prog w = .ok (.tuple #[.int .i64 ((getA L s i).getD 0), .bool (getA L s i).isSome]) w := by
  obtain ⟨D, ho, _, hM⟩ := h
  obtain ⟨v, ps, hr, hv⟩ := ho.look_ok (t := 51) keyed Try.underlying51 (zeroE w) (plainElem_int Try.underlying3 (by decide) : plainElem Try.prog 3 (.int .i64 0) = some (.lit (.int .i64 0), [])) (key_at hi hs)
  obtain ⟨h1, h2⟩ := hM s i hs hi
  obtain ⟨c, rfl, hc, _⟩ := plainElem_int_inv Try.underlying3 hv
  have e : (Instr.lookup 51 (.map (some b)) (.agg #[.string s, .int .i64 i]) true).run Try.prog w = .ok (.tuple #[.int .i64 c, .bool (Maps.has D (klit i s))]) w := hr
  rw [e, h1]
  have hc' := congrArg Prod.fst hc
  cases hg : getA L s i with
  | none =>
    have : Maps.has D (klit i s) = false := by rw [h1, hg]; rfl
    rw [atKey_of_not_has this] at hc'
    simp at hc'
    simp [hc']
  | some v =>
    rw [h2 v hg] at hc'
    simp at hc'
    simp [hc']
theorem TM.put (h : TM w b n L) (hU : Unlike L) {d : DU} (hs : isStr d.key) (hi : isInt d.kind) (hv : isInt d.at_) (hn : n < 1000000) :
    ∃ w', (Instr.mapUpdate 51 (.map (some b)) (.agg #[.string d.key, .int .i64 d.kind]) (.int .i64 d.at_)).run Try.prog w = .ok () w' ∧ TM w' b (n + 1) (wo L d.key d.kind ++ [d]) ∧ Keeps (fun q => q = b) w w' := by
  obtain ⟨D, ho, hz, hM⟩ := h
  obtain ⟨w', hr, ho', ht⟩ := ho.store (d := .lit (.int .i64 d.at_)) (ps := []) keyed Try.underlying51 (by unfold maxLen; omega) (key_at hi hs) (plainElem_int Try.underlying3 (wf_int hv))
  have hh := (hM d.key d.kind hs hi).1
  refine ⟨w', hr, ⟨_, ho', ?_, fun t j htt hj => ?_⟩, Keeps.grown (Keeps.refl (fun q => q = b) w) ht.grown (fun k e _ => by injection e with e; exact e.symm)⟩
  · rw [size_put (ho.tidy keyed), hh, hz, List.length_append, List.length_singleton]
    have := wo_len hU d.key d.kind
    cases hg : (getA L d.key d.kind).isSome <;> simp [hg] at this ⊢ <;> omega
  · by_cases e : t = d.key ∧ j = d.kind
    · obtain ⟨rfl, rfl⟩ := e
      rw [getA_set_same]
      refine ⟨by rw [has_put_same ho.isMap (keyed.key (key_at hi hs))]; rfl, fun v hv => ?_⟩
      injection hv with hv
      subst hv
      exact atKey_put_same ho.isMap (keyed.key (key_at hi hs)) _ _
    · rw [getA_set_other L d e]
      have hne : klit j t ≠ klit d.kind d.key := klit_ne hi hs hj htt (fun h => e ⟨h.2, h.1⟩)
      rw [has_put_other hne]
      refine ⟨(hM t j htt hj).1, fun v hv => ?_⟩
      rw [atKey_put_other hne]
      exact (hM t j htt hj).2 v hv
theorem TM.del (h : TM w b n L) (hU : Unlike L) {s : ByteArray} {i : Int} (hs : isStr s) (hi : isInt i) (ty : TypeId) :
    ∃ w', (Builtin.delete_ #[51, 56] ty #[.map (some b), .agg #[.string s, .int .i64 i]]).run Try.prog w = .ok (.tuple #[]) w' ∧ TM w' b n (wo L s i) ∧ Keeps (fun q => q = b) w w' := by
  obtain ⟨D, ho, hz, hM⟩ := h
  obtain ⟨w', hr, ho', ht⟩ := ho.drop keyed Try.underlying51 (key_at hi hs) ty
  have hh := (hM s i hs hi).1
  refine ⟨w', hr, ⟨_, ho', ?_, fun t j htt hj => ?_⟩, Keeps.grown (Keeps.refl (fun q => q = b) w) ht.grown (fun k e _ => by injection e with e; exact e.symm)⟩
  · have h1 := size_del (k := klit i s) (ho.tidy keyed)
    have h2 := wo_len hU s i
    rw [hh, hz] at h1
    omega
  · by_cases e : t = s ∧ j = i
    · obtain ⟨rfl, rfl⟩ := e
      rw [getA_wo_same, has_del_same]
      exact ⟨rfl, fun v hv => by cases hv⟩
    · rw [getA_wo_other L e]
      have hne : klit j t ≠ klit i s := klit_ne hi hs hj htt (fun h => e ⟨h.2, h.1⟩)
      rw [has_del_other hne]
      refine ⟨(hM t j htt hj).1, fun v hv => ?_⟩
      rw [atKey_del_other hne]
      exact (hM t j htt hj).2 v hv
theorem TM.len (h : TM w b n L) (ty : TypeId) : (Builtin.len_ #[51] ty #[.map (some b)]).run Try.prog w = .ok (.int .i64 L.length) w := by
  obtain ⟨D, ho, hz, _⟩ := h
  rw [ho.len Try.underlying51 ty, hz]
theorem TM.clone (h : TM w b n L) : ∃ es clock, w.heap[b]? = some (.map es clock) ∧ TM (w.alloc (.map es clock)) w.heap.size n L := by
  obtain ⟨D, ⟨es, clock, hb, F, hs, hD⟩, hM⟩ := h
  exact ⟨es, clock, hb, D, ⟨es, clock, heap_alloc_new w _, F, hs, hD⟩, hM⟩
end
end Go.Proofs.Yteeginfbonfhlaa
