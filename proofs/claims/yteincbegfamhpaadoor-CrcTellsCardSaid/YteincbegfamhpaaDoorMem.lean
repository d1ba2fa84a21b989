/- Bytes put behind bytes of the call's own: append's run, the source nil, empty or not. -/
import Derived.Test.YteincbegfamhpaaDoorW2
import Derived.Maps.AppendAt
import Derived.OwnWalk
import Derived.Deep.AppendLies
import Derived.Laws.OwnMore
namespace Go.Proofs.YteincbegfamhpaaDoor
open Go.RowKit
theorem info5m : (Tryd.prog.info? 5).map (fun i => (i.zero, i.size, i.bytes)) = some (some (.int .u8 0), 1, 1) := by kernel_rfl
def vals (X : List Nat) : List Value := X.map fun c : Nat => Value.int .u8 c
theorem vals_get (X : List Nat) (j : Nat) (u : Value) (h : (vals X)[j]? = some u) : u = .int .u8 (at_ X j) := by
  unfold vals at h
  rw [List.getElem?_map] at h
  unfold at_
  rw [List.getD_eq_getElem?_getD]
  cases hx : X[j]? with
  | none => rw [hx] at h; cases h
  | some x => rw [hx] at h; simpa using h.symm
/-- A slice of the call's own: these bytes. -/
def Own (w : World) (base : Nat) (v : Value) (X : List Nat) : Prop := w.ownsRow base 5 1 v X.length (vals X)
theorem own_empty (w : World) (base H : Nat) (hH : w.heap.size = H) (hb : base ≤ H) : Own (w.alloc (.cells #[] 5)) base (.slice (some ⟨H, 0, none⟩) 0 0) [] := by
  subst hH
  exact ⟨rfl, .inr ⟨_, 0, #[], rfl, hb, heap_alloc_new w _, Nat.le_refl _, by simp [maxLen], rfl, rfl⟩⟩
theorem append_run (w : World) (base : Nat) (v : Value) (X Y : List Nat) (A : Option Addr) (m c : Nat) (hown : Own w base v X) (hY : Bytes w A m Y) (hl : X.length + m ≤ 140737488355328) (hb : base ≤ w.heap.size) (ty : TypeId) :
    ∃ v' w', (Builtin.append_ #[22, 22] ty #[v, .slice A m c]).run Tryd.prog w = .ok v' w' ∧ Own w' base v' (X ++ Y) ∧ w.grownBy w' v.ownBlock ∧ (v'.ownBlock = v.ownBlock ∨ v'.ownBlock = some w.heap.size) := by
  obtain ⟨i0, hi, hz0, hz1, hz2⟩ := info_parts info5m
  have hlen : (vals Y).length = m * 1 := by simp [vals, hY.1]
  have go : ∀ ad : Addr, (∀ j u, (vals Y)[j]? = some u → w.cell? (ad.add j) = some u) → ∃ v' w', (Builtin.append_ #[22, 22] ty #[v, .slice (some ad) m c]).run Tryd.prog w = .ok v' w' ∧ Own w' base v' (X ++ Y) ∧ w.grownBy w' v.ownBlock ∧ (v'.ownBlock = v.ownBlock ∨ v'.ownBlock = some w.heap.size) := by
    intro ad hc
    obtain ⟨v', w', h1, h2, h3, _, h5⟩ := run_append_own_at (P := Tryd.prog) w base 22 ty 5 i0 (.int .u8 0) 1 1 Tryd.underlying22 hi hz0 hz1 hz2 rfl (by decide) v X.length (vals X) hown ad m c (vals Y) hlen hc
      (fun u hu => by obtain ⟨x, _, rfl⟩ := List.mem_map.1 hu; rfl) (by simp only [maxLen]; omega) (by omega) hb
    refine ⟨v', w', h1, ?_, h3, h5⟩
    unfold Own
    rw [List.length_append, hY.1]
    simpa [vals] using h2
  rcases Nat.eq_zero_or_pos m with h0 | h0
  · have hY0 : Y = [] := List.eq_nil_of_length_eq_zero (by rw [hY.1, h0])
    subst h0 hY0
    rcases A with _ | ad
    · refine ⟨v, w, ?_, by simpa using hown, World.grownBy.refl w _, .inl rfl⟩
      rcases hown.2 with ⟨rfl, _⟩ | ⟨g, cap, cur, rfl, _, _, hnc, _⟩
      · simp [Builtin.append_, run_underlying Tryd.underlying22, sizeOf, typeInfo, hi, Builtin.lenOf, Builtin.firstCells]
      · simp [Builtin.append_, run_underlying Tryd.underlying22, sizeOf, typeInfo, hi, Builtin.lenOf, Builtin.firstCells, hnc, storeCells]
    · exact go ad (fun j u h => by simp [vals] at h)
  · obtain ⟨ad, rfl, hc⟩ := hY.2.2.2 h0
    refine go ad (fun j u h => ?_)
    have hj : j < m := by
      have := (List.getElem?_eq_some_iff.1 h).1
      omega
    rw [hc j hj, vals_get Y j u h]
/-- append, at its operation, guarded or not. -/
theorem wp_append {ops : Array Oper} {rest : List Oper} {o : Oper} {a : Act} {Q : Exit → Act → World → Prop} {w : World} (hw : Region.wanted o (yielded ops a.tmps) = true) (s x : Operand)
    (ho : o.op = .call { callee := .builtin .append, args := #[s, x], argTypes := #[22, 22] }) (base : Nat) (v : Value) (X Y : List Nat) (A : Option Addr) (m c : Nat) (hs : a.eval s = v) (hx : a.eval x = .slice A m c)
    (hown : Own w base v X) (hY : Bytes w A m Y) (hl : X.length + m ≤ 140737488355328) (hb : base ≤ w.heap.size)
    (h : ∀ v' w', Own w' base v' (X ++ Y) → w.grownBy w' v.ownBlock → (v'.ownBlock = v.ownBlock ∨ v'.ownBlock = some w.heap.size) → wpList Tryd.prog ops Q rest (a.put o.dst v') w') :
    wpList Tryd.prog ops Q (o :: rest) a w := by
  refine BigFrame.wpList_want hw fun K hK => ?_
  obtain ⟨v', w', hr, h1, h2, h3⟩ := append_run w base v X Y A m c hown hY hl hb o.type
  unfold Oper.wp execOp
  simp only [ho, resolve, invoke, builtin, Sem.run_bind, Sem.run_pure, Result.andThen_ok, List.map_toArray, List.map_cons, List.map_nil, hs, hx, hr]
  exact hK _ _ (h v' w' h1 h2 h3)
theorem Own.bytes {w : World} {base : Nat} {v : Value} {X : List Nat} (h : Own w base v X) (hX : ∀ c ∈ X, c < 256) (hl : X.length ≤ 281474976710000) : ∃ A c, v = .slice A X.length c ∧ Bytes w A X.length X := by
  rcases Nat.eq_zero_or_pos X.length with h0 | h0
  · rcases h.2 with ⟨rfl, _⟩ | ⟨g, cap, cur, rfl, _⟩
    · exact ⟨none, 0, by rw [h0], ⟨rfl, hl, hX, fun h => absurd h (by omega)⟩⟩
    · exact ⟨_, cap, rfl, ⟨rfl, hl, hX, fun h => absurd h (by omega)⟩⟩
  · obtain ⟨g, cap, rfl, _, _⟩ := World.ownsRow.form h h0
    refine ⟨_, cap, rfl, ⟨rfl, hl, hX, fun _ => ⟨_, rfl, fun j hj => World.ownsRow.cells h (g := g) rfl j _ ?_⟩⟩⟩
    unfold vals at_
    rw [List.getElem?_map, List.getElem?_eq_getElem hj, List.getD_eq_getElem?_getD, List.getElem?_eq_getElem hj]
    rfl
theorem Bytes.grown {w w' : World} {A : Option Addr} {n : Nat} {L : List Nat} (h : Bytes w A n L) {row : Option Nat} (hg : w.grownBy w' row) (hne : ∀ ad, A = some ad → 0 < n → some ad.block ≠ row) : Bytes w' A n L :=
  ⟨h.1, h.2.1, h.2.2.1, fun h0 => by
    obtain ⟨ad, e, hc⟩ := h.2.2.2 h0
    refine ⟨ad, e, fun j hj => ?_⟩
    have hlt := World.block_lt_of_cell? w _ (hc j hj)
    have hbl : (ad.add j).block = ad.block := by unfold Addr.add; split <;> rfl
    exact (World.cell?_of_block (hg.block _ hlt (by rw [hbl]; exact hne ad e h0))).trans (hc j hj)⟩
theorem Tab.grown {w w' : World} (h : Tab w) {row : Option Nat} (hg : w.grownBy w' row) (h0 : 0 < w.heap.size) (hne : row ≠ some 0) : Tab w' := fun i hi =>
  (World.cell?_of_block (a := ⟨0, i, none⟩) (hg.block 0 h0 (fun e => hne e.symm))).trans (h i hi)
theorem Own.base_le {w : World} {base : Nat} {v : Value} {X : List Nat} (h : Own w base v X) (k : Nat) (hk : v.ownBlock = some k) : base ≤ k := by
  rcases h.2 with ⟨rfl, _⟩ | ⟨g, cap, cur, rfl, hb, _⟩
  · simp [Value.ownBlock] at hk
  · have : g = k := by simpa [Value.ownBlock] using hk
    omega
end Go.Proofs.YteincbegfamhpaaDoor
