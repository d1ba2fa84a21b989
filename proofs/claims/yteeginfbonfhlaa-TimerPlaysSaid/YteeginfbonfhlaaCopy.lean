/- copy of a whole slice; what a slice's first element taken away leaves: for any program. -/
import Derived.Test.YteeginfbonfhlaaStr
import Derived.Laws.CopyOwn
namespace Go.Proofs.Yteeginfbonfhlaa.Mem
open Go.RowKit
section
variable {α : Type} {E : Enc α} {P : Program} {t e : TypeId} {bytes : Nat} {w : World}
theorem Keeps.setRow (w : World) (g : Nat) (cs : Array Value) : Keeps (fun b => b = g) w (w.setRow g cs) :=
  ⟨rfl, rfl, rfl, by simp [World.setRow], fun k _ hn => setRow_other w g k cs hn⟩
theorem run_copy (T : Elem P t e E bytes) (w : World) (g n dc : Nat) (A : Option Addr) (c : Nat) (l : List α) (cs : Array Value) (hg : Blk w g e cs) (hcs : cs.size = n * E.size) (hr : Reads E w A n l) (ty : TypeId) :
    ∃ w', (Builtin.copy_ #[t, t] ty #[.slice (some ⟨g, 0, none⟩) n dc, .slice A n c]).run P w = .ok (goInt n) w' ∧ Blk w' g e (E.all l).toArray ∧ Keeps (fun b => b = g) w w' := by
  obtain ⟨i, z, hi, hz0, hz1, hz2, hz3⟩ := T.info
  have hlen : (E.all l).length = n * E.size := by rw [E.all_length, hr.1]
  rcases Nat.eq_zero_or_pos n with h0 | h0
  · subst h0
    have hl0 : l = [] := List.eq_nil_of_length_eq_zero hr.1
    subst hl0
    have hc0 : cs = #[] := Array.eq_empty_of_size_eq_zero (by simpa using hcs)
    refine ⟨w, ?_, by rw [hc0] at hg; exact hg, Keeps.refl _ _⟩
    rcases A with _ | ad
    · simp [Builtin.copy_, run_underlying T.ht, sizeOf, typeInfo, hi, Builtin.lenOf, Builtin.firstCells, storeCells]
    · have hf := run_firstCells_some (P := P) w i.size 0 ad 0 c [] (by simp) (by simp)
      simp [Builtin.copy_, run_underlying T.ht, sizeOf, typeInfo, hi, Builtin.lenOf, hf, storeCells]
  · obtain ⟨ad, rfl, hc⟩ := hr.2 h0
    have hnews : ∀ j u, (E.all l)[j]? = some u → w.cell? (ad.add j) = some u := fun k u h => by
      obtain ⟨x, hx, hu⟩ := E.all_at l k u h
      have := hc _ x _ u hx hu
      rwa [show k / E.size * E.size + k % E.size = k by rw [Nat.mul_comm]; exact Nat.div_add_mod k E.size] at this
    have hf := run_firstCells_some (P := P) w i.size n ad n c (E.all l) (by rw [hlen, hz1]) hnews
    have hst := run_storeCells_at P g 0 e (E.all l) 0 cs w hg (by simp; omega) (E.all_one l)
    simp only [Nat.add_zero, Nat.zero_add] at hst
    have hrow : (cs.toList.take 0 ++ E.all l ++ cs.toList.drop (E.all l).length).toArray = (E.all l).toArray := by
      rw [List.drop_of_length_le (by rw [Array.length_toList]; omega)]
      simp
    rw [hrow] at hst
    refine ⟨w.setRow g (E.all l).toArray, ?_, setRow_heap w g _ _ e (0, 0) hg, Keeps.setRow w g _⟩
    simp [Builtin.copy_, run_underlying T.ht, sizeOf, typeInfo, hi, Builtin.lenOf, hf, hst]
theorem wp_copy (T : Elem P t e E bytes) {ops : Array Oper} {rest : List Oper} {o : Oper} {a : Act} {Q : Exit → Act → World → Prop} (hw : Region.wanted o (yielded ops a.tmps) = true) (d s : Operand)
    (ho : o.op = .call { callee := .builtin .copy, args := #[d, s], argTypes := #[t, t] }) (g n dc : Nat) (A : Option Addr) (c : Nat) (l : List α) (cs : Array Value) (hd : a.eval d = .slice (some ⟨g, 0, none⟩) n dc) (hs : a.eval s = .slice A n c)
    (hg : Blk w g e cs) (hcs : cs.size = n * E.size) (hr : Reads E w A n l)
    (h : ∀ w', Blk w' g e (E.all l).toArray → Keeps (fun b => b = g) w w' → wpList P ops Q rest (a.put o.dst (goInt n)) w') : wpList P ops Q (o :: rest) a w := by
  refine BigFrame.wpList_want hw fun K hK => ?_
  obtain ⟨w', hrun, h1, h2⟩ := run_copy T w g n dc A c l cs hg hcs hr o.type
  unfold Oper.wp execOp
  simp only [ho, resolve, invoke, builtin, Sem.run_bind, Sem.run_pure, Result.andThen_ok, List.map_toArray, List.map_cons, List.map_nil, hd, hs, hrun]
  exact hK _ _ (h w' h1 h2)
/-- append(s[:0], s[1:]...). -/
theorem run_shift (T : Elem P t e E bytes) (w : World) (base g n c : Nat) (x : α) (l : List α) (hown : Own E w base e (.slice (some ⟨g, 0, none⟩) (n + 1) c) (x :: l)) (A : Option Addr) (c' : Nat) (hA : 0 < n → A = some ⟨g, E.size, none⟩) (hA0 : A ≠ none) (ty : TypeId) :
    ∃ w', (Builtin.append_ #[t, t] ty #[.slice (some ⟨g, 0, none⟩) 0 c, .slice A n c']).run P w = .ok (.slice (some ⟨g, 0, none⟩) n c) w' ∧ (∃ y : α, Own E w' base e (.slice (some ⟨g, 0, none⟩) (n + 1) c) (l ++ [y])) ∧ Keeps (fun b => b = g) w w' := by
  obtain ⟨i, z, hi, hz0, hz1, hz2, hz3⟩ := T.info
  have hln : (x :: l).length = n + 1 := hown.len_eq rfl
  have hll : l.length = n := by simpa using hln
  rcases hown.2 with ⟨h', _⟩ | ⟨g', cap, cur, hv, hb, hh, h1, h2, h3, h4⟩
  · cases h'
  injection hv with hv1 hv2 hv3
  injection hv1 with hv1
  injection hv1 with hv1
  subst hv1 hv3
  have hEl : (E.all l).length = n * E.size := by rw [E.all_length, hll]
  have hall : E.all (x :: l) = E.enc x ++ E.all l := rfl
  rw [hln] at h1 h4
  have hcur : cur.toList.take ((n + 1) * E.size) = E.enc x ++ E.all l := by rw [← hall]; exact h4
  have hcs : (n + 1) * E.size ≤ cur.size := by rw [h3]; exact Nat.mul_le_mul_right _ h1
  have hsz : E.size + n * E.size ≤ cur.size := by rw [Nat.succ_mul] at hcs; omega
  have hm : ∀ j u, (E.all l)[j]? = some u → w.cell? ((⟨g, E.size, none⟩ : Addr).add j) = some u := fun j u hj => by
    rw [add_off, cell_of_row w g (E.size + j) cur e (0, 0) hh, ← Array.getElem?_toList]
    have hjl : j < n * E.size := by rw [← hEl]; exact (List.getElem?_eq_some_iff.1 hj).1
    have : (cur.toList.take ((n + 1) * E.size))[E.size + j]? = some u := by
      rw [hcur, List.getElem?_append_right (by rw [E.len]; omega), E.len, Nat.add_sub_cancel_left]
      exact hj
    rw [List.getElem?_take_of_lt (by rw [Nat.succ_mul]; omega)] at this
    exact this
  obtain ⟨ad, rfl⟩ : ∃ ad, A = some ad := Option.ne_none_iff_exists'.1 hA0
  have hnews : ∀ j u, (E.all l)[j]? = some u → w.cell? (ad.add j) = some u := fun j u hj => by
    have hjl : j < n * E.size := by rw [← hEl]; exact (List.getElem?_eq_some_iff.1 hj).1
    have hn0 : 0 < n := by
      rcases Nat.eq_zero_or_pos n with h | h
      · subst h; simp at hjl
      · exact h
    have := hA hn0
    injection this with this
    subst this
    exact hm j u hj
  have hrun := run_append_room (P := P) w t ty e i T.ht hi g 0 c cur hh ad n c' (E.all l) (by rw [hEl, hz1]) hnews (E.all_one l) (by omega) (by simp; omega)
  simp only [Nat.zero_mul, List.take_zero, List.nil_append, Nat.zero_add] at hrun
  refine ⟨_, hrun, ?_, Keeps.setRow w g _⟩
  -- the last element stays as it was
  obtain ⟨y, hy⟩ : ∃ y : α, (x :: l)[n]? = some y := ⟨_, List.getElem?_eq_getElem (by omega)⟩
  refine ⟨y, ?_, .inr ⟨g, c, _, by rw [List.length_append, hll]; rfl, hb, setRow_heap w g _ _ e (0, 0) hh, by rw [List.length_append, hll]; exact h1, h2, ?_, ?_⟩⟩
  · rw [E.all_length]
  · simp only [List.size_toArray, List.length_append, List.length_drop, hEl, Array.length_toList]
    omega
  · rw [List.length_append, hll, E.all_append]
    have hy2 : E.all [y] = E.enc y := by simp [Enc.all]
    have hsplit : x :: l = (x :: l).take n ++ [y] := by
      have := List.take_append_drop n (x :: l)
      rw [List.drop_eq_getElem_cons (by omega), List.drop_of_length_le (by omega)] at this
      rw [List.getElem?_eq_getElem (by omega)] at hy
      injection hy with hy
      rw [hy] at this
      exact this.symm
    have hlast : (cur.toList.drop (n * E.size)).take E.size = E.enc y := by
      have h5 : (cur.toList.take ((n + 1) * E.size)).drop (n * E.size) = E.enc y := by
        rw [hcur, ← hall, hsplit, E.all_append, hy2, List.drop_left' (by rw [E.all_length, List.length_take]; rw [Nat.min_eq_left (by omega)])]
      rw [List.drop_take, Nat.succ_mul, Nat.add_sub_cancel_left] at h5
      exact h5
    rw [hy2, hEl]
    show (E.all l ++ cur.toList.drop (n * E.size)).take ((n + 1) * E.size) = E.all l ++ E.enc y
    rw [List.take_append, List.take_of_length_le (by rw [hEl, Nat.succ_mul]; omega), hEl, Nat.succ_mul, Nat.add_sub_cancel_left, hlast]
/-- clear of the last element. -/
theorem run_clear_last (T : Elem P t e E bytes) (z : Value) (x0 : α) (hzv : ∀ w, (zeroValue e).run P w = .ok z w) (hz : z.cells.toList = E.enc x0) (w : World) (base g n c cc : Nat) (l : List α) (y : α) (hown : Own E w base e (.slice (some ⟨g, 0, none⟩) (n + 1) c) (l ++ [y])) (ty : TypeId) :
    ∃ w', (Builtin.clear_ #[t] ty #[.slice (some ⟨g, n * E.size, none⟩) 1 cc]).run P w = .ok (.tuple #[]) w' ∧ Own E w' base e (.slice (some ⟨g, 0, none⟩) n c) l ∧ Keeps (fun b => b = g) w w' := by
  have hln := hown.len_eq rfl
  have hll : l.length = n := by simpa using hln
  rcases hown.2 with ⟨h', _⟩ | ⟨g', cap, cur, hv, hb, hh, h1, h2, h3, h4⟩
  · cases h'
  injection hv with hv1 hv2 hv3
  injection hv1 with hv1
  injection hv1 with hv1
  subst hv1 hv3
  have hEl : (E.all l).length = n * E.size := by rw [E.all_length, hll]
  rw [hln] at h1 h4
  have hzl : z.cells.toList.length = E.size := by rw [hz, E.len]
  have hzc : (Builtin.zeroCells z.cells 1).toList = E.enc x0 := by
    rw [← hz]
    apply List.ext_getElem
    · simp [Builtin.zeroCells]
    · intro k h5 h6
      have hk : k < z.cells.size := by simpa using h6
      simp [Builtin.zeroCells, Nat.mod_eq_of_lt hk, hk]
  have hfit : n * E.size + E.size ≤ cur.size := by rw [h3, ← Nat.succ_mul]; exact Nat.mul_le_mul_right _ h1
  have hst := run_storeCells_at P g (n * E.size) e (E.enc x0) 0 cur w hh (by rw [E.len]; omega) (E.one x0)
  simp only [Nat.add_zero] at hst
  refine ⟨w.setRow g (cur.toList.take (n * E.size) ++ E.enc x0 ++ cur.toList.drop (n * E.size + (E.enc x0).length)).toArray, ?_, ?_, Keeps.setRow w g _⟩
  · simp [Builtin.clear_, run_underlying T.ht, hzv, hzc, hst]
  · refine ⟨by rw [E.all_length], .inr ⟨g, c, _, by rw [hll], hb, setRow_heap w g _ _ e (0, 0) hh, by omega, h2, ?_, ?_⟩⟩
    · simp only [List.size_toArray, List.length_append, List.length_take, List.length_drop, E.len, Array.length_toList]
      rw [Nat.min_eq_left (by omega)]
      omega
    · have h5 : cur.toList.take (n * E.size) = E.all l := by
        have h6 := congrArg (List.take (n * E.size)) h4
        rw [List.take_take, Nat.min_eq_left (Nat.mul_le_mul_right _ (by omega)), E.all_append, List.take_left' hEl] at h6
        exact h6
      rw [hll, List.take_append_of_le_length (by simp; omega), List.take_append_of_le_length (by simp; omega), List.take_take, Nat.min_self, h5]
theorem Own.shrink {base g n c : Nat} {l : List α} {y : α} (hown : Own E w base e (.slice (some ⟨g, 0, none⟩) (n + 1) c) (l ++ [y])) : Own E w base e (.slice (some ⟨g, 0, none⟩) n c) l := by
  have hln := hown.len_eq rfl
  have hll : l.length = n := by simpa using hln
  rcases hown.2 with ⟨h', _⟩ | ⟨g', cap, cur, hv, hb, hh, h1, h2, h3, h4⟩
  · cases h'
  injection hv with hv1 hv2 hv3
  injection hv1 with hv1
  injection hv1 with hv1
  subst hv1 hv3
  have hEl : (E.all l).length = n * E.size := by rw [E.all_length, hll]
  rw [hln] at h1 h4
  refine ⟨by rw [E.all_length], .inr ⟨g, c, cur, by rw [hll], hb, hh, by omega, h2, h3, ?_⟩⟩
  have h6 := congrArg (List.take (n * E.size)) h4
  rw [List.take_take, Nat.min_eq_left (Nat.mul_le_mul_right _ (by omega)), E.all_append, List.take_left' hEl] at h6
  rw [hll]
  exact h6
end
end Go.Proofs.Yteeginfbonfhlaa.Mem
