/- Words for memory: things in cells, slices that are read, rows of the call's own, what a call keeps. For any program. -/
import Derived.WalkKit
import Derived.Lib.Hide
import Derived.Below
import Derived.Maps.AppendAt
import Derived.OwnWalk
import Derived.Laws.OwnMore
import Derived.Laws.Rows
import Derived.Deep.AppendLies
import Derived.Deep.OwnRows
import Derived.Deep.Draws
namespace Go.Proofs.Yteeginfbonfhlaa.Mem
open Go.RowKit

/-- How a thing lies in cells. -/
structure Enc (α : Type) where
  enc : α → List Value
  size : Nat
  len : ∀ x, (enc x).length = size
  one : ∀ x u, u ∈ enc x → u.oneCell' = true
  pos : 0 < size
variable {α : Type} {E : Enc α}
def Enc.all (E : Enc α) (l : List α) : List Value := l.flatMap E.enc
theorem Enc.all_length (E : Enc α) (l : List α) : (E.all l).length = l.length * E.size := by
  induction l with
  | nil => simp [Enc.all]
  | cons x l ih =>
    have : E.all (x :: l) = E.enc x ++ E.all l := rfl
    rw [this, List.length_append, ih, E.len, List.length_cons, Nat.succ_mul, Nat.add_comm]
theorem Enc.all_append (E : Enc α) (l m : List α) : E.all (l ++ m) = E.all l ++ E.all m := by simp [Enc.all]
theorem Enc.all_one (E : Enc α) (l : List α) : ∀ u ∈ E.all l, u.oneCell' = true := by
  intro u hu
  obtain ⟨x, _, hx⟩ := List.mem_flatMap.1 hu
  exact E.one x u hx
theorem Enc.all_get (E : Enc α) : ∀ (l : List α) (i j : Nat) (x : α) (u : Value), l[i]? = some x → (E.enc x)[j]? = some u → (E.all l)[i * E.size + j]? = some u
  | y :: l, 0, j, x, u, hi, hj => by
    obtain rfl : y = x := by simpa using hi
    have hl : j < (E.enc y).length := (List.getElem?_eq_some_iff.1 hj).1
    show (E.enc y ++ E.all l)[0 * E.size + j]? = some u
    rw [Nat.zero_mul, Nat.zero_add, List.getElem?_append_left hl]
    exact hj
  | y :: l, i + 1, j, x, u, hi, hj => by
    show (E.enc y ++ E.all l)[(i + 1) * E.size + j]? = some u
    have e : (i + 1) * E.size + j = E.size + (i * E.size + j) := by rw [Nat.succ_mul]; omega
    rw [e, List.getElem?_append_right (by rw [E.len]; omega), E.len, Nat.add_sub_cancel_left]
    exact Enc.all_get E l i j x u (by simpa using hi) hj
  | [], i, j, x, u, hi, _ => by simp at hi
theorem Enc.all_at (E : Enc α) (l : List α) (k : Nat) (u : Value) (h : (E.all l)[k]? = some u) : ∃ x, l[k / E.size]? = some x ∧ (E.enc x)[k % E.size]? = some u := by
  have hk : k < l.length * E.size := by
    have := (List.getElem?_eq_some_iff.1 h).1
    rwa [E.all_length] at this
  have hi : k / E.size < l.length := Nat.div_lt_of_lt_mul (by rwa [Nat.mul_comm] at hk)
  have hm := Nat.mod_lt k E.pos
  have hu : (E.enc l[k / E.size])[k % E.size]? = some ((E.enc l[k / E.size])[k % E.size]'(by rw [E.len]; exact hm)) := List.getElem?_eq_getElem _
  refine ⟨l[k / E.size], List.getElem?_eq_getElem hi, ?_⟩
  have := Enc.all_get E l (k / E.size) (k % E.size) _ _ (List.getElem?_eq_getElem hi) hu
  have e : k / E.size * E.size + k % E.size = k := by rw [Nat.mul_comm]; exact Nat.div_add_mod k E.size
  rw [e, h] at this
  rw [hu, this]

theorem block_add (a : Addr) (n : Nat) : (a.add n).block = a.block := by unfold Addr.add; split <;> rfl
theorem add_add (a : Addr) (i j : Nat) : (a.add i).add j = a.add (i + j) := by
  unfold Addr.add
  by_cases hi : i = 0 <;> by_cases hj : j = 0 <;> simp [hi, hj, Nat.add_assoc]
theorem add_at (g j : Nat) : (⟨g, 0, none⟩ : Addr).add j = ⟨g, j, none⟩ := by unfold Addr.add; split <;> simp_all
theorem add_off (g o j : Nat) : (⟨g, o, none⟩ : Addr).add j = ⟨g, o + j, none⟩ := by unfold Addr.add; split <;> simp_all

/-! ### What a call keeps -/
/-- All blocks that were there are as they were, but those of S. -/
structure Keeps (S : Nat → Prop) (w w' : World) : Prop where
  os : w'.os = w.os
  tape : w'.tape = w.tape
  output : w'.output = w.output
  size : w.heap.size ≤ w'.heap.size
  block : ∀ k, k < w.heap.size → ¬ S k → w'.heap[k]? = w.heap[k]?
section
variable {S S' : Nat → Prop} {w w1 w2 W W1 : World}
theorem Keeps.refl (S : Nat → Prop) (w : World) : Keeps S w w := ⟨rfl, rfl, rfl, Nat.le_refl _, fun _ _ _ => rfl⟩
theorem Keeps.trans (h : Keeps S w w1) (k : Keeps S' w1 w2) (hs : ∀ b, b < w.heap.size → S' b → S b) : Keeps S w w2 :=
  ⟨k.os.trans h.os, k.tape.trans h.tape, k.output.trans h.output, Nat.le_trans h.size k.size, fun b hb hn => (k.block b (Nat.lt_of_lt_of_le hb h.size) (fun e => hn (hs b hb e))).trans (h.block b hb hn)⟩
theorem Keeps.mono (h : Keeps S w w1) (hs : ∀ b, b < w.heap.size → S b → S' b) : Keeps S' w w1 := ⟨h.os, h.tape, h.output, h.size, fun b hb hn => h.block b hb (fun e => hn (hs b hb e))⟩
theorem Keeps.below (h : Keeps S w w1) {B : Nat} (hB : B ≤ w.heap.size) (hs : ∀ b, b < B → ¬ S b) : Below B w w1 := ⟨h.os, h.tape, h.output, h.size, fun k hk => h.block k (Nat.lt_of_lt_of_le hk hB) (hs k hk)⟩
theorem Keeps.of_below (h : Below w.heap.size w w1) : Keeps (fun _ => False) w w1 := ⟨h.os, h.tape, h.output, h.size, fun b hb _ => h.block b hb⟩
theorem Keeps.alloc (h : Keeps S w W) (o : Obj) : Keeps S w (W.alloc o) :=
  ⟨h.os, h.tape, h.output, Nat.le_trans h.size (by simp), fun b hb hn => (Below.heap_alloc W o b (Nat.lt_of_lt_of_le hb h.size)).trans (h.block b hb hn)⟩
theorem Keeps.setCell (h : Keeps S w W) (p : Addr) (v : Value) (hp : p.block < w.heap.size → S p.block) : Keeps S w (W.setCell p v) :=
  ⟨h.os, h.tape, h.output, Nat.le_trans h.size (by simp), fun b hb hn => (Below.heap_setCell W p v b (fun e => hn (e ▸ hp (e ▸ hb)))).trans (h.block b hb hn)⟩
theorem Keeps.drew (h : Keeps S w W) : Keeps S w W.drew := ⟨h.os, h.tape, h.output, h.size, h.block⟩
theorem Keeps.drewN (h : Keeps S w W) (n : Nat) : Keeps S w (W.drewN n) := ⟨h.os, h.tape, h.output, h.size, h.block⟩
theorem Keeps.grown (h : Keeps S w W) {row : Option Nat} (hg : W.grownBy W1 row) (hr : ∀ k, row = some k → k < w.heap.size → S k) : Keeps S w W1 :=
  ⟨hg.os.trans h.os, hg.tape.trans h.tape, hg.output.trans h.output, Nat.le_trans h.size hg.size,
    fun b hb hn => (hg.block b (Nat.lt_of_lt_of_le hb h.size) (fun e => hn (hr b e.symm hb))).trans (h.block b hb hn)⟩
theorem Keeps.cell (h : Keeps S w w1) {p : Addr} {v : Value} (hn : ¬ S p.block) (hc : w.cell? p = some v) : w1.cell? p = some v :=
  (World.cell?_of_block (h.block _ (World.block_lt_of_cell? w p hc) hn)).trans hc
theorem Below.then_ {B : Nat} (h : Below B w w1) (hB : B ≤ w1.heap.size) (k : Below w1.heap.size w1 w2) : Below B w w2 :=
  h.trans ⟨k.os, k.tape, k.output, k.size, fun i hi => k.block i (Nat.lt_of_lt_of_le hi hB)⟩
end

/-! ### A slice that is read: nil, empty and other ones alike -/
def Reads (E : Enc α) (w : World) (A : Option Addr) (n : Nat) (l : List α) : Prop :=
  l.length = n ∧ (0 < n → ∃ ad, A = some ad ∧ ∀ i x j u, l[i]? = some x → (E.enc x)[j]? = some u → w.cell? (ad.add (i * E.size + j)) = some u)
section
variable {w w1 : World} {A : Option Addr} {n : Nat} {l : List α} {S : Nat → Prop}
theorem Reads.nil (E : Enc α) (w : World) (A : Option Addr) : Reads E w A 0 [] := ⟨rfl, fun h => absurd h (by omega)⟩
theorem Reads.at_ (h : Reads E w A n l) {i : Nat} {x : α} (hi : l[i]? = some x) : ∃ ad, A = some ad ∧ ∀ j u, (E.enc x)[j]? = some u → w.cell? (ad.add (i * E.size + j)) = some u := by
  have hl := (List.getElem?_eq_some_iff.1 hi).1
  obtain ⟨ad, e, hc⟩ := h.2 (by have := h.1; omega)
  exact ⟨ad, e, fun j u hu => hc i x j u hi hu⟩
theorem Reads.lt (h : Reads E w A n l) (hn : 0 < n) {ad : Addr} (hA : A = some ad) : ad.block < w.heap.size := by
  obtain ⟨ad', e, hc⟩ := h.2 hn
  have hx : 0 < l.length := by have := h.1; omega
  have hp := E.pos
  have hl := E.len l[0]
  have := hc 0 l[0] 0 _ (List.getElem?_eq_getElem hx) (List.getElem?_eq_getElem (by omega))
  have hb := World.block_lt_of_cell? w _ this
  rw [block_add] at hb
  rw [hA] at e
  injection e with e
  rw [e]
  exact hb
theorem Reads.keeps (h : Reads E w A n l) (hk : Keeps S w w1) (hn : ∀ ad, A = some ad → 0 < n → ¬ S ad.block) : Reads E w1 A n l :=
  ⟨h.1, fun h0 => by
    obtain ⟨ad, e, hc⟩ := h.2 h0
    exact ⟨ad, e, fun i x j u hi hj => hk.cell (by rw [block_add]; exact hn ad e h0) (hc i x j u hi hj)⟩⟩
theorem Reads.below (h : Reads E w A n l) (hb : Below w.heap.size w w1) : Reads E w1 A n l := h.keeps (Keeps.of_below hb) (fun _ _ _ h => h)
theorem Reads.grown (h : Reads E w A n l) {row : Option Nat} (hg : w.grownBy w1 row) (hn : ∀ ad, A = some ad → 0 < n → some ad.block ≠ row) : Reads E w1 A n l :=
  h.keeps (S := fun k => some k = row) ((Keeps.refl _ w).grown hg (fun _ e _ => e.symm)) hn
theorem Reads.alloc (h : Reads E w A n l) (o : Obj) : Reads E (w.alloc o) A n l := h.keeps ((Keeps.refl (fun _ => False) w).alloc o) (fun _ _ _ h => h)
theorem Reads.drewN (h : Reads E w A n l) (k : Nat) : Reads E (w.drewN k) A n l := h
theorem Reads.drew (h : Reads E w A n l) : Reads E w.drew A n l := h
theorem Reads.setCell (h : Reads E w A n l) (p : Addr) (v : Value) (hn : ∀ ad, A = some ad → 0 < n → ad.block ≠ p.block) : Reads E (w.setCell p v) A n l :=
  h.keeps (S := fun k => k = p.block) ((Keeps.refl _ w).setCell p v (fun _ => rfl)) hn
theorem Reads.take (h : Reads E w A n l) {k : Nat} (hk : k ≤ n) : Reads E w A k (l.take k) := by
  refine ⟨by rw [List.length_take, h.1]; omega, fun h0 => ?_⟩
  obtain ⟨ad, e, hc⟩ := h.2 (by omega)
  refine ⟨ad, e, fun i x j u hi hj => hc i x j u ?_ hj⟩
  rw [List.getElem?_take] at hi
  split at hi
  · exact hi
  · cases hi
theorem Reads.drop (h : Reads E w A n l) {k : Nat} (hk : k ≤ n) {A' : Option Addr} (hA : k < n → A' = A.map (·.add (k * E.size))) : Reads E w A' (n - k) (l.drop k) := by
  refine ⟨by rw [List.length_drop, h.1], fun h0 => ?_⟩
  obtain ⟨ad, e, hc⟩ := h.2 (by omega)
  refine ⟨ad.add (k * E.size), by rw [hA (by omega), e]; rfl, fun i x j u hi hj => ?_⟩
  rw [add_add, show k * E.size + (i * E.size + j) = (k + i) * E.size + j by rw [Nat.add_mul]; omega]
  exact hc (k + i) x j u (by rw [← hi, List.getElem?_drop]) hj
end

/-! ### A block that is known whole -/
def Blk (w : World) (g : Nat) (t : TypeId) (cs : Array Value) : Prop := w.heap[g]? = some (.cells cs t (0, 0))
section
variable {w w1 : World} {g : Nat} {t : TypeId} {cs : Array Value} {S : Nat → Prop}
theorem Blk.lt (h : Blk w g t cs) : g < w.heap.size := by
  rcases Nat.lt_or_ge g w.heap.size with h' | h'
  · exact h'
  · unfold Blk at h; rw [Array.getElem?_eq_none h'] at h; cases h
theorem Blk.cell (h : Blk w g t cs) (i : Nat) : w.cell? ⟨g, i, none⟩ = cs[i]? := cell_of_row w g i cs t (0, 0) h
theorem Blk.frozen (h : Blk w g t cs) (i : Nat) : w.frozen? ⟨g, i, none⟩ = false := by
  unfold Blk at h
  simp [World.frozen?, h]
theorem Blk.new (w : World) (t : TypeId) (cs : Array Value) (H : Nat) (hH : w.heap.size = H) : Blk (w.alloc (.cells cs t)) H t cs := by subst hH; exact heap_alloc_new w _
theorem Blk.keeps (h : Blk w g t cs) (hk : Keeps S w w1) (hn : ¬ S g) : Blk w1 g t cs := (hk.block g h.lt hn).trans h
theorem Blk.drew (h : Blk w g t cs) : Blk w.drew g t cs := h
theorem Blk.drewN (h : Blk w g t cs) (n : Nat) : Blk (w.drewN n) g t cs := h
theorem Blk.alloc (h : Blk w g t cs) (o : Obj) : Blk (w.alloc o) g t cs := (Below.heap_alloc w o g h.lt).trans h
theorem Blk.set (h : Blk w g t cs) (i : Nat) (u : Value) : Blk (w.setCell ⟨g, i, none⟩ u) g t (cs.setIfInBounds i u) := by
  unfold Blk at h ⊢
  simp [World.setCell, Array.getElem?_modify, h]
theorem Blk.far (h : Blk w g t cs) {p : Addr} (hp : g ≠ p.block) (u : Value) : Blk (w.setCell p u) g t cs := (Below.heap_setCell w p u g hp).trans h
theorem Blk.below (h : Blk w g t cs) {B : Nat} (hb : Below B w w1) (hg : g < B) : Blk w1 g t cs := (hb.block g hg).trans h
theorem Blk.grown (h : Blk w g t cs) {row : Option Nat} (hg : w.grownBy w1 row) (hn : some g ≠ row) : Blk w1 g t cs := (hg.block g h.lt hn).trans h
theorem Blk.ne_ {g' : Nat} {t' : TypeId} {cs' : Array Value} (h : Blk w g t cs) (h' : Blk w g' t' cs') (hne : t ≠ t') : g ≠ g' := by
  rintro rfl
  unfold Blk at h h'
  rw [h] at h'
  injection h' with h'
  injection h' with _ ht
  exact hne ht
theorem Blk.reads (h : Blk w g t cs) (l : List α) (hcs : cs.toList = E.all l) {n : Nat} (hn : l.length = n) : Reads E w (some ⟨g, 0, none⟩) n l := by
  refine ⟨hn, fun _ => ⟨_, rfl, fun i x j u hi hj => ?_⟩⟩
  rw [add_at, h.cell, ← Array.getElem?_toList, hcs]
  exact E.all_get l i j x u hi hj
end

/-! ### A row of the call's own -/
def Own (E : Enc α) (w : World) (base : Nat) (e : TypeId) (v : Value) (l : List α) : Prop := w.ownsRow base e E.size v l.length (E.all l)
section
variable {w w1 : World} {base : Nat} {e : TypeId} {v : Value} {l : List α} {S : Nat → Prop}
theorem Own.nil (E : Enc α) (w : World) (base : Nat) (e : TypeId) : Own E w base e (.slice none 0 0) [] := ⟨by simp [Enc.all], .inl ⟨rfl, rfl⟩⟩
/-- A new block that holds just these. -/
theorem Own.new (w : World) (base : Nat) (e : TypeId) (cs : Array Value) (l : List α) (hcs : cs.toList = E.all l) (H : Nat) (hH : w.heap.size = H) (hb : base ≤ H) (n : Nat) (hn : l.length = n) (hm : n ≤ maxLen) :
    Own E (w.alloc (.cells cs e)) base e (.slice (some ⟨H, 0, none⟩) n n) l := by
  subst hH hn
  refine ⟨E.all_length l, .inr ⟨_, l.length, cs, rfl, hb, heap_alloc_new w _, Nat.le_refl _, hm, ?_, ?_⟩⟩
  · rw [← Array.length_toList, hcs, E.all_length]
  · rw [hcs, ← E.all_length, List.take_length]
theorem Own.of_blk {g : Nat} {cs : Array Value} (h : Blk w g e cs) (hcs : cs.toList = E.all l) (hb : base ≤ g) {n : Nat} (hn : l.length = n) (hm : n ≤ maxLen) : Own E w base e (.slice (some ⟨g, 0, none⟩) n n) l := by
  subst hn
  refine ⟨E.all_length l, .inr ⟨_, l.length, cs, rfl, hb, h, Nat.le_refl _, hm, ?_, ?_⟩⟩
  · rw [← Array.length_toList, hcs, E.all_length]
  · rw [hcs, ← E.all_length, List.take_length]
theorem Own.base_le (h : Own E w base e v l) {k : Nat} (hk : v.ownBlock = some k) : base ≤ k := by
  rcases h.2 with ⟨rfl, _⟩ | ⟨g, cap, cur, rfl, hb, _⟩
  · simp [Value.ownBlock] at hk
  · have : g = k := by simpa [Value.ownBlock] using hk
    omega
theorem Own.lt (h : Own E w base e v l) {k : Nat} (hk : v.ownBlock = some k) : k < w.heap.size := by
  rcases h.2 with ⟨rfl, _⟩ | ⟨g, cap, cur, rfl, hb, hh, _⟩
  · simp [Value.ownBlock] at hk
  · have : g = k := by simpa [Value.ownBlock] using hk
    subst this
    exact (Array.getElem?_eq_some_iff.1 hh).1
theorem Own.keeps (h : Own E w base e v l) (hk : Keeps S w w1) (hn : ∀ k, v.ownBlock = some k → ¬ S k) : Own E w1 base e v l := by
  refine ⟨h.1, ?_⟩
  rcases h.2 with h' | ⟨g, cap, cur, rfl, hb, hh, h1, h2, h3, h4⟩
  · exact .inl h'
  · exact .inr ⟨g, cap, cur, rfl, hb, (hk.block g (Array.getElem?_eq_some_iff.1 hh).1 (hn g rfl)).trans hh, h1, h2, h3, h4⟩
theorem Own.below (h : Own E w base e v l) (hb : Below w.heap.size w w1) : Own E w1 base e v l := h.keeps (Keeps.of_below hb) (fun _ _ h => h)
theorem Own.grown (h : Own E w base e v l) {row : Option Nat} (hg : w.grownBy w1 row) (hn : ∀ k, v.ownBlock = some k → some k ≠ row) : Own E w1 base e v l :=
  h.keeps (S := fun k => some k = row) ((Keeps.refl _ w).grown hg (fun _ e _ => e.symm)) hn
theorem Own.alloc (h : Own E w base e v l) (o : Obj) : Own E (w.alloc o) base e v l := h.keeps ((Keeps.refl (fun _ => False) w).alloc o) (fun _ _ h => h)
theorem Own.drew (h : Own E w base e v l) : Own E w.drew base e v l := h
theorem Own.drewN (h : Own E w base e v l) (n : Nat) : Own E (w.drewN n) base e v l := h
theorem Own.setCell (h : Own E w base e v l) (p : Addr) (u : Value) (hn : ∀ k, v.ownBlock = some k → k ≠ p.block) : Own E (w.setCell p u) base e v l :=
  h.keeps (S := fun k => k = p.block) ((Keeps.refl _ w).setCell p u (fun _ => rfl)) hn
theorem Own.rebase (h : Own E w base e v l) (b : Nat) (hb : ∀ k, v.ownBlock = some k → b ≤ k) : Own E w b e v l := by
  refine ⟨h.1, ?_⟩
  rcases h.2 with h' | ⟨g, cap, cur, rfl, _, hh, h1, h2, h3, h4⟩
  · exact .inl h'
  · exact .inr ⟨g, cap, cur, rfl, hb g rfl, hh, h1, h2, h3, h4⟩
theorem Own.slice (h : Own E w base e v l) : ∃ A c, v = .slice A l.length c ∧ Reads E w A l.length l ∧ l.length ≤ c := by
  rcases h.2 with ⟨rfl, h0⟩ | ⟨g, cap, cur, rfl, hb, hh, h1, h2, h3, h4⟩
  · have : l = [] := List.eq_nil_of_length_eq_zero h0
    subst this
    exact ⟨none, 0, rfl, Reads.nil E w none, Nat.le_refl _⟩
  · refine ⟨_, cap, rfl, ⟨rfl, fun _ => ⟨_, rfl, fun i x j u hi hj => ?_⟩⟩, h1⟩
    exact World.ownsRow.cells h (g := g) rfl _ u (E.all_get l i j x u hi hj)
theorem Own.form (h : Own E w base e v l) (h0 : 0 < l.length) : ∃ g c, v = .slice (some ⟨g, 0, none⟩) l.length c ∧ base ≤ g ∧ g < w.heap.size ∧ l.length ≤ c := by
  rcases h.2 with ⟨rfl, h1⟩ | ⟨g, cap, cur, rfl, hb, hh, h1, _⟩
  · omega
  · exact ⟨g, cap, rfl, hb, (Array.getElem?_eq_some_iff.1 hh).1, h1⟩
theorem Own.blk_ne (h : Own E w base e v l) {g : Nat} {t : TypeId} {cs : Array Value} (hb : Blk w g t cs) (hne : e ≠ t) : v.ownBlock ≠ some g := by
  rcases h.2 with ⟨rfl, _⟩ | ⟨g', cap, cur, rfl, _, hh, _⟩
  · simp [Value.ownBlock]
  · intro he
    have : g' = g := by simpa [Value.ownBlock] using he
    subst this
    exact Blk.ne_ (t := e) hh hb hne rfl
theorem Own.own_ne {β : Type} {F : Enc β} {base' : Nat} {e' : TypeId} {v' : Value} {m : List β} (h : Own E w base e v l) (h' : Own F w base' e' v' m) (hne : e ≠ e') : ∀ k, v.ownBlock = some k → v'.ownBlock ≠ some k := by
  intro k hk hk'
  rcases h.2 with ⟨rfl, _⟩ | ⟨g, cap, cur, rfl, _, hh, _⟩
  · simp [Value.ownBlock] at hk
  · have : g = k := by simpa [Value.ownBlock] using hk
    subst this
    exact h'.blk_ne (g := g) (t := e) hh (fun h => hne h.symm) hk'
/-- A store into one cell of element i. -/
theorem Own.store {g n c : Nat} (h : Own E w base e (.slice (some ⟨g, 0, none⟩) n c) l) {i j : Nat} {x y : α} {u : Value} (hi : l[i]? = some x) (hj : j < E.size) (hy : E.enc y = (E.enc x).set j u) :
    Own E (w.setCell ⟨g, i * E.size + j, none⟩ u) base e (.slice (some ⟨g, 0, none⟩) n c) (l.set i y) := by
  have hn : l.length = n := by
    rcases h.2 with ⟨h', _⟩ | ⟨g', cap, cur, h', _⟩
    · cases h'
    · injection h' with _ h'; exact h'.symm
  subst hn
  have hs := (World.ownsRow.stored h (i * E.size + j) u).1
  unfold Own
  rw [List.length_set]
  have hil := (List.getElem?_eq_some_iff.1 hi).1
  have key : E.all (l.set i y) = (E.all l).set (i * E.size + j) u := by
    apply List.ext_getElem?
    intro k
    by_cases hk : k < l.length * E.size
    · have hm := Nat.mod_lt k E.pos
      have hd : k / E.size < l.length := Nat.div_lt_of_lt_mul (by rwa [Nat.mul_comm] at hk)
      have ek : k / E.size * E.size + k % E.size = k := by rw [Nat.mul_comm]; exact Nat.div_add_mod k E.size
      have hx : (E.enc l[k / E.size])[k % E.size]? = some ((E.enc l[k / E.size])[k % E.size]'(by rw [E.len]; exact hm)) := List.getElem?_eq_getElem _
      have h1 := E.all_get l (k / E.size) (k % E.size) _ _ (List.getElem?_eq_getElem hd) hx
      rw [ek] at h1
      by_cases hki : k / E.size = i
      · have hlx : l[k / E.size] = x := by
          have e0 : l[k / E.size]? = l[i]? := by rw [hki]
          have e1 := List.getElem?_eq_getElem hd
          rw [e0, hi] at e1
          injection e1 with e1
          exact e1.symm
        have hy' : (E.enc y)[k % E.size]? = some ((E.enc y)[k % E.size]'(by rw [E.len]; exact hm)) := List.getElem?_eq_getElem _
        have h2 := E.all_get (l.set i y) (k / E.size) (k % E.size) y _ (by rw [hki]; exact List.getElem?_set_self hil) hy'
        rw [ek] at h2
        rw [h2, List.getElem?_set]
        by_cases hj2 : k % E.size = j
        · have : i * E.size + j = k := by rw [← hki, ← hj2]; exact ek
          rw [if_pos this, if_pos (by rw [this, E.all_length]; exact hk)]
          rw [← hy', hy, hj2, List.getElem?_set_self (by rw [E.len]; exact hj)]
        · have : ¬ i * E.size + j = k := by
            intro e
            apply hj2
            rw [← e, Nat.mul_comm, Nat.mul_add_mod]
            exact Nat.mod_eq_of_lt hj
          rw [if_neg this, h1, ← hy', hy, List.getElem?_set_ne (fun e => hj2 e.symm), ← hx, hlx]
      · have h2 := E.all_get (l.set i y) (k / E.size) (k % E.size) _ _ (by rw [List.getElem?_set_ne (fun e => hki e.symm)]; exact List.getElem?_eq_getElem hd) hx
        rw [ek] at h2
        have : ¬ i * E.size + j = k := by
          intro e
          apply hki
          rw [← e, Nat.mul_comm, Nat.mul_add_div E.pos, Nat.div_eq_of_lt hj, Nat.add_zero]
        rw [h2, List.getElem?_set_ne this, h1]
    · rw [List.getElem?_eq_none (by rw [E.all_length, List.length_set]; omega), List.getElem?_eq_none (by rw [List.length_set, E.all_length]; omega)]
  rw [key]
  exact hs
end

/-! ### append -/
/-- What append asks of the types. -/
structure Elem (P : Program) (t e : TypeId) (E : Enc α) (bytes : Nat) : Prop where
  ht : P.underlying t = some (.slice e)
  info : ∃ i z, P.info? e = some i ∧ i.zero = some z ∧ i.size = E.size ∧ i.bytes = bytes ∧ z.cells.size = E.size
theorem Elem.of {P : Program} {t e : TypeId} {E : Enc α} {bytes : Nat} {z : Value} (ht : P.underlying t = some (.slice e)) (hi : (P.info? e).map (fun i => (i.zero, i.size, i.bytes)) = some (some z, E.size, bytes)) (hz : z.cells.size = E.size) : Elem P t e E bytes := by
  obtain ⟨i, hi', hzz⟩ := Option.map_eq_some_iff.1 hi
  simp only [Prod.mk.injEq] at hzz
  exact ⟨ht, i, z, hi', hzz.1, hzz.2.1, hzz.2.2, hz⟩
section
variable {P : Program} {t e : TypeId} {bytes : Nat}
theorem append_run (T : Elem P t e E bytes) (w : World) (base : Nat) (v : Value) (l m : List α) (A : Option Addr) (n c : Nat) (hown : Own E w base e v l) (hm : Reads E w A n m) (hl : (l.length + n) * bytes ≤ 140737488355328) (hl2 : l.length + n ≤ maxLen) (hb : base ≤ w.heap.size) (ty : TypeId) :
    ∃ v' w', (Builtin.append_ #[t, t] ty #[v, .slice A n c]).run P w = .ok v' w' ∧ Own E w' base e v' (l ++ m) ∧ w.grownBy w' v.ownBlock ∧ (v'.ownBlock = v.ownBlock ∨ v'.ownBlock = some w.heap.size) := by
  obtain ⟨i, z, hi, hz0, hz1, hz2, hz3⟩ := T.info
  have hlen : (E.all m).length = n * E.size := by rw [E.all_length, hm.1]
  have go : ∀ ad : Addr, (∀ j u, (E.all m)[j]? = some u → w.cell? (ad.add j) = some u) → ∃ v' w', (Builtin.append_ #[t, t] ty #[v, .slice (some ad) n c]).run P w = .ok v' w' ∧ Own E w' base e v' (l ++ m) ∧ w.grownBy w' v.ownBlock ∧ (v'.ownBlock = v.ownBlock ∨ v'.ownBlock = some w.heap.size) := by
    intro ad hc
    obtain ⟨v', w', h1, h2, h3, _, h5⟩ := run_append_own_at (P := P) w base t ty e i z E.size bytes T.ht hi hz0 hz1 hz2 hz3 E.pos v l.length (E.all l) hown ad n c (E.all m) hlen hc (E.all_one m) hl2 hl hb
    refine ⟨v', w', h1, ?_, h3, h5⟩
    unfold Own
    rw [List.length_append, hm.1, E.all_append]
    exact h2
  rcases Nat.eq_zero_or_pos n with h0 | h0
  · have hm0 : m = [] := List.eq_nil_of_length_eq_zero (by rw [hm.1, h0])
    subst h0 hm0
    rcases A with _ | ad
    · refine ⟨v, w, ?_, by simpa using hown, World.grownBy.refl w _, .inl rfl⟩
      rcases hown.2 with ⟨rfl, _⟩ | ⟨g, cap, cur, rfl, _, _, hnc, _⟩
      · simp [Builtin.append_, run_underlying T.ht, sizeOf, typeInfo, hi, Builtin.lenOf, Builtin.firstCells]
      · simp [Builtin.append_, run_underlying T.ht, sizeOf, typeInfo, hi, Builtin.lenOf, Builtin.firstCells, hnc, storeCells]
    · exact go ad (fun j u h => by simp [Enc.all] at h)
  · obtain ⟨ad, rfl, hc⟩ := hm.2 h0
    refine go ad (fun k u h => ?_)
    obtain ⟨x, hx, hu⟩ := E.all_at m k u h
    have := hc _ x _ u hx hu
    rwa [show k / E.size * E.size + k % E.size = k by rw [Nat.mul_comm]; exact Nat.div_add_mod k E.size] at this
/-- append, at its operation, guarded or not. -/
theorem wp_append (T : Elem P t e E bytes) {ops : Array Oper} {rest : List Oper} {o : Oper} {a : Act} {Q : Exit → Act → World → Prop} {w : World} (hw : Region.wanted o (yielded ops a.tmps) = true) (s x : Operand)
    (ho : o.op = .call { callee := .builtin .append, args := #[s, x], argTypes := #[t, t] }) (base : Nat) (v : Value) (l m : List α) (A : Option Addr) (n c : Nat) (hs : a.eval s = v) (hx : a.eval x = .slice A n c)
    (hown : Own E w base e v l) (hm : Reads E w A n m) (hl : (l.length + n) * bytes ≤ 140737488355328) (hl2 : l.length + n ≤ maxLen) (hb : base ≤ w.heap.size)
    (h : ∀ v' w', Own E w' base e v' (l ++ m) → w.grownBy w' v.ownBlock → (v'.ownBlock = v.ownBlock ∨ v'.ownBlock = some w.heap.size) → wpList P ops Q rest (a.put o.dst v') w') :
    wpList P ops Q (o :: rest) a w := by
  refine BigFrame.wpList_want hw fun K hK => ?_
  obtain ⟨v', w', hr, h1, h2, h3⟩ := append_run T w base v l m A n c hown hm hl hl2 hb o.type
  unfold Oper.wp execOp
  simp only [ho, resolve, invoke, builtin, Sem.run_bind, Sem.run_pure, Result.andThen_ok, List.map_toArray, List.map_cons, List.map_nil, hs, hx, hr]
  exact hK _ _ (h v' w' h1 h2 h3)
end

/-! ### Bytes -/
/-- A byte in a cell. -/
def byte : Enc Nat where
  enc := fun c => [.int .u8 (c : Nat)]
  size := 1
  len := fun _ => rfl
  one := fun x u h => by simp at h; subst h; rfl
  pos := by decide
theorem byte_all (l : List Nat) : byte.all l = l.map fun c : Nat => Value.int .u8 c := by
  induction l with
  | nil => rfl
  | cons x l ih => show byte.enc x ++ byte.all l = _; rw [ih]; rfl
/-- An element, nought where there is none. (A name that no rule opens.) -/
def nth (l : List Nat) (i : Nat) : Nat := l.getD i 0
theorem nth_lt {l : List Nat} (hl : ∀ c ∈ l, c < 256) (i : Nat) : nth l i < 256 := by
  unfold nth
  rw [List.getD_eq_getElem?_getD]
  rcases Nat.lt_or_ge i l.length with h | h
  · rw [List.getElem?_eq_getElem h]; exact hl _ (List.getElem_mem h)
  · rw [List.getElem?_eq_none h]; decide
theorem nth_get {l : List Nat} {i : Nat} (h : i < l.length) : l[i]? = some (nth l i) := by
  unfold nth
  rw [List.getD_eq_getElem?_getD, List.getElem?_eq_getElem h]
  rfl
theorem Reads.byteAt {w : World} {A : Option Addr} {n : Nat} {l : List Nat} (h : Reads byte w A n l) {i : Nat} (hi : i < n) : ∃ ad, A = some ad ∧ w.cell? (ad.add i) = some (.int .u8 ((nth l i : Nat) : Int)) := by
  have hl := h.1
  obtain ⟨ad, e, hc⟩ := h.at_ (List.getElem?_eq_getElem (show i < l.length by omega))
  refine ⟨ad, e, ?_⟩
  have := hc 0 _ rfl
  rw [show i * byte.size + 0 = i from Nat.mul_one i] at this
  rw [this]
  unfold nth
  rw [List.getD_eq_getElem?_getD, List.getElem?_eq_getElem (show i < l.length by omega)]
  rfl
theorem add_zero' (a : Addr) : a.add 0 = a := by unfold Addr.add; simp
theorem add_pos (a : Addr) {n : Nat} (h : 0 < n) : a.add n = ⟨a.block, a.off + n, none⟩ := by unfold Addr.add; rw [if_neg (by omega)]
end Go.Proofs.Yteeginfbonfhlaa.Mem
