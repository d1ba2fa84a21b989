/- StandinPlays, walked. -/
import Derived.Test.YtpkmdhplbpejhaaW6
import Derived.Test.YtpkmdhplbpejhaaOps

namespace Go.Proofs.Ytpkmdhplbpejhaa
open Go.RowKit Mem
theorem Desk.up {w : World} {g m k k' : Nat} {A : Option Addr} {n c : Nat} {ls : List (Int × Int)} {M : Int → ByteArray → Int} (d : Desk w g m k A n c ls M) (h : k ≤ k') : Desk w g m k' A n c ls M :=
  ⟨d.box, d.rows, d.far, (by obtain ⟨D, h1, h2⟩ := d.map; exact ⟨D, h1.mono h, h2⟩), d.good, d.few, d.had⟩
/-- Two desks and the document's two, as they stand. -/
structure Four (w wr : World) (n : Nat) (ls : List (Int × Int)) (Ax : Option Addr) (cx : Nat) (Ay : Option Addr) (cy g1 m1 g2 m2 g3 g4 k : Nat) (M1 M2 : Int → ByteArray → Int) (L1 L2 : List H3) : Prop where
  x : Desk wr g1 m1 k Ax n cx ls M1
  z : Desk wr g2 m2 k Ax n cx ls M2
  y : RDup wr g3 Ay n cy ls k L1
  v : RDup wr g4 Ay n cy ls k L2
  ox : Own stand wr 0 35 (.slice Ax n cx) ls
  m : m1 ≠ m2
  h : g3 ≠ g4
  above : w.heap.size ≤ m1 ∧ w.heap.size ≤ m2 ∧ w.heap.size ≤ g3 ∧ w.heap.size ≤ g4
  below : Below w.heap.size w wr
section
variable {w wr w' : World} {n : Nat} {ls : List (Int × Int)} {Ax : Option Addr} {cx : Nat} {Ay : Option Addr} {cy g1 m1 g2 m2 g3 g4 k k' : Nat} {M1 M2 M1' : Int → ByteArray → Int} {L1 L2 L1' : List H3}
theorem RDup.keep {g : Nat} (h : RDup wr g Ay n cy ls k L1) (K : Keeps (fun _ => False) wr w') : RDup w' g Ay n cy ls k L1 := let ⟨a, b, c, h1, h2⟩ := h; ⟨a, b, c, h1, h2.keep K⟩
theorem RDup.up {g : Nat} (h : RDup wr g Ay n cy ls k L1) (hk : k ≤ k') : RDup wr g Ay n cy ls k' L1 := let ⟨a, b, c, h1, h2⟩ := h; ⟨a, b, c, Nat.le_trans h1 hk, h2⟩
theorem RDup.keepm {g m : Nat} {M : Int → ByteArray → Int} (h : RDup wr g Ay n cy ls k L1) (hm : MapIs wr m k' M) (K : Keeps (fun b => b = m) wr w') : RDup w' g Ay n cy ls k L1 := by
  obtain ⟨a, b, c, h1, h2⟩ := h
  have own : ∀ {α : Type} {E : Enc α} {e : TypeId} {v : Value} {l : List α}, Own E wr 0 e v l → ∀ q, v.ownBlock = some q → ¬ q = m := by
    intro α E e v l ho q hq e'
    subst e'
    rcases ho.2 with ⟨rfl, _⟩ | ⟨g', cap, cur, rfl, _, hh, _⟩
    · simp [Value.ownBlock] at hq
    · have : g' = q := by simpa [Value.ownBlock] using hq
      subst this
      obtain ⟨D, ⟨es, clock, hb, _⟩, _⟩ := hm
      rw [hb] at hh
      cases hh
  exact ⟨a, b, c, h1, h2.keeps K (fun e => hm.ne_blk h2.box e.symm) (own h2.lim) (own h2.row)⟩
theorem own_ne_map {α : Type} {E : Enc α} {e : TypeId} {v : Value} {l : List α} {m : Nat} {M : Int → ByteArray → Int} (ho : Own E wr 0 e v l) (hm : MapIs wr m k' M) : ∀ q, v.ownBlock = some q → ¬ q = m := by
  intro q hq e'
  subst e'
  rcases ho.2 with ⟨rfl, _⟩ | ⟨g', cap, cur, rfl, _, hh, _⟩
  · simp [Value.ownBlock] at hq
  · have : g' = q := by simpa [Value.ownBlock] using hq
    subst this
    obtain ⟨D, ⟨es, clock, hb, _⟩, _⟩ := hm
    rw [hb] at hh
    cases hh
/-- The limits' address is the row's. -/
theorem lim_block (ho : Own stand wr 0 35 (.slice Ax n cx) ls) {ad : Addr} (e : Ax = some ad) : (Value.slice Ax n cx).ownBlock = some ad.block := by
  subst e
  rcases ho.2 with ⟨h', _⟩ | ⟨g, cap, cur, h', _⟩
  · cases h'
  · injection h' with h1 h2 h3
    injection h1 with h1
    subst h1
    rfl
theorem Four.keep (f : Four w wr n ls Ax cx Ay cy g1 m1 g2 m2 g3 g4 k M1 M2 L1 L2) (K : Keeps (fun _ => False) wr w') : Four w w' n ls Ax cx Ay cy g1 m1 g2 m2 g3 g4 k M1 M2 L1 L2 :=
  ⟨f.x.keeps K (fun h => h) (fun h => h) (fun _ _ _ h => h), f.z.keeps K (fun h => h) (fun h => h) (fun _ _ _ h => h), f.y.keep K, f.v.keep K, f.ox.keeps K (fun _ _ h => h), f.m, f.h, f.above, f.below.trans (K.below f.below.size (fun _ _ h => h))⟩
theorem Four.xs (f : Four w wr n ls Ax cx Ay cy g1 m1 g2 m2 g3 g4 k M1 M2 L1 L2) (K : Keeps (fun b => b = m1) wr w') (d : Desk w' g1 m1 k' Ax n cx ls M1') (hk : k ≤ k') : Four w w' n ls Ax cx Ay cy g1 m1 g2 m2 g3 g4 k' M1' M2 L1 L2 :=
  ⟨d, (f.z.keeps K (fun e => f.x.map.ne_blk f.z.box e.symm) (fun e => f.m e.symm) (fun ad e h0 e' => own_ne_map f.ox f.x.map _ (lim_block f.ox e) e')).up hk, (f.y.keepm f.x.map K).up hk, (f.v.keepm f.x.map K).up hk, f.ox.keeps K (own_ne_map f.ox f.x.map), f.m, f.h, f.above, f.below.trans (K.below f.below.size (fun b hb e => by have := f.above.1; omega))⟩
theorem Four.ys (f : Four w wr n ls Ax cx Ay cy g1 m1 g2 m2 g3 g4 k M1 M2 L1 L2) (K : Keeps (fun b => b = g3) wr w') (d : RDup w' g3 Ay n cy ls k' L1') (hk : k ≤ k') : Four w w' n ls Ax cx Ay cy g1 m1 g2 m2 g3 g4 k' M1 M2 L1' L2 := by
  obtain ⟨a, b, c, h1, h2⟩ := f.y
  obtain ⟨a', b', c', h1', h2'⟩ := f.v
  have hb := h2.box
  have lim : ∀ q, (Value.slice Ax n cx).ownBlock = some q → ¬ q = g3 := fun q hq e => by subst e; exact f.ox.blk_ne hb (by decide) hq
  exact ⟨(f.x.keeps K (fun e => f.x.box.ne_ hb (by decide) e) (fun e => f.x.map.ne_blk hb e) (fun ad e h0 e' => lim _ (lim_block f.ox e) e')).up hk,
    (f.z.keeps K (fun e => f.z.box.ne_ hb (by decide) e) (fun e => f.z.map.ne_blk hb e) (fun ad e h0 e' => lim _ (lim_block f.ox e) e')).up hk, d, ⟨a', b', c', Nat.le_trans h1' hk, h2'.keepg hb (fun e => f.h e.symm) K⟩, f.ox.keeps K lim, f.m, f.h, f.above, f.below.trans (K.below f.below.size (fun b hb e => by have := f.above.2.2.1; omega))⟩
theorem Four.xc (f : Four w wr n ls Ax cx Ay cy g1 m1 g2 m2 g3 g4 k M1 M2 L1 L2) (K : Keeps (fun _ => False) wr w') {g' m' : Nat} (d : Desk w' g' m' k Ax n cx ls M1) (hm : wr.heap.size ≤ m') : Four w w' n ls Ax cx Ay cy g' m' g1 m1 g3 g4 k M1 M1 L1 L2 := by
  have f' := f.keep K
  exact ⟨d, f'.x, f'.y, f'.v, f'.ox, (by have := f.x.map.lt; omega), f.h, ⟨by have := f.below.size; omega, f.above.1, f.above.2.2.1, f.above.2.2.2⟩, f'.below⟩
theorem Four.yc (f : Four w wr n ls Ax cx Ay cy g1 m1 g2 m2 g3 g4 k M1 M2 L1 L2) (K : Keeps (fun _ => False) wr w') {g' : Nat} (d : RDup w' g' Ay n cy ls k L1) (hm : wr.heap.size ≤ g') : Four w w' n ls Ax cx Ay cy g1 m1 g2 m2 g' g3 k M1 M2 L1 L1 := by
  have f' := f.keep K
  exact ⟨f'.x, f'.z, d, f'.y, f'.ox, f.m, (by obtain ⟨_, _, _, _, h⟩ := f.y; have := h.box.lt; omega), ⟨f.above.1, f.above.2.1, by have := f.below.size; omega, f.above.2.2.1⟩, f'.below⟩
end
end Go.Proofs.Ytpkmdhplbpejhaa
