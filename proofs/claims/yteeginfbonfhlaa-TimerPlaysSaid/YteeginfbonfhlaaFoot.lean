/- Footprints: what an object lies in, and what a call on it does. For any program. -/
import Derived.Test.YteeginfbonfhlaaMem
namespace Go.Proofs.Yteeginfbonfhlaa.Mem
open Go.RowKit
/-- What an object lies in is of blocks from B on that are there. -/
def Lies (B : Nat) (F : Nat → Prop) (w : World) : Prop := ∀ k, F k → B ≤ k ∧ k < w.heap.size
/-- No block is of both. -/
def Off (F G : Nat → Prop) : Prop := ∀ k, F k → ¬ G k
/-- A call on an object: all other blocks stay; what it lies in behind it is of what it lay in, or new. -/
structure Step (F F' : Nat → Prop) (w w' : World) : Prop where
  keeps : Keeps F w w'
  foot : ∀ k, F' k → (F k ∨ w.heap.size ≤ k) ∧ k < w'.heap.size
section
variable {B : Nat} {F F' F'' G S : Nat → Prop} {w w0 w1 w2 : World}
theorem Off.symm (h : Off F G) : Off G F := fun k a b => h k b a
theorem Off.not (h : Off F G) {k : Nat} (hk : F k) : ¬ G k := h k hk
theorem Off.step (h : Off F G) (s : Step F F' w w1) (hG : Lies B G w) : Off F' G := fun k a b => by
  rcases (s.foot k a).1 with h1 | h1
  · exact h k h1 b
  · have := (hG k b).2; omega
theorem Lies.step (h : Lies B F w) (s : Step F F' w w1) (hB : B ≤ w.heap.size) : Lies B F' w1 := fun k a => by
  have h1 := s.foot k a
  rcases h1.1 with h2 | h2
  · exact ⟨(h k h2).1, h1.2⟩
  · exact ⟨by omega, h1.2⟩
theorem Lies.keeps (h : Lies B F w) (s : Keeps S w w1) : Lies B F w1 := fun k a => ⟨(h k a).1, Nat.lt_of_lt_of_le (h k a).2 s.size⟩
theorem Lies.mono (h : Lies B F w) {B' : Nat} (hB : B' ≤ B) : Lies B' F w := fun k a => ⟨Nat.le_trans hB (h k a).1, (h k a).2⟩
theorem Step.of_keeps (s : Keeps (fun _ => False) w w1) (hF : Lies B F w) : Step F F w w1 := ⟨s.mono (fun _ _ h => h.elim), fun k h => ⟨.inl h, Nat.lt_of_lt_of_le (hF k h).2 s.size⟩⟩
theorem Step.trans (s : Step F F' w w1) (s' : Step F' F'' w1 w2) : Step F F'' w w2 :=
  ⟨s.keeps.trans s'.keeps (fun b hb h => by
    rcases (s.foot b h).1 with h1 | h1
    · exact h1
    · omega), fun k h => by
    have h1 := s'.foot k h
    refine ⟨?_, h1.2⟩
    rcases h1.1 with h2 | h2
    · exact (s.foot k h2).1
    · exact .inr (by have := s.keeps.size; omega)⟩
/-- What lay below stays. -/
theorem Step.below (s : Step F F' w w1) (hb : Below B w0 w) (hB : B ≤ w.heap.size) (hF : Lies B F w) : Below B w0 w1 := hb.trans (s.keeps.below hB (fun b h a => by have := (hF b a).1; omega))
theorem Keeps.under (s : Keeps F w w1) (hb : Below B w0 w) (hB : B ≤ w.heap.size) (hF : ∀ k, F k → B ≤ k) : Below B w0 w1 := hb.trans (s.below hB (fun b h a => by have := hF b a; omega))
end
end Go.Proofs.Yteeginfbonfhlaa.Mem
