/- Timers from a block on; the examples: walked. -/
import Derived.Test.YteeginfbonfhlaaW8
namespace Go.Proofs.Yteeginfbonfhlaa
open Go.RowKit Mem
/-- Timers that lie in blocks of R. -/
def TB (B : Nat → Prop) (w : World) (g : Nat) (c : Int) (L : List DU) (N : Nat) : Prop := ∃ F, TF w F g c L N ∧ ∀ q, F q → B q
section
variable {B : Nat → Prop} {w w' : World} {g : Nat} {c : Int} {L : List DU} {N : Nat}
theorem TB.keep (h : TB B w g c L N) (K : Keeps (fun _ => False) w w') : TB B w' g c L N := by
  obtain ⟨F, t, hF⟩ := h
  exact ⟨F, t.keep K (fun _ _ h => h), hF⟩
/-- A block that is new is none of theirs. -/
theorem TB.less (h : TB B w g c L N) : TB (fun q => B q ∧ q < w.heap.size) w g c L N := by
  obtain ⟨F, t, hF⟩ := h
  exact ⟨F, t, fun q hq => ⟨hF q hq, (t.lies q hq).2⟩⟩
theorem TB.mono (h : TB B w g c L N) {B' : Nat → Prop} (hB : ∀ q, B q → B' q) : TB B' w g c L N := by
  obtain ⟨F, t, hF⟩ := h
  exact ⟨F, t, fun q hq => hB q (hF q hq)⟩
theorem TB.unl (h : TB B w g c L N) : Unlike L := let ⟨_, t, _⟩ := h; t.unl
theorem TB.ok (h : TB B w g c L N) : ∀ d ∈ L, okD d := let ⟨_, t, _⟩ := h; t.ok
theorem TB.clk (h : TB B w g c L N) : 0 ≤ c ∧ c ≤ 1125899906842624 := let ⟨_, t, _⟩ := h; t.clk
theorem newT (w : World) (hB : ∀ q, w.heap.size ≤ q → B q) : Calls Try.prog 8 #[] w fun e w' => ∃ g, e = .returned (.pointer (some ⟨g, 0, none⟩)) ∧ TB B w' g 0 [] 0 ∧ Keeps (fun _ => False) w w' := by
  refine (new_any w).mono ?_
  rintro e w' ⟨g, F, he, t, hF, k⟩
  exact ⟨g, he, ⟨F, t, fun q hq => hB q (hF q hq)⟩, k⟩
theorem nowT (h : TB B w g c L N) : Calls Try.prog 15 #[.pointer (some ⟨g, 0, none⟩)] w fun e w' => e = .returned (.int .i64 c) ∧ w' = w := let ⟨_, t, _⟩ := h; now_any t
theorem lenT (h : TB B w g c L N) : Calls Try.prog 10 #[.pointer (some ⟨g, 0, none⟩)] w fun e w' => e = .returned (.int .i64 L.length) ∧ w' = w := let ⟨_, t, _⟩ := h; len_any t
theorem dropT (h : TB B w g c L N) {s : ByteArray} {i : Int} (hs : isStr s) (hi : isInt i) :
    Calls Try.prog 12 #[.pointer (some ⟨g, 0, none⟩), .string s, .int .i64 i] w fun e w' => e = .returned (.bool (getA L s i).isSome) ∧ TB B w' g c (wo L s i) N ∧ Keeps (fun q => B q) w w' := by
  obtain ⟨F, t, hF⟩ := h
  refine (drop_any t hs hi).mono ?_
  rintro e w' ⟨he, t', k⟩
  exact ⟨he, ⟨F, t', hF⟩, k.mono (fun q _ hq => hF q hq)⟩
theorem FirstT (h : TB B w g c L N) (hN : N < 1000000) :
    Calls Try.prog 11 #[.pointer (some ⟨g, 0, none⟩)] w fun e w' => e = .returned (.tuple #[.int .i64 (firstI L), .bool (someB L)]) ∧ TB B w' g c L N ∧ Keeps (fun q => B q) w w' := by
  obtain ⟨F, t, hF⟩ := h
  refine (First_any t hN).mono ?_
  rintro e w' ⟨he, t', k⟩
  exact ⟨he, ⟨F, t', hF⟩, k.mono (fun q _ hq => hF q hq)⟩
theorem GoT (h : TB B w g c L N) (hN : N < 1000000) (x : Int) :
    Calls Try.prog 13 #[.pointer (some ⟨g, 0, none⟩), .int .i64 x] w fun e w' => e = .returned (.tuple #[]) ∧ TB B w' g (goC c L x) L N ∧ Keeps (fun q => B q) w w' := by
  obtain ⟨F, t, hF⟩ := h
  refine (Go_any t hN x).mono ?_
  rintro e w' ⟨he, t', k⟩
  exact ⟨he, ⟨F, t', hF⟩, k.mono (fun q _ hq => hF q hq)⟩
theorem dueT (h : TB B w g c L N) (hN : N < 1000000) :
    Calls Try.prog 14 #[.pointer (some ⟨g, 0, none⟩)] w fun e w' => e = .returned (firstV (dueR c L)) ∧ TB B w' g c (dueL c L) N ∧ Keeps (fun q => B q) w w' := by
  obtain ⟨F, t, hF⟩ := h
  refine (due_any t hN).mono ?_
  rintro e w' ⟨he, t', k⟩
  exact ⟨he, ⟨F, t', hF⟩, k.mono (fun q _ hq => hF q hq)⟩
theorem setT (h : TB B w g c L N) (hB : ∀ q, w.heap.size ≤ q → B q) (hN : N < 1000000) {s : ByteArray} {i : Int} (hs : isStr s) (hi : isInt i) (ticks : Int) (ht : isInt ticks) :
    Calls Try.prog 9 #[.pointer (some ⟨g, 0, none⟩), .string s, .int .i64 i, .int .i64 ticks] w fun e w' => e = .returned (.int .i64 (setE ticks)) ∧ TB B w' g c (setL c L s i ticks) (N + 1) ∧ Keeps (fun q => B q) w w' := by
  obtain ⟨F, t, hF⟩ := h
  refine (set_any t hN hs hi ticks ht).mono ?_
  rintro e w' ⟨he, F', t', st⟩
  refine ⟨he, ⟨F', t', fun q hq => ?_⟩, st.keeps.mono (fun q _ hq => hF q hq)⟩
  rcases (st.foot q hq).1 with h | h
  · exact hF q h
  · exact hB q h
end
/-! ### The examples -/
def exA : ByteArray := ⟨#[97]⟩
def exB : ByteArray := ⟨#[98]⟩
def exC : ByteArray := ⟨#[99]⟩
theorem ex1 : setL 0 [] ⟨#[98]⟩ 1 5 = [⟨5, ⟨#[98]⟩, 1⟩] := by simp [setL, setD, setAt, maxC, wo]
theorem ex2 : setL 0 [⟨5, ⟨#[98]⟩, 1⟩] ⟨#[97]⟩ 1 5 = [⟨5, ⟨#[98]⟩, 1⟩, ⟨5, ⟨#[97]⟩, 1⟩] := by simp [setL, setD, setAt, maxC, wo, same, ByteArray.toList_eq]
theorem ex3 : setL 0 [⟨5, ⟨#[98]⟩, 1⟩, ⟨5, ⟨#[97]⟩, 1⟩] ⟨#[99]⟩ 1 2 = [⟨5, ⟨#[98]⟩, 1⟩, ⟨5, ⟨#[97]⟩, 1⟩, ⟨2, ⟨#[99]⟩, 1⟩] := by simp [setL, setD, setAt, maxC, wo, same, ByteArray.toList_eq]
theorem ex4 : minD [⟨5, ⟨#[98]⟩, 1⟩, ⟨5, ⟨#[97]⟩, 1⟩, ⟨2, ⟨#[99]⟩, 1⟩] = some ⟨2, ⟨#[99]⟩, 1⟩ := by simp [minD, ltD, lessS, ByteArray.toList_eq, Op.bytesLess]
theorem ex5 : minD [⟨5, ⟨#[98]⟩, 1⟩, ⟨5, ⟨#[97]⟩, 1⟩] = some ⟨5, ⟨#[97]⟩, 1⟩ := by simp [minD, ltD, lessS, ByteArray.toList_eq, Op.bytesLess]
theorem ex6 : wo [⟨5, ⟨#[98]⟩, 1⟩, ⟨5, ⟨#[97]⟩, 1⟩, ⟨2, ⟨#[99]⟩, 1⟩] ⟨#[99]⟩ 1 = [⟨5, ⟨#[98]⟩, 1⟩, ⟨5, ⟨#[97]⟩, 1⟩] := by simp [wo, same, ByteArray.toList_eq]
theorem ex7 : wo [⟨5, ⟨#[98]⟩, 1⟩, ⟨5, ⟨#[97]⟩, 1⟩] ⟨#[97]⟩ 1 = [⟨5, ⟨#[98]⟩, 1⟩] := by simp [wo, same, ByteArray.toList_eq]
theorem exG1 : goC 0 [⟨5, ⟨#[98]⟩, 1⟩, ⟨5, ⟨#[97]⟩, 1⟩, ⟨2, ⟨#[99]⟩, 1⟩] 9 = 2 := by unfold goC goTo someB firstI; rw [ex4]; decide
theorem exG2 : goC 2 [⟨5, ⟨#[98]⟩, 1⟩, ⟨5, ⟨#[97]⟩, 1⟩] 9 = 5 := by unfold goC goTo someB firstI; rw [ex5]; decide
theorem exR1 : dueR 2 [⟨5, ⟨#[98]⟩, 1⟩, ⟨5, ⟨#[97]⟩, 1⟩, ⟨2, ⟨#[99]⟩, 1⟩] = some ⟨2, ⟨#[99]⟩, 1⟩ := by unfold dueR; rw [ex4]; rfl
theorem exR2 : dueR 2 [⟨5, ⟨#[98]⟩, 1⟩, ⟨5, ⟨#[97]⟩, 1⟩] = none := by unfold dueR; rw [ex5]; rfl
theorem exR3 : dueR 5 [⟨5, ⟨#[98]⟩, 1⟩, ⟨5, ⟨#[97]⟩, 1⟩] = some ⟨5, ⟨#[97]⟩, 1⟩ := by unfold dueR; rw [ex5]; rfl
theorem exL1 : dueL 2 [⟨5, ⟨#[98]⟩, 1⟩, ⟨5, ⟨#[97]⟩, 1⟩, ⟨2, ⟨#[99]⟩, 1⟩] = [⟨5, ⟨#[98]⟩, 1⟩, ⟨5, ⟨#[97]⟩, 1⟩] := by unfold dueL; rw [exR1]; exact ex6
theorem exL2 : dueL 2 [⟨5, ⟨#[98]⟩, 1⟩, ⟨5, ⟨#[97]⟩, 1⟩] = [⟨5, ⟨#[98]⟩, 1⟩, ⟨5, ⟨#[97]⟩, 1⟩] := by unfold dueL; rw [exR2]
theorem exL3 : dueL 5 [⟨5, ⟨#[98]⟩, 1⟩, ⟨5, ⟨#[97]⟩, 1⟩] = [⟨5, ⟨#[98]⟩, 1⟩] := by unfold dueL; rw [exR3]; exact ex7
theorem exS (c : Int) (L : List DU) (s : ByteArray) (i : Int) : setL c L s i (-1) = L := by simp [setL]
theorem exE : setE (-1) = 1 := by simp [setE]
set_option maxHeartbeats 6400000 in
theorem shown_any (w : World) : Calls Try.prog 7 #[] w fun e w' => e = .returned (.bool true) ∧ Keeps (fun _ => False) w w' := by
  go_enter Try.func7, Try.ntmps7
  go_upto_region 9 with (first
    | (go_at_call 15; have mk4 := T4; refine (nowT T4.out).mono ?_
       rintro e w5 ⟨rfl, hw5⟩
       rw [hw5]
       clear hw5)
    | (go_at_call 13; refine (GoT T3.out (by decide) 9).mono ?_
       rintro e w4 ⟨rfl, t, k⟩
       rw [exG1] at t
       have T4 := Lib.hid t
       have KT4 := Lib.hid (KT3.out.trans k (fun _ _ h => h))
       clear t k)
    | (go_at_call 9; refine (setT T2.out (fun q hq => Nat.le_trans KT2.out.size hq) (by decide) (by unfold isStr; decide) (by unfold isInt; decide) (2) (by unfold isInt; decide)).mono ?_
       rintro e w3 ⟨rfl, t, k⟩
       rw [ex3] at t
       have T3 := Lib.hid t
       have KT3 := Lib.hid (KT2.out.trans k (fun _ _ h => h))
       clear t k)
    | (go_at_call 9; refine (setT T1.out (fun q hq => Nat.le_trans KT1.out.size hq) (by decide) (by unfold isStr; decide) (by unfold isInt; decide) (5) (by unfold isInt; decide)).mono ?_
       rintro e w2 ⟨rfl, t, k⟩
       rw [ex2] at t
       have T2 := Lib.hid t
       have KT2 := Lib.hid (KT1.out.trans k (fun _ _ h => h))
       clear t k)
    | (go_at_call 9; refine (setT T0.out (fun q hq => Nat.le_trans KT0.out.size hq) (by decide) (by unfold isStr; decide) (by unfold isInt; decide) (5) (by unfold isInt; decide)).mono ?_
       rintro e w1 ⟨rfl, t, k⟩
       rw [ex1] at t
       have T1 := Lib.hid t
       have KT1 := Lib.hid (KT0.out.trans k (fun _ _ h => h))
       clear t k)
    | (go_at_call 8; refine (newT (B := fun q => w.heap.size ≤ q) w (fun _ h => h)).mono ?_
       rintro e w0 ⟨g, rfl, t, k⟩
       have T0 := Lib.hid t
       have KT0 := Lib.hid (k.mono (S' := fun q => w.heap.size ≤ q) (fun _ _ h => h.elim))
       clear t k))
  go_upto_region 10 with (
    go_at_call 14; refine (dueT T4.out (by decide)).mono ?_
    rw [exR1, exL1]
    rintro e w6a ⟨rfl, t, k⟩
    unfold firstV
    have T6a := Lib.hid t
    have KT6a := Lib.hid (KT4.out.trans k (fun _ _ h => h))
    clear t k)
  obtain ⟨w6, hw6⟩ : ∃ w6, w6 = w6a.alloc (.cells #[.int .i64 2, .string ⟨#[99]⟩, .int .i64 1] 34) := ⟨_, rfl⟩
  rw [← hw6]
  have ka6 : Keeps (fun _ => False) w6a w6 := by rw [hw6]; exact (Keeps.refl _ w6a).alloc _
  have t6 : TB (fun q => w.heap.size ≤ q ∧ q ≠ w6a.heap.size) w6 g 2 [⟨5, ⟨#[98]⟩, 1⟩, ⟨5, ⟨#[97]⟩, 1⟩] 3 := (T6a.out.less.mono (fun q h => ⟨h.1, by omega⟩)).keep ka6
  have T6 := Lib.hid t6
  have KT6 := Lib.hid (KT6a.out.trans ka6 (fun _ _ h => h.elim))
  have bb6 : Blk w6 w6a.heap.size 34 #[.int .i64 2, .string ⟨#[99]⟩, .int .i64 1] := by rw [hw6]; exact Blk.new _ 34 _ _ rfl
  have BB6 := Lib.hid bb6
  clear hw6 bb6 ka6 t6
  go_upto_region 11 with (
    go_at_call 14; refine (dueT T6.out (by decide)).mono ?_
    rw [exR2, exL2]
    rintro e w7a ⟨rfl, t, k⟩
    unfold firstV
    have T7a := Lib.hid t
    have KT7a := Lib.hid (KT6.out.trans k (fun _ _ h => h.1))
    have BB7a := Lib.hid (BB6.out.keeps k (fun h => h.2 rfl))
    clear t k)
  obtain ⟨w7, hw7⟩ : ∃ w7, w7 = w7a.alloc (.cells #[.int .i64 0, .string ⟨#[]⟩, .int .i64 0] 34) := ⟨_, rfl⟩
  rw [← hw7]
  have ka7 : Keeps (fun _ => False) w7a w7 := by rw [hw7]; exact (Keeps.refl _ w7a).alloc _
  have T7 := Lib.hid (T7a.out.keep ka7)
  have KT7 := Lib.hid (KT7a.out.trans ka7 (fun _ _ h => h.elim))
  have BB7 := Lib.hid (BB7a.out.keeps ka7 (fun h => h))
  clear hw7 ka7
  go_upto_region 12 with (
    go_at_call 13; refine (GoT T7.out (by decide) 9).mono ?_
    rw [exG2]
    rintro e w8 ⟨rfl, t, k⟩
    have T8 := Lib.hid t
    have KT8 := Lib.hid (KT7.out.trans k (fun _ _ h => h.1))
    have BB8 := Lib.hid (BB7.out.keeps k (fun h => h.2 rfl))
    clear t k)
  go_upto_region 13 with (
    go_at_call 14; refine (dueT T8.out (by decide)).mono ?_
    rw [exR3, exL3]
    rintro e w9a ⟨rfl, t, k⟩
    unfold firstV
    have T9a := Lib.hid t
    have KT9a := Lib.hid (KT8.out.trans k (fun _ _ h => h.1))
    have BB9a := Lib.hid (BB8.out.keeps k (fun h => h.2 rfl))
    clear t k)
  obtain ⟨w9, hw9⟩ : ∃ w9, w9 = w9a.alloc (.cells #[.int .i64 5, .string ⟨#[97]⟩, .int .i64 1] 34) := ⟨_, rfl⟩
  rw [← hw9]
  have ka9 : Keeps (fun _ => False) w9a w9 := by rw [hw9]; exact (Keeps.refl _ w9a).alloc _
  have t9 : TB (fun q => (w.heap.size ≤ q ∧ q ≠ w6a.heap.size) ∧ q ≠ w9a.heap.size) w9 g 5 [⟨5, ⟨#[98]⟩, 1⟩] 3 := (T9a.out.less.mono (fun q h => ⟨h.1, by omega⟩)).keep ka9
  have T9 := Lib.hid t9
  have KT9 := Lib.hid (KT9a.out.trans ka9 (fun _ _ h => h.elim))
  have bb9 : Blk w9 w9a.heap.size 34 #[.int .i64 5, .string ⟨#[97]⟩, .int .i64 1] := by rw [hw9]; exact Blk.new _ 34 _ _ rfl
  have BB9 := Lib.hid bb9
  have BX9 := Lib.hid (BB9a.out.keeps ka9 (fun h => h))
  have hl6 : w6a.heap.size < w9.heap.size := BX9.out.lt
  have hl9 : w9a.heap.size < w9.heap.size := bb9.lt
  clear hw9 bb9 ka9 t9
  have hs9 := KT9.out.size
  go_upto_region 14 with (
    go_at_call 9; refine (setT T9.out (fun q hq => ⟨⟨Nat.le_trans hs9 hq, by omega⟩, by omega⟩) (by decide) (by unfold isStr; decide) (by unfold isInt; decide) (-1) (by unfold isInt; decide)).mono ?_
    rw [exS, exE]
    rintro e w10 ⟨rfl, t, k⟩
    have b6 := BX9.out.keeps k (fun h => h.1.2 rfl)
    have b9 := BB9.out.keeps k (fun h => h.2 rfl)
    have p0 := b6.cell 0
    have p1 := b6.cell 1
    have p2 := b6.cell 2
    have q0 := b9.cell 0
    have q1 := b9.cell 1
    have q2 := b9.cell 2
    simp at p0 p1 p2 q0 q1 q2
    have T10 := Lib.hid t
    have KT10 := Lib.hid (KT9.out.trans k (fun _ _ h => h.1.1))
    clear t k b6 b9)
  have eq1 : ∀ W, (binOp BinOp.eql 34 (.agg #[.int .i64 2, .string ⟨#[99]⟩, .int .i64 1]) (.agg #[.int .i64 2, .string ⟨#[99]⟩, .int .i64 1])).run Try.prog W = .ok (.bool true) W := fun W => by kernel_rfl
  have eq2 : ∀ W, (binOp BinOp.eql 34 (.agg #[.int .i64 5, .string ⟨#[97]⟩, .int .i64 1]) (.agg #[.int .i64 5, .string ⟨#[97]⟩, .int .i64 1])).run Try.prog W = .ok (.bool true) W := fun W => by kernel_rfl
  go_wp2_with (
    go_at_call 10; refine (lenT T10.out).mono ?_
    rintro e w11 ⟨rfl, hw11⟩
    rw [hw11]
    clear hw11)
  go_ret
  exact ⟨rfl, KT10.out.mono (fun q hq h => by omega)⟩
end Go.Proofs.Yteeginfbonfhlaa
