/- The document's examples for a link, walked. -/
import Derived.Test.YtaccdbiajcnlaaaRef
import Derived.Lib.SlBytesConst
namespace Go.Proofs.Ytaccdbiajcnlaaa
open Go.RowKit Mem
theorem parse_a : parse ([] ++ [0, 2, 97]) = ([], 0, [0, 2, 97]) := parse_part (by decide) (by decide) (by decide)
theorem parse_b : parse ([0, 2, 97] ++ [98, 0, 1, 99, 0]) = ([[97, 98], [99]], 0, [0]) := by
  rw [parse_more (by decide) (by decide) (by decide)]
  rw [show List.drop (2 + num2 ([0, 2, 97] ++ [98, 0, 1, 99, 0])) ([0, 2, 97] ++ [98, 0, 1, 99, 0]) = [0, 1, 99, 0] from rfl]
  rw [parse_more (by decide) (by decide) (by decide)]
  rw [show List.drop (2 + num2 [0, 1, 99, 0]) [0, 1, 99, 0] = [0] from rfl]
  rw [parse_short (by decide)]
  rfl
/-- A frame of a Feed, read. -/
theorem Fed.reads {w : World} {base : Nat} {X : List Nat} {A1 : Option Addr} {c1 : Nat} {hs : List Sl} {fs : List (List Nat)} (hp : Pieces A1 X hs fs) (ho : Own byte w base 5 (.slice A1 X.length c1) X) {i : Nat} {h : Sl} {f : List Nat} (hi : hs[i]? = some h) (hf : fs[i]? = some f) : Reads byte w h.A h.n f := by
  obtain ⟨o, hA, hn, hc, h0, hl, e⟩ := hp.2 i h f hi hf
  obtain ⟨A', c', e', hr, _⟩ := ho.slice
  injection e' with e1 e2 e3
  subst e1
  rw [hA, hn]
  have h3 := (hr.drop (k := o) (A' := A1.map (·.add o)) (by omega) (fun _ => by simp [byte])).take (k := f.length) (by omega)
  rw [← e] at h3
  exact h3
theorem parse_small {l : List Nat} (hl : ∀ x ∈ l, x < 256) : (∀ f ∈ (parse l).1, ∀ x ∈ f, x < 256) ∧ ∀ x ∈ (parse l).2.2, x < 256 := by
  induction hn : l.length using Nat.strongRecOn generalizing l with
  | _ n ih =>
    by_cases h1 : l.length < 2
    · rw [parse_short h1]; exact ⟨by simp, hl⟩
    · by_cases h2 : num2 l = 0 ∨ 512 < num2 l
      · rw [parse_bad h1 h2]; simp
      · by_cases h3 : l.length < 2 + num2 l
        · rw [parse_part h1 h2 h3]; exact ⟨by simp, hl⟩
        · rw [parse_more h1 h2 h3]
          have := ih (l.drop (2 + num2 l)).length (by rw [List.length_drop]; omega) (fun x hx => hl x (List.mem_of_mem_drop hx)) rfl
          refine ⟨?_, this.2⟩
          intro f hf x hx
          rcases List.mem_cons.1 hf with rfl | hf
          · exact hl x (List.mem_of_mem_drop (List.mem_of_mem_take hx))
          · exact this.1 f hf x hx
theorem shown_one (w : World) : Calls Try.prog 13 #[.pointer (some ⟨w.heap.size, 0, none⟩), .slice (some ⟨w.heap.size + 1, 0, none⟩) 3 3] ((w.alloc (.cells #[.slice none 0 0] 47)).alloc (.cells #[.int .u8 0, .int .u8 2, .int .u8 97] 5)) fun e w' =>
    ∃ Ao co A2 c2, e = .returned (.tuple #[.slice Ao 0 co, .int .i64 0]) ∧ Blk w' w.heap.size 47 #[.slice A2 3 c2] ∧ Own byte w' (w.heap.size + 1) 5 (.slice A2 3 c2) [0, 2, 97] ∧ Keeps (fun _ => False) w w' := by
  have hb : Blk ((w.alloc (.cells #[.slice none 0 0] 47)).alloc (.cells #[.int .u8 0, .int .u8 2, .int .u8 97] 5)) w.heap.size 47 #[.slice none 0 0] := (Blk.new w 47 _ _ rfl).alloc _
  have hr : Reads byte ((w.alloc (.cells #[.slice none 0 0] 47)).alloc (.cells #[.int .u8 0, .int .u8 2, .int .u8 97] 5)) (some ⟨w.heap.size + 1, 0, none⟩) 3 [0, 2, 97] :=
    (Blk.new (w.alloc (.cells #[.slice none 0 0] 47)) 5 #[.int .u8 0, .int .u8 2, .int .u8 97] (w.heap.size + 1) (by simp)).reads [0, 2, 97] rfl rfl
  refine (feed_any w.heap.size (.slice none 0 0) [] [0, 2, 97] (w.heap.size + 1) _ 3 3 _ hb (Own.nil _ _ _ _) hr (by simp) (by decide) (by simp) (by decide)).mono ?_
  rintro e w2 ⟨vo, rfl, hs, v1, A1, c1, o1, o2, o3, o4, o5, o6, o7, o8⟩
  rw [parse_a] at o3 o5 ⊢
  obtain ⟨Ao, co, ho, hro⟩ := Own.val o1 (n := 0) o3.1
  obtain ⟨A2, c2, hv1, hr1⟩ := Own.val o5 (n := 3) rfl
  subst ho hv1
  refine ⟨Ao, co, A2, c2, rfl, o4, o5.rebase _ (fun k hk => by have := o5.base_le hk; simp at this; omega), ?_⟩
  refine ((((Keeps.refl (fun _ => False) w).alloc _).alloc _).trans o8 (fun b hb h => ?_))
  rcases h with h | h
  · omega
  · simp [Value.ownBlock] at h
theorem shown_two (w : World) (g base : Nat) (A2 : Option Addr) (c2 : Nat) (hb : Blk w g 47 #[.slice A2 3 c2]) (ho : Own byte w base 5 (.slice A2 3 c2) [0, 2, 97]) (hw : base ≤ w.heap.size) :
    Calls Try.prog 13 #[.pointer (some ⟨g, 0, none⟩), .slice (some ⟨w.heap.size, 0, none⟩) 5 5] (w.alloc (.cells #[.int .u8 98, .int .u8 0, .int .u8 1, .int .u8 99, .int .u8 0] 5)) fun e w' =>
    ∃ (b co : Nat) (h0 h1 : Sl) (A3 : Option Addr) (c3 : Nat), e = .returned (.tuple #[.slice (some ⟨b, 0, none⟩) 2 co, .int .i64 0]) ∧ Blk w' g 47 #[.slice A3 1 c3] ∧ w'.cell? ⟨b, 0, none⟩ = some (.slice h0.A h0.n h0.c) ∧ w'.cell? ⟨b, 1, none⟩ = some (.slice h1.A h1.n h1.c) ∧
      Reads byte w' h0.A h0.n [97, 98] ∧ Reads byte w' h1.A h1.n [99] ∧ Keeps (fun k => k = g ∨ (Value.slice A2 3 c2).ownBlock = some k) w w' := by
  have hr : Reads byte (w.alloc (.cells #[.int .u8 98, .int .u8 0, .int .u8 1, .int .u8 99, .int .u8 0] 5)) (some ⟨w.heap.size, 0, none⟩) 5 [98, 0, 1, 99, 0] :=
    (Blk.new w 5 #[.int .u8 98, .int .u8 0, .int .u8 1, .int .u8 99, .int .u8 0] _ rfl).reads [98, 0, 1, 99, 0] rfl rfl
  refine (feed_any g _ [0, 2, 97] [98, 0, 1, 99, 0] base _ 5 5 _ (hb.alloc _) (ho.alloc _) hr (by decide) (by decide) (by simp; omega) (by decide)).mono ?_
  rintro e w2 ⟨vo, rfl, hs, v1, A1, c1, o1, o2, o3, o4, o5, o6, o7, o8⟩
  rw [parse_b] at o3 o5 ⊢
  have hl : hs.length = 2 := o3.1
  obtain ⟨b, co, ho, _⟩ := o1.form (by omega)
  rw [hl] at ho
  obtain ⟨A3, c3, hv1, hr1⟩ := Own.val o5 (n := 1) rfl
  subst ho hv1
  obtain ⟨h0, h1, rfl⟩ : ∃ h0 h1, hs = [h0, h1] := by
    match hs, hl with
    | [h0, h1], _ => exact ⟨h0, h1, rfl⟩
  refine ⟨b, co, h0, h1, A3, c3, rfl, o4, ?_, ?_, Fed.reads o3 o2 (i := 0) rfl rfl, Fed.reads o3 o2 (i := 1) rfl rfl, ?_⟩
  · exact World.ownsRow.cells o1 (g := b) rfl 0 _ rfl
  · exact World.ownsRow.cells o1 (g := b) rfl 1 _ rfl
  · exact ((Keeps.refl _ w).alloc _).trans o8 (fun b hb h => h)
theorem shown_three (w : World) : Calls Try.prog 10 #[.slice none 0 0] w fun e w' => ∃ v, e = .returned (.tuple #[v, .int .i64 60]) ∧ Below w.heap.size w w' := by
  refine (pack_any [] none 0 0 w (Reads.nil _ _ _)).mono ?_
  rintro e w' ⟨v, rfl, _, h⟩
  exact ⟨v, rfl, h⟩
theorem reads_row {α : Type} {E : Enc α} {w : World} {g : Nat} {t : TypeId} {cs : Array Value} {m : Nat × Nat} (h : w.heap[g]? = some (.cells cs t m)) (l : List α) (hcs : cs.toList = E.all l) {n : Nat} (hn : l.length = n) : Reads E w (some ⟨g, 0, none⟩) n l := by
  refine ⟨hn, fun _ => ⟨_, rfl, fun i x j u hi hj => ?_⟩⟩
  rw [add_at, cell_of_row w g _ cs t m h, ← Array.getElem?_toList, hcs]
  exact E.all_get l i j x u hi hj
theorem shown_four (w : World) : Calls Try.prog 10 #[.slice (some ⟨w.heap.size, 0, none⟩) 2 2] (w.alloc (.cells #[.int .u8 97, .int .u8 98] 5 (2, 3))) fun e w' => ∃ A c, e = .returned (.tuple #[.slice A 4 c, .int .i64 0]) ∧ Reads byte w' A 4 [0, 2, 97, 98] ∧ Below w.heap.size w w' := by
  have hr : Reads byte (w.alloc (.cells #[.int .u8 97, .int .u8 98] 5 (2, 3))) (some ⟨w.heap.size, 0, none⟩) 2 [97, 98] := reads_row (heap_alloc_new w _) [97, 98] rfl rfl
  refine (pack_any [97, 98] _ 2 2 _ hr).mono ?_
  rintro e w' ⟨v, rfl, ho, h⟩
  obtain ⟨A, c, rfl, hr⟩ := Own.val (n := 4) ho rfl
  exact ⟨A, c, rfl, hr, ((Keeps.refl (fun _ => False) w).alloc _ |>.trans (Keeps.of_below h) (fun _ _ h => h)).below (Nat.le_refl _) (fun _ _ h => h)⟩
set_option maxRecDepth 100000 in
set_option maxHeartbeats 1600000 in
theorem shown_any (w : World) : Calls Try.prog 9 #[] w fun e w' => e = .returned (.bool true) ∧ Below w.heap.size w w' := by
  have kc := fun (w : World) (C : Array Value) (n c : Nat) => Lib.run_convert_bytes_const (P := Try.prog) w 22 5 C n c Try.underlying22 Try.underlying5
  go_enter Try.func9, Try.ntmps9
  go_wp2_with (first
    | (go_at_call 12; refine (new_any _).mono ?_
       rintro e w1 ⟨rfl, rfl⟩)
    | (go_at_call 13; refine (shown_two w3 w.heap.size (w.heap.size + 1) A2 c2 B2.out O2.out (Nat.succ_le_of_lt hlt2)).mono ?_
       rintro e w4 ⟨b, co', h0, h1, A3, c3, rfl, hb4, x0, x1, r0, r1, hk4⟩
       have B4 := Lib.hid hb4
       have K4 := Lib.hid hk4
       have R0 := Lib.hid r0
       have R1 := Lib.hid r1
       clear hb4 hk4 r0 r1)
    | (go_at_call 13; refine (shown_one w).mono ?_
       rintro e w2 ⟨Ao, co, A2, c2, rfl, hb2, ho2, hk2⟩
       have hlt2 := hb2.lt
       have B2 := Lib.hid hb2
       have O2 := Lib.hid ho2
       have K2 := Lib.hid hk2
       clear hb2 ho2 hk2)
    | (go_at_call 10; refine (shown_four w5).mono ?_
       rintro e w6 ⟨A6, c6, rfl, r6, hb6⟩
       have b46 := K5.out.trans ⟨hb6.os, hb6.tape, hb6.output, hb6.size, fun i hi => hb6.block i (Nat.lt_of_lt_of_le hi K5.out.size)⟩
       have y0 := (b46.cell (World.block_lt_of_cell? _ _ x0)).trans x0
       have y1 := (b46.cell (World.block_lt_of_cell? _ _ x1)).trans x1
       have cv0 : (convert 22 9 (.slice h0.A h0.n h0.c)).run Try.prog w6 = .ok (.string ⟨#[97, 98]⟩) w6 := (R0.out.below b46).str h0.c 22 5 9 Try.underlying22 Try.underlying5 Try.underlying9
       have cv1 : (convert 22 9 (.slice h1.A h1.n h1.c)).run Try.prog w6 = .ok (.string ⟨#[99]⟩) w6 := (R1.out.below b46).str h1.c 22 5 9 Try.underlying22 Try.underlying5 Try.underlying9
       have cv2 : (convert 22 9 (.slice A6 4 c6)).run Try.prog w6 = .ok (.string ⟨#[0, 2, 97, 98]⟩) w6 := r6.str c6 22 5 9 Try.underlying22 Try.underlying5 Try.underlying9
       have hb6' := B4.out.below b46 B4.out.lt
       have hh := held_any _ 1 _ _ _ hb6'
       have HH := Lib.hid hh
       have B46 := Lib.hid b46
       clear r6 hb6 b46 hb6' hh x0 x1)
    | (go_at_call 10; refine (shown_three w4).mono ?_
       rintro e w5 ⟨v5, rfl, hb5⟩
       have K5 := Lib.hid hb5
       clear hb5)
    | (go_at_call 15; refine HH.out.mono ?_
       rintro e w7 ⟨rfl, rfl⟩)
    | (go_at_call 15; refine (held_any _ 3 _ _ _ B2.out).mono ?_
       rintro e w3 ⟨rfl, rfl⟩))
  go_ret
  refine ⟨rfl, ?_⟩
  refine ((K2.out.trans K4.out (fun b hb h => ?_)).trans (Keeps.of_below B46.out) (fun _ _ h => h)).below (Nat.le_refl _) (fun _ _ h => h)
  rcases h with h | h
  · omega
  · have := O2.out.base_le h
    omega
end Go.Proofs.Ytaccdbiajcnlaaa
