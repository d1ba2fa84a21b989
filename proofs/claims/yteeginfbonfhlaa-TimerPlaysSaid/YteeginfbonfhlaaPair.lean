/- Timers and the document's, side by side: walked. -/
import Derived.Test.YteeginfbonfhlaaW10
import Derived.Test.YteeginfbonfhlaaOps
namespace Go.Proofs.Yteeginfbonfhlaa
open Go.RowKit Mem
section
variable {w w' : World} {F G : Nat → Prop} {gx gy : Nat} {c : Int} {L : List DU} {N : Nat}
theorem RF.cells (h : RF w G gy c L) : w.cell? ⟨gy, 0, none⟩ = some (.int .i64 c) ∧ ∃ A cp, w.cell? ⟨gy, 1, none⟩ = some (.slice A L.length cp) := by
  obtain ⟨A, n, cp, t, hG⟩ := h
  have b0 := t.box.cell 0
  have b1 := t.box.cell 1
  have hl := t.len
  simp at b0 b1
  exact ⟨b0, A, cp, by rw [hl]; exact b1⟩
set_option maxHeartbeats 3200000 in
theorem like_any (h : TF w F gx c L N) (h' : RF w G gy c L) (off : Off F G) (hN : N < 1000000) (hn : L.length ≤ 1000000) :
    Calls Try.prog 23 #[.pointer (some ⟨gx, 0, none⟩), .pointer (some ⟨gy, 0, none⟩)] w fun e w' => e = .returned (.bool true) ∧ TF w' F gx c L N ∧ RF w' G gy c L ∧ Keeps F w w' := by
  have T := Lib.hid h
  have R := Lib.hid h'
  have OF := Lib.hid off
  obtain ⟨m, hm⟩ : ∃ m, m = L.length := ⟨_, rfl⟩
  have HM := Lib.hid hm
  clear h h' off hm
  go_enter Try.func23, Try.ntmps23
  go_upto_region 3 with (first
    | (go_at_call 30; refine (rFirst_any R2.out hn).mono ?_
       rintro e w3 ⟨rfl, k3⟩
       have T3 := Lib.hid (T2.out.keep k3 (fun _ _ h => h))
       have R3 := Lib.hid (R2.out.keep0 k3)
       have K3 := Lib.hid (K2.out.trans k3 (fun _ _ h => h.elim))
       clear k3)
    | (go_at_call 11; refine (First_any T.out hN).mono ?_
       rintro e w2 ⟨rfl, t2, k2⟩
       have T2 := Lib.hid t2
       have R2 := Lib.hid (R.out.keep k2 (fun q h1 h2 => OF.out q h2 h1))
       have K2 := Lib.hid k2
       clear t2 k2))
  obtain ⟨d0, A, cp, d1⟩ := R3.out.cells
  rw [← HM.out] at d1
  have hnow : ∀ q, Calls Try.prog 15 #[.pointer (some ⟨gx, 0, none⟩)] (w3.drewN q) fun e w' => e = .returned (.int .i64 c) ∧ w' = w3.drewN q := fun q => now_any (T3.out.keep ((Keeps.refl (fun _ => False) w3).drewN q) (fun _ _ h => h))
  have hlen : ∀ q, Calls Try.prog 10 #[.pointer (some ⟨gx, 0, none⟩)] (w3.drewN q) fun e w' => e = .returned (.int .i64 m) ∧ w' = w3.drewN q := fun q => by
    have := len_any (T3.out.keep ((Keeps.refl (fun _ => False) w3).drewN q) (fun _ _ h => h))
    rw [← HM.out] at this
    exact this
  have HN := Lib.hid hnow
  have HE := Lib.hid hlen
  clear hnow hlen
  go_quiet (first
    | (go_at_call 15; exact Calls.quiet_of_same (HN.out _))
    | (go_at_call 10; exact Calls.quiet_of_same (HE.out _)))
  go_wp2_with fail
  go_ret
  have kd : Keeps (fun _ => False) w3 (w3.drewN nq) := (Keeps.refl _ w3).drewN _
  exact ⟨rfl, T3.out.keep kd (fun _ _ h => h), R3.out.keep0 kd, K3.out.trans kd (fun _ _ h => h.elim)⟩
end
/-- Both, in blocks of U, unlike each other. -/
def PT (w : World) (U : Nat → Prop) (gx gy : Nat) (c : Int) (L : List DU) (N : Nat) : Prop := ∃ F G, TF w F gx c L N ∧ RF w G gy c L ∧ Off F G ∧ ∀ q, U q ↔ F q ∨ G q
section
variable {w w1 w2 : World} {U F F' G G' : Nat → Prop} {gx gy : Nat} {c c' : Int} {L L' : List DU} {N N' : Nat}
theorem PT.lies (h : PT w U gx gy c L N) : Lies 0 U w := fun q hq => by
  obtain ⟨F, G, t, r, off, hU⟩ := h
  rcases (hU q).1 hq with h | h
  · exact t.lies q h
  · exact r.lies q h
theorem PT.keep {S : Nat → Prop} (h : PT w U gx gy c L N) (K : Keeps S w w1) (hS : ∀ q, U q → ¬ S q) : PT w1 U gx gy c L N := by
  obtain ⟨F, G, t, r, off, hU⟩ := h
  exact ⟨F, G, t.keep K (fun q hq => hS q ((hU q).2 (.inl hq))), r.keep K (fun q hq => hS q ((hU q).2 (.inr hq))), off, hU⟩
theorem PT.keep0 (h : PT w U gx gy c L N) (K : Keeps (fun _ => False) w w1) : PT w1 U gx gy c L N := h.keep K (fun _ _ h => h)
theorem PT.unl (h : PT w U gx gy c L N) : Unlike L := let ⟨_, _, t, _⟩ := h; t.unl
theorem PT.clk (h : PT w U gx gy c L N) : 0 ≤ c ∧ c ≤ 1125899906842624 := let ⟨_, _, t, _⟩ := h; t.clk
/-- A call on the one, then on the other. -/
theorem pair_step (r : RF w G gy c L) (off : Off F G) (hU : ∀ q, U q ↔ F q ∨ G q) (s1 : Step F F' w w1) (t' : TF w1 F' gx c' L' N') (s2 : Step G G' w1 w2) (r' : RF w2 G' gy c' L') :
    ∃ U', PT w2 U' gx gy c' L' N' ∧ Step U U' w w2 := by
  have o1 : Off F' G := off.step s1 r.lies
  have o2 : Off G' F' := o1.symm.step s2 t'.lies
  refine ⟨fun q => F' q ∨ G' q, ⟨F', G', t'.keep s2.keeps (fun q h1 h2 => o1 q h1 h2), r', o2.symm, fun _ => Iff.rfl⟩, ⟨(s1.keeps.mono (fun q _ h => (hU q).2 (.inl h))).trans s2.keeps (fun q _ h => (hU q).2 (.inr h)), fun q hq => ?_⟩⟩
  rcases hq with hq | hq
  · have := s1.foot q hq
    exact ⟨this.1.imp_left (fun h => (hU q).2 (.inl h)), Nat.lt_of_lt_of_le this.2 s2.keeps.size⟩
  · have := s2.foot q hq
    refine ⟨?_, this.2⟩
    rcases this.1 with h | h
    · exact .inl ((hU q).2 (.inr h))
    · exact .inr (Nat.le_trans s1.keeps.size h)
/-- The document's stays where the other is written. -/
theorem ref_far (r : RF w G gy c L) (off : Off F G) (s1 : Step F F' w w1) : RF w1 G gy c L := r.keep s1.keeps (fun q h1 h2 => off q h2 h1)
theorem step_of_keeps (K : Keeps F w w1) (hl : Lies 0 F w) : Step F F w w1 := ⟨K, fun q hq => ⟨.inl hq, Nat.lt_of_lt_of_le (hl q hq).2 K.size⟩⟩
end
end Go.Proofs.Yteeginfbonfhlaa
