/- The document's timers: its calls: walked. -/
import Derived.Test.YteeginfbonfhlaaRef2
namespace Go.Proofs.Yteeginfbonfhlaa
open Go.RowKit Mem
/-- What the document's timers lie in. -/
def rfoot (g : Nat) (A : Option Addr) (q : Nat) : Prop := q = g ∨ (Value.slice A 0 0).ownBlock = some q
def RF (w : World) (G : Nat → Prop) (g : Nat) (c : Int) (L : List DU) : Prop := ∃ A n cp, RS w g A n cp c L ∧ ∀ q, G q ↔ rfoot g A q
section
variable {w w' : World} {G : Nat → Prop} {g : Nat} {c : Int} {L : List DU}
theorem RS.lt {A : Option Addr} {n cp : Nat} (h : RS w g A n cp c L) {q : Nat} (hq : rfoot g A q) : q < w.heap.size := by
  rcases hq with rfl | hq
  · exact h.box.lt
  · exact h.row.lt (by rw [own_of]; exact hq)
theorem RF.lies (h : RF w G g c L) : Lies 0 G w := fun k hk => by
  obtain ⟨A, n, cp, t, hG⟩ := h
  exact ⟨Nat.zero_le _, t.lt ((hG k).1 hk)⟩
theorem RF.keep {S : Nat → Prop} (h : RF w G g c L) (K : Keeps S w w') (hS : ∀ q, G q → ¬ S q) : RF w' G g c L := by
  obtain ⟨A, n, cp, t, hG⟩ := h
  exact ⟨A, n, cp, t.keep K (hS g ((hG g).2 (.inl rfl))) (fun q hq => hS q ((hG q).2 (.inr (by rw [← own_of A n cp]; exact hq)))), hG⟩
theorem RF.keep0 (h : RF w G g c L) (K : Keeps (fun _ => False) w w') : RF w' G g c L := h.keep K (fun _ _ h => h)
theorem rFirst_any (h : RF w G g c L) (hn : L.length ≤ 1000000) :
    Calls Try.prog 30 #[.pointer (some ⟨g, 0, none⟩)] w fun e w' => e = .returned (.tuple #[.int .i64 (firstI L), .bool (someB L)]) ∧ Keeps (fun _ => False) w w' := by
  obtain ⟨A, n, cp, t, hG⟩ := h
  have T := Lib.hid t
  have HL := Lib.hid t.len
  clear hG
  cases hm : minD L with
  | none =>
    have hL : L = [] := minD_none.1 hm
    subst hL
    go_enter Try.func30, Try.ntmps30
    go_wp2_with (go_at_call 31; refine (rfirst_any T.out (by rw [← HL.out]; exact hn)).mono ?_
                 rintro e w2 ⟨r, rfl, hr, k2⟩
                 obtain rfl : r = -1 := by
                   rcases hr with ⟨_, h⟩ | ⟨k, x, _, h, _⟩
                   · exact h
                   · simp at h
                 have K2 := Lib.hid k2
                 clear hr k2)
    go_ret2
    exact ⟨rfl, K2.out⟩
  | some x =>
    obtain ⟨h1, h2⟩ := someB_some hm
    have H1 := Lib.hid h1
    have H2 := Lib.hid h2
    have HM := Lib.hid hm
    clear h1 h2 hm
    go_enter Try.func30, Try.ntmps30
    go_wp2_with (go_at_call 31; refine (rfirst_any T.out (by rw [← HL.out]; exact hn)).mono ?_
                 rintro e w2 ⟨r, rfl, hr, k2⟩
                 obtain ⟨k, hrk, hk⟩ : ∃ k : Nat, r = (k : Int) ∧ L[k]? = some x := by
                   rcases hr with ⟨h, _⟩ | ⟨k, y, h1, h2, h3⟩
                   · rw [h] at HM; exact absurd HM.out (by simp [minD])
                   · rw [HM.out] at h3
                     injection h3 with h3
                     exact ⟨k, h1, by rw [h3]; exact h2⟩
                 subst hrk
                 have kn := (List.getElem?_eq_some_iff.1 hk).1
                 have t2 := T.out.keep0 k2
                 obtain ⟨b, _, hv, _⟩ := t2.row.form (by omega)
                 injection hv with hA hn2 hc2
                 subst hA
                 have p0 := t2.row.at_ hk (j := 0) rfl
                 have b1 := t2.box.cell 1
                 simp [due] at p0 b1
                 have s1 : ¬ (k : Int) < 0 := by omega
                 have s2 : (k : Int) < (n : Int) := by rw [← HL.out]; omega
                 have K2 := Lib.hid k2
                 have el := elem40
                 clear hr k2 t2 hn2 hc2 hk)
    go_ret2
    exact ⟨by rw [H1.out, H2.out]; rfl, K2.out⟩
theorem rgo_key {w2 : World} {A : Option Addr} {n cp : Nat} {x v : Int} (T : RS w2 g A n cp c L) (hG : ∀ q, G q ↔ rfoot g A q) (K : Keeps (fun _ => False) w w2) (hv : goC c L x = v) :
    RF (w2.setCell ⟨g, 0, none⟩ (.int .i64 v)) G g (goC c L x) L ∧ Keeps G w (w2.setCell ⟨g, 0, none⟩ (.int .i64 v)) := by
  subst hv
  have k : Keeps (fun q => q = g) w2 (w2.setCell ⟨g, 0, none⟩ (.int .i64 (goC c L x))) := (Keeps.refl (fun q => q = g) w2).setCell _ _ (fun _ => rfl)
  exact ⟨⟨A, n, cp, ⟨T.box.set 0 _, T.row.keeps k (fun q hq e => by rw [e] at hq; exact T.row.blk_ne T.box (by decide) hq)⟩, hG⟩, (K.mono (S' := G) (fun _ _ h => h.elim)).trans k (fun q _ e => (hG q).2 (.inl e))⟩
theorem rGo_any (h : RF w G g c L) (hn : L.length ≤ 1000000) (x : Int) :
    Calls Try.prog 21 #[.pointer (some ⟨g, 0, none⟩), .int .i64 x] w fun e w' => e = .returned (.tuple #[]) ∧ RF w' G g (goC c L x) L ∧ Keeps G w w' := by
  have T := Lib.hid h
  clear h
  cases hb : someB L with
  | false =>
    have HB := Lib.hid hb
    have hg : goC c L x = max c (min x maxC) := by unfold goC goTo; rw [hb]; rfl
    have HG := Lib.hid hg
    clear hb hg
    go_enter Try.func21, Try.ntmps21
    go_wp2_with (go_at_call 30; refine (rFirst_any T.out hn).mono ?_
                 rw [HB.out]
                 rintro e w2 ⟨rfl, k2⟩
                 obtain ⟨A, n, cp, ts, hF⟩ := T.out.keep0 k2
                 have b0 := ts.box.cell 0
                 have f0 := ts.box.frozen 0
                 simp at b0
                 have TS2 := Lib.hid ts
                 have HF := Lib.hid hF
                 have K2 := Lib.hid k2
                 clear ts hF k2)
    all_goals
      go_end0
      refine ⟨rfl, rgo_key TS2.out HF.out K2.out ?_⟩
      rw [HG.out]
      unfold maxC
      omega
  | true =>
    have HB := Lib.hid hb
    have hg : goC c L x = max c (min (min x (firstI L)) maxC) := by unfold goC goTo; rw [hb]; rfl
    have HG := Lib.hid hg
    clear hb hg
    go_enter Try.func21, Try.ntmps21
    go_wp2_with (go_at_call 30; refine (rFirst_any T.out hn).mono ?_
                 rw [HB.out]
                 rintro e w2 ⟨rfl, k2⟩
                 obtain ⟨A, n, cp, ts, hF⟩ := T.out.keep0 k2
                 have b0 := ts.box.cell 0
                 have f0 := ts.box.frozen 0
                 simp at b0
                 have TS2 := Lib.hid ts
                 have HF := Lib.hid hF
                 have K2 := Lib.hid k2
                 clear ts hF k2)
    all_goals
      go_end0
      refine ⟨rfl, rgo_key TS2.out HF.out K2.out ?_⟩
      rw [HG.out]
      unfold maxC
      omega
/-- A new row is stored. -/
theorem rf_new {w w2 : World} {A : Option Addr} {n cp : Nat} (T : RS w g A n cp c L) (hG : ∀ q, G q ↔ rfoot g A q) (K2 : Keeps (fun _ => False) w w2) {A2 : Option Addr} {n2 cp2 : Nat} {L2 : List DU} (o2 : Own due w2 w.heap.size 34 (.slice A2 n2 cp2) L2) :
    ∃ G', RF (w2.setCell ⟨g, 1, none⟩ (.slice A2 n2 cp2)) G' g c L2 ∧ Step G G' w (w2.setCell ⟨g, 1, none⟩ (.slice A2 n2 cp2)) := by
  have t2 := T.keep0 K2
  have k3 : Keeps (fun q => q = g) w2 (w2.setCell ⟨g, 1, none⟩ (.slice A2 n2 cp2)) := (Keeps.refl (fun q => q = g) w2).setCell _ _ (fun _ => rfl)
  have o3 := o2.keeps k3 (fun q hq e => by rw [e] at hq; exact o2.blk_ne t2.box (by decide) hq)
  have rs : RS (w2.setCell ⟨g, 1, none⟩ (.slice A2 n2 cp2)) g A2 n2 cp2 c L2 := ⟨t2.box.set 1 _, o3.rebase 0 (fun _ _ => Nat.zero_le _)⟩
  refine ⟨rfoot g A2, ⟨A2, n2, cp2, rs, fun _ => Iff.rfl⟩, ⟨(K2.mono (S' := G) (fun _ _ h => h.elim)).trans k3 (fun q _ e => (hG q).2 (.inl e)), fun q hq => ⟨?_, rs.lt hq⟩⟩⟩
  rcases hq with rfl | hq
  · exact .inl ((hG _).2 (.inl rfl))
  · exact .inr (o2.base_le (by rw [own_of]; exact hq))
theorem wo_le (L : List DU) (s : ByteArray) (i : Int) : (wo L s i).length ≤ L.length := List.length_filter_le _ _
theorem drop_len {L : List DU} (hU : Unlike L) (s : ByteArray) (i : Int) : decide ((wo L s i).length < L.length) = (getA L s i).isSome := by
  have := wo_len hU s i
  cases h : (getA L s i).isSome
  · rw [h] at this; simp at this; simp; omega
  · rw [h] at this; simp at this; simp; omega
set_option maxHeartbeats 3200000 in
theorem rDrop_any (h : RF w G g c L) (hn : L.length ≤ 1000000) (hU : Unlike L) (s : ByteArray) (i : Int) :
    Calls Try.prog 20 #[.pointer (some ⟨g, 0, none⟩), .string s, .int .i64 i] w fun e w' => e = .returned (.bool (getA L s i).isSome) ∧ ∃ G', RF w' G' g c (wo L s i) ∧ Step G G' w w' := by
  obtain ⟨A, n, cp, t, hG⟩ := h
  have hl := t.len
  have hlies := (RF.lies ⟨A, n, cp, t, hG⟩ : Lies 0 G w)
  have c1 := t.box.cell 1
  simp at c1
  have hd := drop_len hU s i
  have T := Lib.hid t
  have HG := Lib.hid hG
  have HLI := Lib.hid hlies
  have HD := Lib.hid hd
  have HL := Lib.hid hl
  clear t hG hlies hd
  go_enter Try.func20, Try.ntmps20
  go_upto_region 3 with (
    go_at_call 29; refine (without_any T.out (by rw [← HL.out]; exact hn) s i).mono ?_
    rintro e w2 ⟨A2, n2, cp2, rfl, o2, k2⟩
    have t2 := T.out.keep0 k2
    have f1 := t2.box.frozen 1
    have d1 := t2.box.cell 1
    simp at d1
    have b3 := t2.box.set 1 (.slice A2 n2 cp2)
    have k3 : Keeps (fun q => q = g) w2 (w2.setCell ⟨g, 1, none⟩ (.slice A2 n2 cp2)) := (Keeps.refl (fun q => q = g) w2).setCell _ _ (fun _ => rfl)
    have g1 := b3.cell 1
    simp at g1
    have B3 := Lib.hid b3
    have O2 := Lib.hid o2
    have O3 := Lib.hid (o2.keeps k3 (fun q hq e => by rw [e] at hq; exact o2.blk_ne t2.box (by decide) hq))
    have K2 := Lib.hid k2
    have K3 := Lib.hid k3
    clear t2 b3 k3 o2 k2)
  go_wp2_with fail
  go_ret
  obtain ⟨G', hr, hs⟩ := rf_new T.out HG.out K2.out O2.out
  refine ⟨?_, G', hr, hs⟩
  have h1 : (wo L s i).length = n2 := O2.out.len_eq rfl
  rw [← HD.out, h1, HL.out]
  rfl
end
end Go.Proofs.Yteeginfbonfhlaa
