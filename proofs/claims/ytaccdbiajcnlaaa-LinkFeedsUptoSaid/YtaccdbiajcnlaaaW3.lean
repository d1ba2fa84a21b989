/- Are two rows of frames the same? walked. -/
import Derived.Test.YtaccdbiajcnlaaaW2
import Derived.Test.YtaccdbiajcnlaaaStr
namespace Go.Proofs.Ytaccdbiajcnlaaa
open Go.RowKit Mem
/-- A row of headers, each of which shows a line. -/
structure Lines (w : World) (A : Option Addr) (n : Nat) (hs : List Sl) (fs : List (List Nat)) : Prop where
  heads : Reads hdr w A n hs
  len : hs.length = fs.length
  each : ∀ (i : Nat) (h : Sl) (f : List Nat), hs[i]? = some h → fs[i]? = some f → Reads byte w h.A h.n f
  small : ∀ f ∈ fs, ∀ x ∈ f, x < 256
theorem Lines.at_ {w : World} {A : Option Addr} {n : Nat} {hs : List Sl} {fs : List (List Nat)} (h : Lines w A n hs fs) {k : Nat} (hk : k < n) :
    ∃ ad a f, A = some ad ∧ fs[k]? = some f ∧ hs[k]? = some a ∧ w.cell? (ad.add k) = some (.slice a.A a.n a.c) ∧ Reads byte w a.A a.n f ∧ ∀ x ∈ f, x < 256 := by
  have hl := h.heads.1
  have h1 : k < hs.length := by omega
  have h2 : k < fs.length := by have := h.len; omega
  obtain ⟨ad, e, hc⟩ := h.heads.at_ (List.getElem?_eq_getElem h1)
  refine ⟨ad, hs[k], fs[k], e, List.getElem?_eq_getElem h2, List.getElem?_eq_getElem h1, ?_, h.each k _ _ (List.getElem?_eq_getElem h1) (List.getElem?_eq_getElem h2), h.small _ (List.getElem_mem h2)⟩
  have := hc 0 _ rfl
  simpa [hdr] using this
theorem take_same {α : Type} {a b : List α} {k : Nat} {x : α} (h : a.take k = b.take k) (ha : a[k]? = some x) (hb : b[k]? = some x) : a.take (k + 1) = b.take (k + 1) := by
  rw [List.take_add_one, List.take_add_one, h, ha, hb]
set_option maxRecDepth 100000 in
set_option maxHeartbeats 800000 in
theorem same_any (hs hs' : List Sl) (fs fs' : List (List Nat)) (A A' : Option Addr) (n n' c c' : Nat) (w : World) (h1 : Lines w A n hs fs) (h2 : Lines w A' n' hs' fs') (hn : n ≤ 281474976710000) :
    Calls Try.prog 14 #[.slice A n c, .slice A' n' c'] w fun e w' => ∃ q, e = .returned (.bool (decide (fs = fs'))) ∧ w' = w.drewN q := by
  have l1 : fs.length = n := by have := h1.heads.1; have := h1.len; omega
  have l2 : fs'.length = n' := by have := h2.heads.1; have := h2.len; omega
  have H1 := Lib.hid h1
  have H2 := Lib.hid h2
  have L1 := Lib.hid l1
  have L2 := Lib.hid l2
  clear h1 h2 l1 l2
  by_cases hnn : n = n'
  · subst hnn
    go_enter Try.func14, Try.ntmps14
    go_wp2_with fail
    go_loopw [5] (fun i wr => ∃ k q : Nat, k ≤ n ∧ i = .int .i64 k ∧ wr = w.drewN q ∧ fs.take k = fs'.take k) (fun i _ => n - (intOf i).toNat)
    case atStart => exact ⟨0, 0, by omega, rfl, rfl, rfl⟩
    case round =>
      obtain ⟨k, q, hk, rfl, rfl, htk⟩ := hrel
      have HTK := Lib.hid htk
      clear htk
      by_cases hlt : k < n
      · obtain ⟨ad, a, f, rfl, hf, ha, hc, hr, hf2⟩ := H1.out.at_ hlt
        obtain ⟨ad', a', f', rfl, hf', ha', hc', hr', hf2'⟩ := H2.out.at_ hlt
        have cv : ∀ q, (convert 22 9 (.slice a.A a.n a.c)).run Try.prog (w.drewN q) = .ok (.string (strB f)) (w.drewN q) := fun q => (hr.drewN q).str a.c 22 5 9 Try.underlying22 Try.underlying5 Try.underlying9
        have cv' : ∀ q, (convert 22 9 (.slice a'.A a'.n a'.c)).run Try.prog (w.drewN q) = .ok (.string (strB f')) (w.drewN q) := fun q => (hr'.drewN q).str a'.c 22 5 9 Try.underlying22 Try.underlying5 Try.underlying9
        have ht := strB_test hf2 hf2'
        have HF := Lib.hid (And.intro hf hf')
        clear hr hr' hf ha hf2 hf' ha' hf2'
        by_cases hff : f = f'
        · have ht' : (!(strB f).toList == (strB f').toList) = false := by rw [ht]; simp [hff]
          have HFF := Lib.hid hff
          clear ht hff
          go_wp2_with fail
          go_quiet (fail)
          go_wp2_with fail
          refine ⟨⟨k + 1, q + nq, by omega, by go_num, by first | rfl | rw [World.drewN_drewN], ?_⟩, by simp [intOf]; omega⟩
          exact take_same HTK.out HF.out.1 (by rw [HFF.out]; exact HF.out.2)
        · have ht' : (!(strB f).toList == (strB f').toList) = true := by rw [ht]; simp [hff]
          have HFF := Lib.hid hff
          clear ht hff
          go_wp2_with fail
          go_quiet (fail)
          go_wp2_with fail
          go_ret
          refine ⟨q + nq, ?_, by rw [World.drewN_drewN]⟩
          have hne : ¬ fs = fs' := by
            intro e
            have h1 := HF.out.1
            rw [e, HF.out.2] at h1
            injection h1 with h1
            exact HFF.out h1.symm
          rw [decide_eq_false hne]
          rfl
      · go_wp2_with fail
        go_ret
        refine ⟨q, ?_, rfl⟩
        have hkn : k = n := by omega
        have := HTK.out
        rw [hkn, List.take_of_length_le (by rw [L1.out]; exact Nat.le_refl _), List.take_of_length_le (by rw [L2.out]; exact Nat.le_refl _)] at this
        rw [decide_eq_true this]
        rfl
  · have hd : decide (fs = fs') = false := by
      refine decide_eq_false fun e => hnn ?_
      rw [← L1.out, ← L2.out, e]
    have HD := Lib.hid hd
    clear hd
    go_enter Try.func14, Try.ntmps14
    go_wp2_with fail
    go_ret
    exact ⟨0, by rw [HD.out]; rfl, rfl⟩
end Go.Proofs.Ytaccdbiajcnlaaa
