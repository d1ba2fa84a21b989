/- All that comes due till a time: walked. -/
import Derived.Test.YteeginfbonfhlaaP3
namespace Go.Proofs.Yteeginfbonfhlaa
open Go.RowKit Mem
def drainAll (c : Int) (L : List DU) (x : Int) : List DU × Int × List DU := drain 200 c L x
theorem elem40 : Elem Try.prog 40 34 due 32 := Elem.of Try.underlying40 (z := .agg #[.int .i64 0, .string ⟨#[]⟩, .int .i64 0]) (by kernel_rfl) rfl
theorem own_empty {α : Type} (E : Enc α) (w : World) (e : TypeId) (base H : Nat) (hH : w.heap.size = H) (hb : base ≤ H) : Own E (w.alloc (.cells #[] e)) base e (.slice (some ⟨H, 0, none⟩) 0 0) [] :=
  Own.new w base e #[] [] rfl H hH hb 0 rfl (Nat.zero_le _)
theorem own_grow {w W w' : World} {S : Nat → Prop} {v : Value} (h : Keeps S w W) (gr : W.grownBy w' v.ownBlock) (hv : ∀ q, v.ownBlock = some q → w.heap.size ≤ q) : Keeps S w w' :=
  (Keeps.grown (S := fun b => S b ∨ w.heap.size ≤ b) (h.mono (fun _ _ h => .inl h)) gr (fun k hk _ => .inr (hv k hk))).mono (fun b hb h => h.resolve_right (by omega))
section
variable {w : World} {F : Nat → Prop} {g : Nat} {c : Int} {L : List DU} {N : Nat}
set_option maxRecDepth 100000 in
set_option maxHeartbeats 6400000 in
theorem dueAll_any (h : TF w F g c L N) (hN : N < 1000000) (x : Int) :
    Calls Try.prog 24 #[.pointer (some ⟨g, 0, none⟩), .int .i64 x] w fun e w' => ∃ A n cp, e = .returned (.slice A n cp) ∧ Own due w' w.heap.size 34 (.slice A n cp) (drainAll c L x).1 ∧ TF w' F g (drainAll c L x).2.1 (drainAll c L x).2.2 N ∧ Keeps F w w' := by
  have HLF := Lib.hid (fun q hq => (h.lies q hq).2 : ∀ q, F q → q < w.heap.size)
  have T := Lib.hid h
  clear h
  go_enter Try.func24, Try.ntmps24
  go_upto_region 2 with fail
  obtain ⟨w1, hw1⟩ : ∃ w1, w1 = w.alloc (.cells #[] 34) := ⟨_, rfl⟩
  rw [← hw1]
  have k1 : Keeps (fun _ => False) w w1 := by rw [hw1]; exact (Keeps.refl _ w).alloc _
  have O1 := Lib.hid (show Own due w1 w.heap.size 34 (.slice (some ⟨w.heap.size, 0, none⟩) 0 0) [] by rw [hw1]; exact own_empty due w 34 w.heap.size w.heap.size rfl (Nat.le_refl _))
  have T1 := Lib.hid (T.out.keep k1 (fun _ _ h => h))
  have K1 := Lib.hid (k1.mono (S' := F) (fun _ _ h => h.elim))
  clear k1 hw1
  go_wp2_with fail
  go_loopw [5, 6] (fun v5 v6 wr => ∃ (k : Nat) (c1 : Int) (L1 outs : List DU) (A : Option Addr) (n cp : Nat), v5 = .slice A n cp ∧ v6 = .int .i64 k ∧ k ≤ 200 ∧ n ≤ k ∧ Own due wr w.heap.size 34 (.slice A n cp) outs ∧ TF wr F g c1 L1 N ∧ Keeps F w wr ∧ drainAll c L x = (outs ++ (drain (200 - k) c1 L1 x).1, (drain (200 - k) c1 L1 x).2)) (fun _ v6 _ => 200 - (intOf v6).toNat)
  case atStart => exact ⟨0, c, L, [], _, 0, 0, rfl, rfl, Nat.zero_le _, Nat.le_refl _, O1.out, T1.out, K1.out, rfl⟩
  case round =>
    clear O1 T1 K1
    obtain ⟨k, c1, L1, outs, A, n, cp, rfl, rfl, hk, hnk, ho, tf, kk, hd⟩ := hrel
    have hol := ho.len_eq rfl
    have TR := Lib.hid tf
    have OR := Lib.hid ho
    have KK := Lib.hid kk
    have HD := Lib.hid hd
    have HOL := Lib.hid hol
    clear ho tf kk hd hol
    by_cases hk2 : k < 200
    · obtain ⟨j, hj⟩ : ∃ j, 200 - k = j + 1 := ⟨200 - k - 1, by omega⟩
      have HJ := Lib.hid hj
      clear hj
      cases hdr : dueR (goC c1 L1 x) L1 with
      | none =>
        have HDR := Lib.hid hdr
        have hdl := dueL_no hdr
        have HDL := Lib.hid hdl
        clear hdr hdl
        go_wp2_with (first
          | (go_at_call 13; refine (Go_any T5.out hN x).mono ?_
             rintro e w6 ⟨rfl, t6, k6⟩
             have T6 := Lib.hid t6
             have O6 := Lib.hid (O5.out.keeps k6 (fun q hq hf => by have h1 := O5.out.base_le hq; have h2 := HLF.out q hf; omega))
             have K6 := Lib.hid (K5.out.trans k6 (fun _ _ h => h))
             clear t6 k6)
          | (go_at_call 14; refine (due_any T4.out hN).mono ?_
             rw [HDR.out, HDL.out]
             rintro e w5 ⟨rfl, t5, k5⟩
             unfold firstV
             have kb : Keeps (fun _ => False) w5 (w5.alloc (.cells #[.int .i64 0, .string ⟨#[]⟩, .int .i64 0] 34)) := (Keeps.refl _ w5).alloc _
             have T5 := Lib.hid (t5.keep kb (fun _ _ h => h))
             have O5 := Lib.hid ((O4.out.keeps k5 (fun q hq hf => by have h1 := O4.out.base_le hq; have h2 := HLF.out q hf; omega)).keeps kb (fun _ _ h => h))
             have K5 := Lib.hid ((K4.out.trans k5 (fun _ _ h => h)).trans kb (fun _ _ h => h.elim))
             clear t5 k5 kb)
          | (go_at_call 13; refine (Go_any TR.out hN x).mono ?_
             rintro e w4 ⟨rfl, t4, k4⟩
             have T4 := Lib.hid t4
             have O4 := Lib.hid (OR.out.keeps k4 (fun q hq hf => by have h1 := OR.out.base_le hq; have h2 := HLF.out q hf; omega))
             have K4 := Lib.hid (KK.out.trans k4 (fun _ _ h => h))
             clear t4 k4))
        go_ret
        refine ⟨A, n, cp, rfl, ?_, ?_, K6.out⟩
        · rw [HD.out, HJ.out, drain_none HDR.out, List.append_nil]
          exact O6.out
        · rw [HD.out, HJ.out, drain_none HDR.out]
          exact T6.out
      | some d =>
        have HDR := Lib.hid hdr
        have hdl := dueL_of hdr
        have HDL := Lib.hid hdl
        clear hdr hdl
        go_wp2_with (first
          | (at_builtin; refine wp_append elem40 (by rfl) (.tmp 24) (.tmp 26) (by rfl) w.heap.size (.slice A n cp) outs [d] (some ⟨w5.heap.size + 1, 0, none⟩) 1 1 rfl rfl ((O5.out.alloc _).alloc _) ((Blk.new (w5.alloc _) 34 _ _ (by simp)).reads _ rfl rfl) (by rw [HOL.out]; omega) (by rw [HOL.out]; simp [maxLen]; omega) (by have := K5.out.size; simp; omega) ?_
             intro v6 w6 own6 gr6 at6
             obtain ⟨A6, c6, hv6, _⟩ := Own.val (n := n + 1) own6 (by rw [List.length_append, HOL.out]; rfl)
             subst hv6
             have k6 : Keeps F w w6 := own_grow ((K5.out.alloc _).alloc _) gr6 (fun q hq => O5.out.base_le hq)
             have t6 : TF w6 F g (goC c1 L1 x) (wo L1 d.key d.kind) N := T5.out.keep (S := fun q => w.heap.size ≤ q) (Keeps.grown (((Keeps.refl (fun q => w.heap.size ≤ q) w5).alloc _).alloc _) gr6 (fun k hk _ => O5.out.base_le hk)) (fun q hq h => by have := HLF.out q hq; omega)
             have T6 := Lib.hid t6
             have O6 := Lib.hid own6
             have K6 := Lib.hid k6
             clear own6 gr6 at6 k6 t6)
          | (go_at_call 14; refine (due_any T4.out hN).mono ?_
             rw [HDR.out, HDL.out]
             rintro e w5 ⟨rfl, t5, k5⟩
             unfold firstV
             have T5 := Lib.hid t5
             have O5 := Lib.hid (O4.out.keeps k5 (fun q hq hf => by have h1 := O4.out.base_le hq; have h2 := HLF.out q hf; omega))
             have K5 := Lib.hid (K4.out.trans k5 (fun _ _ h => h))
             clear t5 k5)
          | (go_at_call 13; refine (Go_any TR.out hN x).mono ?_
             rintro e w4 ⟨rfl, t4, k4⟩
             have T4 := Lib.hid t4
             have O4 := Lib.hid (OR.out.keeps k4 (fun q hq hf => by have h1 := OR.out.base_le hq; have h2 := HLF.out q hf; omega))
             have K4 := Lib.hid (KK.out.trans k4 (fun _ _ h => h))
             clear t4 k4))
        refine ⟨⟨k + 1, goC c1 L1 x, wo L1 d.key d.kind, outs ++ [d], A6, n + 1, c6, rfl, by go_num, by omega, by omega, O6.out, T6.out, K6.out, ?_⟩, by simp [intOf]; omega⟩
        have e1 := HJ.out
        have e2 : 200 - (k + 1) = j := by omega
        rw [HD.out, HJ.out, drain_some HDR.out, e2, List.append_assoc]
        rfl
    · obtain rfl : k = 200 := by omega
      go_wp2_with (go_at_call 13; refine (Go_any TR.out hN x).mono ?_
                   rintro e w4 ⟨rfl, t4, k4⟩
                   have T4 := Lib.hid t4
                   have O4 := Lib.hid (OR.out.keeps k4 (fun q hq hf => by have h1 := OR.out.base_le hq; have h2 := HLF.out q hf; omega))
                   have K4 := Lib.hid (KK.out.trans k4 (fun _ _ h => h))
                   clear t4 k4)
      go_ret
      refine ⟨A, n, cp, rfl, ?_, ?_, K4.out⟩
      · rw [HD.out]
        show Own due w4 w.heap.size 34 (.slice A n cp) (outs ++ [])
        rw [List.append_nil]
        exact O4.out
      · rw [HD.out]
        exact T4.out
end
end Go.Proofs.Yteeginfbonfhlaa
