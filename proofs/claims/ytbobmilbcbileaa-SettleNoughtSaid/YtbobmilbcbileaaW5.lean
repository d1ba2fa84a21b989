/- Entries counted: walked. -/
import Derived.Test.YtbobmilbcbileaaW4
namespace Go.Proofs.Ytbobmilbcbileaa
open Go.RowKit Mem
set_option maxHeartbeats 3200000 in
theorem count_any {w : World} {g : Nat} {no : Int} {A : Option Addr} {n c : Nat} {no2 : Int} {A2 : Option Addr} {n2 c2 : Nat} {cl : Bool} {T T2 : List T6} (d : S5 w g no A n c no2 A2 n2 c2 cl T T2) (es : List (Int × Int)) (A1 : Option Addr) (n1 c1 : Nat) (hr : Reads entry w A1 n1 es) (hok : ∀ e ∈ es, okE e) (hn1 : n1 ≤ 9223372036854775807) :
    Calls Try.prog 10 #[.pointer (some ⟨g, 0, none⟩), .slice A1 n1 c1] w fun e w' => e = .returned (.int .i64 (countE T es)) ∧ (∃ A' c', S5 w' g no A' n c' no2 A2 n2 c2 cl (countT T es) T2) ∧ Keeps (fun b => b = g) w w' := by
  have hl := hr.1
  have hln : T.length = n := d.row.len_eq rfl
  have HL := Lib.hid hl
  have HLN := Lib.hid hln
  have HR := Lib.hid hr
  have D := Lib.hid d
  have OK := Lib.hid hok
  have hf := d.few
  have hgl := d.box.lt
  clear d hl hln hr hok
  go_enter Try.func10, Try.ntmps10
  go_wp2_with fail
  go_loopw [13] (fun v wr => ∃ k : Nat, k ≤ n1 ∧ v = .int .i64 k ∧ inAll n (es.take k) ∧ Keeps (fun _ => False) w wr) (fun v _ => n1 - (intOf v).toNat)
  case atStart => exact ⟨0, Nat.zero_le _, rfl, by unfold inAll; simp, Keeps.refl _ _⟩
  case round =>
    obtain ⟨k, hk, rfl, hall, kk⟩ := hrel
    have ALL := Lib.hid hall
    have KK := Lib.hid kk
    clear hall kk
    by_cases hkn : k < n1
    · obtain ⟨e, he⟩ : ∃ e, es[k]? = some e := ⟨_, List.getElem?_eq_getElem (by rw [HL.out]; exact hkn)⟩
      obtain ⟨ad, hA, hc⟩ := (HR.out.keeps KK.out (fun _ _ _ h => h)).at_ he
      subst hA
      have p0 := hc 0 _ rfl
      have p1 := hc 1 _ rfl
      simp [entry] at p0 p1
      rw [← add_add, add_pos _ (by decide : 0 < 1)] at p1
      have d1 := D.out.keep (KK.out.alloc (.cells #[.int .i64 e.1, .int .i64 e.2] 34))
      have c1' := d1.box.cell 1
      have bb : Blk (wr.alloc (.cells #[.int .i64 e.1, .int .i64 e.2] 34)) wr.heap.size 34 #[.int .i64 e.1, .int .i64 e.2] := Blk.new wr 34 _ _ rfl
      have e0 := bb.cell 0
      simp at c1' e0
      have HE := Lib.hid he
      have hW : ∀ q, Keeps (fun _ => False) w ((wr.alloc (.cells #[.int .i64 e.1, .int .i64 e.2] 34)).drewN q) := fun q => (KK.out.alloc _).drewN q
      have HW := Lib.hid hW
      clear hc d1 bb he hW
      by_cases hin : 0 ≤ e.1 ∧ e.1 < n
      · have t1 : decide (e.1 < 0) = false := by simp; omega
        have t2 : decide ((n : Int) ≤ e.1) = false := by simp; omega
        have HIN := Lib.hid hin
        clear hin
        go_wp2_with fail
        go_quiet (fail)
        go_wp2_with fail
        refine ⟨⟨k + 1, by omega, by go_num, fun x hx => ?_, HW.out _⟩, by simp [intOf]; omega⟩
        rw [List.take_add_one, HE.out] at hx
        simp at hx
        rcases hx with hx | rfl
        · exact ALL.out x hx
        · exact HIN.out
      · have hE : countE T es = 121 := if_pos (fun h => hin (by rw [HLN.out] at h; exact h e (List.mem_of_getElem? HE.out)))
        have hT : countT T es = T := if_pos (fun h => hin (by rw [HLN.out] at h; exact h e (List.mem_of_getElem? HE.out)))
        have HEE := Lib.hid hE
        have HTT := Lib.hid hT
        have hcase : decide (e.1 < 0) = true ∨ (decide (e.1 < 0) = false ∧ decide ((n : Int) ≤ e.1) = true) := by
          by_cases h : e.1 < 0
          · left; simpa using h
          · right; exact ⟨by simpa using h, by simp; omega⟩
        clear hin hE hT
        rcases hcase with t1 | ⟨t1, t2⟩
        all_goals
          go_wp2_with fail
          go_quiet (fail)
          go_wp2_with fail
          go_ret
          rw [HEE.out, HTT.out]
          exact ⟨rfl, ⟨_, _, D.out.keep (HW.out _)⟩, (HW.out _).mono (fun _ _ h => h.elim)⟩
    · have hall := ALL.out
      rw [List.take_of_length_le (by rw [HL.out]; omega)] at hall
      have d1 := D.out.keep KK.out
      have c0 := d1.box.cell 0
      have c1' := d1.box.cell 1
      simp at c0 c1'
      obtain ⟨_, _, er, hrow, _⟩ := d1.row.slice
      injection er with er1 er2 er3
      rw [← er1, ← er2] at hrow
      have HROW := Lib.hid hrow
      have HNO := Lib.hid (own_none d1.row)
      have HALL := Lib.hid hall
      clear d1 er1 er2 er3 hrow hall
      go_wp2_with (go_at_call 24; refine (copied_any no T A n c wr HROW.out HNO.out (by omega)).mono ?_
                   rintro e w3 ⟨A', c', rfl, o3, k3⟩
                   have hk3 := KK.out.trans k3 (fun _ _ h => h)
                   have hz := KK.out.size
                   have O3 := Lib.hid (o3.rebase w.heap.size (fun q hq => by have := o3.base_le hq; omega))
                   have K3 := Lib.hid hk3
                   clear o3 k3 hk3)
      have hz3 := K3.out.size
      go_loopw [40] (fun v wr => ∃ (k : Nat) (T' : List T6), k ≤ n1 ∧ v = .int .i64 k ∧ foldT T (es.take k) = some T' ∧ Own total wr w.heap.size 41 (.slice A' n c') T' ∧ Blk wr w3.heap.size 61 #[.int .i64 no, .slice A' n c'] ∧ Keeps (fun _ => False) w wr) (fun v _ => n1 - (intOf v).toNat)
      case atStart => exact ⟨0, T, Nat.zero_le _, rfl, rfl, O3.out.alloc _, Blk.new w3 61 _ _ rfl, K3.out.alloc _⟩
      case round =>
        obtain ⟨k, T', hk, rfl, hfold, ho, hb, kk⟩ := hrel
        have FOLD := Lib.hid hfold
        have HO := Lib.hid ho
        have HB := Lib.hid hb
        have KK2 := Lib.hid kk
        have g0 := hb.cell 0
        have g1 := hb.cell 1
        simp at g0 g1
        clear hfold ho hb kk
        by_cases hkn : k < n1
        · obtain ⟨⟨e1, a⟩, he⟩ : ∃ e, es[k]? = some e := ⟨_, List.getElem?_eq_getElem (by rw [HL.out]; exact hkn)⟩
          obtain ⟨ad, hA, hc⟩ := (HR.out.keeps KK2.out (fun _ _ _ h => h)).at_ he
          subst hA
          have hin := HALL.out _ (List.mem_of_getElem? he)
          obtain ⟨i, hi⟩ := Int.eq_ofNat_of_zero_le hin.1
          simp only at hi hin
          subst hi
          have hin' : i < n := by omega
          have hoke := OK.out _ (List.mem_of_getElem? he)
          have p0 := hc 0 _ rfl
          have p1 := hc 1 _ rfl
          simp [entry] at p0 p1
          rw [← add_add, add_pos _ (by decide : 0 < 1)] at p1
          have hT'l : T'.length = n := HO.out.len_eq rfl
          obtain ⟨b6, c6, hv6, hb6, hb6l, _⟩ := HO.out.form (by omega)
          injection hv6 with hA6 hn6 hc6
          subst hA6
          obtain ⟨t, ht⟩ : ∃ t, T'[i]? = some t := ⟨_, List.getElem?_eq_getElem (by omega)⟩
          have htT := foldT_isT FOLD.out D.out.ts t (List.mem_of_getElem? ht)
          have bb : Blk (wr.alloc (.cells #[.int .i64 (i : Int), .int .i64 a] 34)) wr.heap.size 34 #[.int .i64 (i : Int), .int .i64 a] := Blk.new wr 34 _ _ rfl
          have b1 := HB.out.alloc (.cells #[.int .i64 (i : Int), .int .i64 a] 34)
          have g0' := b1.cell 0
          have g1' := b1.cell 1
          have e0 := bb.cell 0
          have e1 := bb.cell 1
          simp at g0' g1' e0 e1
          have HE := Lib.hid he
          have HT := Lib.hid ht
          have HTT := Lib.hid htT
          have HOA := Lib.hid (HO.out.alloc (.cells #[.int .i64 (i : Int), .int .i64 a] 34))
          have HB1 := Lib.hid b1
          have hne : b6 ≠ w3.heap.size := fun e => by
            have := HO.out.blk_ne HB.out (by decide)
            exact this (by rw [e]; rfl)
          have hwz : w.heap.size ≤ b6 := HO.out.base_le rfl
          clear he hc hT'l hc6 hn6 ht htT bb b1
          by_cases hok1 : ok1 t a
          · go_wp2_with (go_at_call 25; refine (count_ok no T' b6 n c' w.heap.size i a t _ HOA.out HT.out hin' hf hoke.2 HTT.out hok1).mono ?_
                         rintro e w5 ⟨rfl, o5, k5⟩
                         have O5 := Lib.hid o5
                         have K5 := Lib.hid ((KK2.out.alloc (.cells #[.int .i64 (i : Int), .int .i64 a] 34)).trans k5 (fun b hb h => by omega))
                         have B5 := Lib.hid (HB1.out.keeps k5 (fun h => hne h.symm))
                         clear o5 k5)
            refine ⟨⟨k + 1, T'.set i (step1 t a), by omega, by go_num, ?_, O5.out, B5.out, K5.out⟩, by simp [intOf]; omega⟩
            rw [foldT_succ FOLD.out HE.out]
            unfold foldT
            simp only [Int.toNat_natCast, HT.out]
            rw [if_pos hok1]
            rfl
          · have hnone : foldT T es = none := by
              have h1 : foldT T (es.take (k + 1)) = none := by
                rw [foldT_succ FOLD.out HE.out]
                unfold foldT
                simp only [Int.toNat_natCast, HT.out]
                rw [if_neg hok1]
              have h2 := foldT_append T (es.take (k + 1)) (es.drop (k + 1))
              rw [List.take_append_drop, h1] at h2
              exact h2
            have hE : countE T es = 100 := by
              unfold countE
              rw [if_neg (fun h => h (by rw [HLN.out]; exact HALL.out)), hnone]
            have hTT' : countT T es = T := by
              unfold countT
              rw [if_neg (fun h => h (by rw [HLN.out]; exact HALL.out)), hnone]
              rfl
            have HEE := Lib.hid hE
            have HTE := Lib.hid hTT'
            clear hnone hE hTT'
            go_wp2_with (go_at_call 25; refine (count_no no T' b6 n c' w.heap.size i a t _ HOA.out HT.out hin' hf hoke.2 HTT.out hok1).mono ?_
                         rintro e w5 ⟨rfl, k5⟩
                         have K5 := Lib.hid ((KK2.out.alloc (.cells #[.int .i64 (i : Int), .int .i64 a] 34)).trans k5 (fun b hb h => by omega))
                         clear k5)
            go_ret
            rw [HEE.out, HTE.out]
            exact ⟨rfl, ⟨_, _, D.out.keep K5.out⟩, K5.out.mono (fun _ _ h => h.elim)⟩
        · have hff := FOLD.out
          rw [List.take_of_length_le (by rw [HL.out]; omega)] at hff
          have hE : countE T es = 0 := by
            unfold countE
            rw [if_neg (fun h => h (by rw [HLN.out]; exact HALL.out)), hff]
          have hTT' : countT T es = T' := by
            unfold countT
            rw [if_neg (fun h => h (by rw [HLN.out]; exact HALL.out)), hff]
            rfl
          have HEE := Lib.hid hE
          have HTE := Lib.hid hTT'
          have HFF := Lib.hid hff
          have d2 := D.out.keep KK2.out
          have D2 := Lib.hid d2
          have s0 := d2.box.cell 0
          have s1 := d2.box.cell 1
          have u0 := d2.box.frozen 0
          have u1 := d2.box.frozen 1
          simp at s0 s1
          clear hE hTT' hff d2
          go_wp2_with fail
          go_ret
          rw [HEE.out, HTE.out]
          have hne : ∀ q, (Value.slice A' n c').ownBlock = some q → q ≠ g := fun q hq => by have := HO.out.base_le hq; omega
          refine ⟨rfl, ⟨A', c', ⟨?_, ?_, ?_, foldT_isT HFF.out D.out.ts, hf, D.out.few2⟩⟩, ((KK2.out.mono (S' := fun b => b = g) (fun _ _ h => h.elim)).setCell _ _ (fun _ => rfl)).setCell _ _ (fun _ => rfl)⟩
          · exact (D2.out.box.set 0 _).set 1 _
          · exact ((HO.out.setCell _ _ (fun q hq e => hne q hq (by simpa using e))).setCell _ _ (fun q hq e => hne q hq (by simpa using e))).rebase 0 (fun _ _ => Nat.zero_le _)
          · exact (D2.out.last.setCell _ _ (fun q hq e => by simp at e; subst e; exact D2.out.last.blk_ne D2.out.box (by decide) hq)).setCell _ _ (fun q hq e => by simp at e; subst e; exact D2.out.last.blk_ne D2.out.box (by decide) hq)
end Go.Proofs.Ytbobmilbcbileaa
