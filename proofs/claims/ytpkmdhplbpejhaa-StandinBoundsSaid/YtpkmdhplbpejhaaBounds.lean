/- StandinBounds, walked. -/
import Derived.Test.YtpkmdhplbpejhaaShown
import Derived.Test.YtpkmdhplbpejhaaRows2
namespace Go.Proofs.Ytpkmdhplbpejhaa
open Go.RowKit Mem
/-- A call: its kind, its member, its amount, its card. -/
structure Op4 where
  kind : Int
  member : Int
  amount : Int
  pan : ByteArray
def op4 : Enc Op4 where
  enc := fun o => [.int .i64 o.kind, .int .i64 o.member, .int .i64 o.amount, .string o.pan]
  size := 4
  len := fun _ => rfl
  one := fun x u h => by
    simp at h
    rcases h with rfl | rfl | rfl | rfl <;> rfl
  pos := by decide
def okOp (o : Op4) : Prop := isInt o.kind ∧ isInt o.member ∧ isInt o.amount ∧ isStr o.pan
set_option maxRecDepth 100000 in
set_option maxHeartbeats 6400000 in
theorem bounds_any (ls : List (Int × Int)) (A : Option Addr) (n c : Nat) (os : List Op4) (A1 : Option Addr) (n1 c1 : Nat) (pan : ByteArray) (w : World) (hl : Reads stand w A n ls) (ho : Reads op4 w A1 n1 os) (hok : ∀ o ∈ os, okOp o) (hpan : isStr pan) :
    Calls Try.prog 3 #[.slice A n c, .slice A1 n1 c1, .string pan] w fun e w' => e = .returned (.bool true) ∧ Below w.heap.size w w' := by
  have hln := hl.1
  have hlo := ho.1
  have HLN := Lib.hid hln
  have HLO := Lib.hid hlo
  have HL := Lib.hid hl
  have HO := Lib.hid ho
  have OK := Lib.hid hok
  clear hl ho hok hln hlo
  obtain ⟨ne, hne⟩ : ∃ ne, ne = newE ls := ⟨_, rfl⟩
  have hne' : ne = 0 ∨ ne = 130 ∨ ne = 150 := by
    rw [hne]
    unfold newE
    split
    · exact .inr (.inl rfl)
    · split
      · exact .inl rfl
      · exact .inr (.inr rfl)
  have NE := Lib.hid hne
  clear hne
  rcases hne' with rfl | hne'
  · go_enter Try.func3, Try.ntmps3
    go_wp2_with (first
      | (go_at_call 6; refine (shown_any _).mono ?_
         rintro e w1 ⟨rfl, hk1⟩
         have K1 := Lib.hid hk1
         clear hk1)
      | (go_at_call 7; refine (new_any ls A n c w1 (HL.out.keeps K1.out (fun _ _ _ h => h))).mono ?_
         rintro e w3 ⟨v, rfl, made, k0⟩
         rw [← NE.out]
         rcases made with ⟨h, _⟩ | ⟨_, g, m, c', A', rfl, d0, hg, hm, hA⟩
         · exact absurd NE.out.symm h
         have K0 := Lib.hid k0
         have D0 := Lib.hid d0
         clear k0 d0 hA))
    have hz1 := K1.out.size
    have hz3 := K0.out.size
    have hz4 : w3.heap.size ≤ w3.heap.size := Nat.le_refl _
    go_loopw [10] (fun i wr => ∃ (k : Nat) (M : Int → ByteArray → Int), k ≤ n1 ∧ k ≤ 100 ∧ i = .int .i64 k ∧ (∀ j, M j pan = 0) ∧ Desk wr g m k A' ls.length c' ls M ∧ Keeps (fun b => b = m) w3 wr) (fun i _ => n1 - (intOf i).toNat)
    case atStart => exact ⟨0, fun _ _ => 0, Nat.zero_le _, Nat.zero_le _, rfl, fun _ => rfl, D0.out, Keeps.refl _ _⟩
    case round =>
      obtain ⟨k, M, hk, hk', rfl, hMp, d, kk⟩ := hrel
      have hbw : Below w.heap.size w wr := (K1.out.below (Nat.le_refl _) (fun _ _ h => h)).trans ((K0.out.below hz1 (fun _ _ h => h)).trans (kk.below (by omega) (fun b hb h => by omega)))
      have D := Lib.hid d
      have KK := Lib.hid kk
      have BW := Lib.hid hbw
      have MP := Lib.hid hMp
      clear d kk hbw hMp
      by_cases hkn : k < n1 ∧ k < 100
      · obtain ⟨o, hoo⟩ : ∃ o, os[k]? = some o := ⟨_, List.getElem?_eq_getElem (by have := HLO.out; omega)⟩
        obtain ⟨ad, hA1, hc⟩ := (HO.out.below (w1 := wr) ⟨BW.out.os, BW.out.tape, BW.out.output, BW.out.size, BW.out.block⟩).at_ hoo
        subst hA1
        obtain ⟨o1, o2, o3, o4⟩ := OK.out o (List.mem_of_getElem? hoo)
        have q0 := hc 0 _ rfl
        have q1 := hc 1 _ rfl
        have q2 := hc 2 _ rfl
        have q3 := hc 3 _ rfl
        simp [op4] at q0 q1 q2 q3
        rw [← add_add, add_pos _ (by decide : 0 < 1)] at q1
        rw [← add_add, add_pos _ (by decide : 0 < 2)] at q2
        rw [← add_add, add_pos _ (by decide : 0 < 3)] at q3
        clear hc hoo
        obtain ⟨hk1, hk2⟩ := hkn
        have hml := D.out.map.lt
        have db := D.out.keeps ((Keeps.refl (fun _ => False) wr).alloc (.cells #[.int .i64 o.kind, .int .i64 o.member, .int .i64 o.amount, .string o.pan] 30)) (fun h => h) (fun h => h) (fun _ _ _ h => h)
        have DB := Lib.hid db
        clear db
        obtain ⟨er, her⟩ : ∃ er, er = askE ls M o.member o.pan o.amount := ⟨_, rfl⟩
        obtain ⟨M', hMM⟩ : ∃ M', M' = askM ls M o.member o.pan o.amount := ⟨_, rfl⟩
        have ER := Lib.hid her
        have MM := Lib.hid hMM
        clear her hMM
        obtain ⟨x, hx⟩ : ∃ x, x = M o.member o.pan := ⟨_, rfl⟩
        have HX := Lib.hid hx
        have hxM := D.out.had o.member o.pan
        rw [← hx] at hxM
        clear hx
        have o3' := o3
        unfold isInt at o3'
        by_cases her0 : er = 0
        · subst her0
          have hE := ER.out.symm
          unfold askE at hE
          have hmem : ¬ (o.member < 0 ∨ (ls.length : Int) ≤ o.member) := fun h => by rw [if_pos h] at hE; omega
          rw [if_neg hmem] at hE
          have ham : 0 ≤ o.amount ∧ o.amount ≤ 999999999999 := by
            by_cases h : 0 ≤ o.amount ∧ o.amount ≤ 999999999999
            · exact h
            · rw [if_pos h] at hE; omega
          rw [if_neg (by omega)] at hE
          obtain ⟨j, hj⟩ := Int.eq_ofNat_of_zero_le (show 0 ≤ o.member by omega)
          have hjn : j < ls.length := by omega
          obtain ⟨pq, hp⟩ : ∃ pq, ls[j]? = some pq := ⟨_, List.getElem?_eq_getElem hjn⟩
          have hgd : ls.getD o.member.toNat (0, 0) = pq := by rw [hj, Int.toNat_natCast, List.getD_eq_getElem?_getD, hp]; rfl
          rw [hgd, ← HX.out] at hE
          have hlim : ¬ (pq.1 < o.amount ∨ pq.2 < x + o.amount) := fun h => by rw [if_pos h] at hE; omega
          have hM' : M' = upd M o.member o.pan (x + o.amount) := by rw [MM.out, askM_yes ER.out.symm, HX.out]
          have hnow : M' o.member o.pan = x + o.amount := by rw [hM']; unfold upd; simp
          have HM' := Lib.hid hM'
          have HNOW := Lib.hid hnow
          obtain ⟨adl, hAl, hcl⟩ := HL.out.at_ hp
          have c0 := hcl 0 _ rfl
          have c1 := hcl 1 _ rfl
          simp [stand] at c0 c1
          rw [← add_add, add_pos _ (by decide : 0 < 1)] at c1
          have C0 := Lib.hid c0
          have C1 := Lib.hid c1
          have HAL := Lib.hid hAl
          have hjl : j < n := by have := HLN.out; omega
          clear hE hgd hM' hnow hcl c0 c1 hp hmem
          rw [HAL.out]
          have mark : True := trivial
          have hoj := hj
          obtain ⟨okd, omm, oam, opn⟩ := o
          simp only at *
          subst hoj
          have t1 : decide (pq.1 < oam) = false := by simp; omega
          have t2 : decide (pq.2 < x + oam) = false := by simp; omega
          have t3 : decide ((n : Int) ≤ (j : Int)) = false := by simp; omega
          have t4 : decide (oam < 0) = false := by simp; omega
          have t5 : wrap64 (x + oam) = x + oam := Lem.wrap_in (by omega) (by omega)
          have t6 : IntKind.i64.wrap (x + oam) = x + oam := IntWalk.i64_in _ (by omega)
          have t8 : decide (n ≤ j) = false := by simp; omega
          have t7 : decide ((j : Int) < 0) = false := by simp
          go_wp2_with (first
            | (go_at_call 8; refine (kind_any okd o1 _).mono ?_
               rintro e w5 ⟨kd, hkd0, hkd1, rfl, hw5⟩
               subst hw5)
            | (go_at_call 9; refine (reset_any DB.out).mono ?_
               rintro e w6 ⟨rfl, d6, k6⟩
               have d7 : Desk w6 g m (k + 1) A' ls.length c' ls (fun _ _ => 0) := ⟨d6.box, d6.rows, d6.far, (by obtain ⟨D, h1, h2⟩ := d6.map; exact ⟨D, h1.mono (Nat.zero_le _), h2⟩), d6.good, d6.few, d6.had⟩
               have k7 : Keeps (fun b => b = m) w3 w6 := (KK.out.alloc _).trans k6 (fun _ _ h => h)
               have D7 := Lib.hid d7
               have K7 := Lib.hid k7
               clear d6 k6 d7 k7)
            | (go_at_call 10; clear mark; refine (had_any DB.out (j : Int) opn o2 o4).mono ?_
               rintro e w6 ⟨rfl, hw6⟩
               rw [← HX.out]
               subst hw6)
            | (go_at_call 11; refine (ask_any DB.out (j : Int) opn oam o2 o4 o3 (by omega)).mono ?_
               rintro e w6 ⟨rfl, d6, k6⟩
               rw [← ER.out]
               rw [← MM.out] at d6
               have hb6 := (Blk.new wr 30 #[.int .i64 okd, .int .i64 (j : Int), .int .i64 oam, .string opn] _ rfl).keeps k6 (fun h => by omega)
               have e0 := hb6.cell 0
               have e1 := hb6.cell 1
               have e2 := hb6.cell 2
               have e3 := hb6.cell 3
               simp at e0 e1 e2 e3
               have k7 : Keeps (fun b => b = m) w3 w6 := (KK.out.alloc _).trans k6 (fun _ _ h => h)
               have b7 : Below w.heap.size w w6 := BW.out.trans (((Keeps.refl (fun b => b = m) wr).alloc _ |>.trans k6 (fun _ _ h => h)).below BW.out.size (fun b hb h => by omega))
               have c0 := (b7.cell (World.block_lt_of_cell? _ _ C0.out)).trans C0.out
               have c1 := (b7.cell (World.block_lt_of_cell? _ _ C1.out)).trans C1.out
               have D6 := Lib.hid d6
               have K6 := Lib.hid k7
               have B6 := Lib.hid b7
               clear d6 k6 hb6 k7 b7)
            | (go_at_call 10; refine (had_any D6.out (j : Int) opn o2 o4).mono ?_
               rintro e w8 ⟨rfl, hw8⟩
               rw [HNOW.out]
               subst hw8))
          · refine ⟨⟨k + 1, fun _ _ => 0, by omega, by omega, by go_num, fun _ => rfl, D7.out, K7.out⟩, by simp [intOf]; omega⟩
          · go_quiet (fail)
            by_cases hpp : opn = pan
            · subst hpp
              go_wp2_with fail
              go_ret
              exact ⟨rfl, B6.out.trans ((Keeps.refl (fun _ => False) w8).drewN nq |>.below B6.out.size (fun _ _ h => h))⟩
            · have hps : (opn.toList == pan.toList) = false := beq_false_of_ne fun e => hpp (by rw [ByteArray.toList_eq, ByteArray.toList_eq] at e; exact ByteArray.ext (Array.toList_inj.1 e))
              have hz : ∀ i, M' i pan = 0 := fun i => by
                rw [HM'.out]
                unfold upd
                rw [if_neg (fun h => hpp h.2.symm)]
                exact MP.out i
              have HZ := Lib.hid hz
              have d8 := D6.out.keeps ((Keeps.refl (fun _ => False) w8).drewN nq) (fun h => h) (fun h => h) (fun _ _ _ h => h)
              have D8 := Lib.hid d8
              have hn6 : n ≤ 6 := by have := D6.out.few; have := HLN.out; omega
              clear hz d8
              go_wp2_with fail
              go_loopw [15] (fun i wr => ∃ q : Nat, q ≤ n ∧ i = .int .i64 q ∧ wr = w8.drewN nq) (fun i _ => n - (intOf i).toNat)
              case atStart => exact ⟨0, Nat.zero_le _, rfl, rfl⟩
              case round =>
                obtain ⟨q, hq, rfl, rfl⟩ := hrel
                by_cases hqn : q < n
                · have hi : isInt (q : Int) := by unfold isInt; omega
                  go_wp2_with (go_at_call 10; refine (had_any D8.out (q : Int) pan hi hpan).mono ?_
                               rintro e w9 ⟨rfl, hw9⟩
                               rw [HZ.out]
                               subst hw9)
                  exact ⟨⟨q + 1, by omega, by go_num, trivial⟩, by simp [intOf]; omega⟩
                · go_wp2_with fail
                  refine ⟨⟨k + 1, M', by omega, by omega, by go_num, HZ.out, D8.out, K6.out.drewN nq⟩, by simp [intOf]; omega⟩
        · have hM' : M' = M := by rw [MM.out, askM_no (by rw [← ER.out]; exact her0)]
          have hmx : M' o.member o.pan = x := by rw [hM']; exact HX.out.symm
          have HMX := Lib.hid hmx
          have HM' := Lib.hid hM'
          have t0 : (er == 0) = false := by simpa using her0
          clear hM' hmx her0
          have mark : True := trivial
          go_wp2_with (first
            | (go_at_call 8; refine (kind_any o.kind o1 _).mono ?_
               rintro e w5 ⟨kd, hkd0, hkd1, rfl, hw5⟩
               subst hw5)
            | (go_at_call 9; refine (reset_any DB.out).mono ?_
               rintro e w6 ⟨rfl, d6, k6⟩
               have d7 : Desk w6 g m (k + 1) A' ls.length c' ls (fun _ _ => 0) := ⟨d6.box, d6.rows, d6.far, (by obtain ⟨D, h1, h2⟩ := d6.map; exact ⟨D, h1.mono (Nat.zero_le _), h2⟩), d6.good, d6.few, d6.had⟩
               have k7 : Keeps (fun b => b = m) w3 w6 := (KK.out.alloc _).trans k6 (fun _ _ h => h)
               have D7 := Lib.hid d7
               have K7 := Lib.hid k7
               clear d6 k6 d7 k7)
            | (go_at_call 10; clear mark; refine (had_any DB.out o.member o.pan o2 o4).mono ?_
               rintro e w6 ⟨rfl, hw6⟩
               rw [← HX.out]
               subst hw6)
            | (go_at_call 11; refine (ask_any DB.out o.member o.pan o.amount o2 o4 o3 (by omega)).mono ?_
               rintro e w6 ⟨rfl, d6, k6⟩
               rw [← ER.out]
               rw [← MM.out] at d6
               have hb6 := (Blk.new wr 30 #[.int .i64 o.kind, .int .i64 o.member, .int .i64 o.amount, .string o.pan] _ rfl).keeps k6 (fun h => by omega)
               have e0 := hb6.cell 0
               have e1 := hb6.cell 1
               have e2 := hb6.cell 2
               have e3 := hb6.cell 3
               simp at e0 e1 e2 e3
               have k7 : Keeps (fun b => b = m) w3 w6 := (KK.out.alloc _).trans k6 (fun _ _ h => h)
               have b7 : Below w.heap.size w w6 := BW.out.trans (((Keeps.refl (fun b => b = m) wr).alloc _ |>.trans k6 (fun _ _ h => h)).below BW.out.size (fun b hb h => by omega))
               have D6 := Lib.hid d6
               have K6 := Lib.hid k7
               have B6 := Lib.hid b7
               clear d6 k6 hb6 k7 b7)
            | (go_at_call 10; refine (had_any D6.out o.member o.pan o2 o4).mono ?_
               rintro e w8 ⟨rfl, hw8⟩
               rw [HMX.out]
               subst hw8))
          · refine ⟨⟨k + 1, fun _ _ => 0, by omega, by omega, by go_num, fun _ => rfl, D7.out, K7.out⟩, by simp [intOf]; omega⟩
          · refine ⟨⟨k + 1, M', by omega, by omega, by go_num, by rw [HM'.out]; exact MP.out, D6.out, K6.out⟩, by simp [intOf]; omega⟩
      · rcases (show ¬ k < n1 ∨ (k < n1 ∧ ¬ k < 100) by omega) with h | ⟨h, h'⟩
        all_goals
          clear hkn
          go_wp2_with fail
          go_ret
          exact ⟨rfl, BW.out⟩
  · have t0 : (ne == 0) = false := by simp; omega
    go_enter Try.func3, Try.ntmps3
    go_wp2_with (first
      | (go_at_call 6; refine (shown_any _).mono ?_
         rintro e w1 ⟨rfl, hk1⟩
         have K1 := Lib.hid hk1
         clear hk1)
      | (go_at_call 7; refine (new_any ls A n c w1 (HL.out.keeps K1.out (fun _ _ _ h => h))).mono ?_
         rintro e w3 ⟨v, rfl, made, k0⟩
         rw [← NE.out]
         have hv : v = .pointer none := by
           rcases made with ⟨_, h⟩ | ⟨h, _⟩
           · exact h
           · have := NE.out.trans h; omega
         subst hv
         have K0 := Lib.hid k0
         clear k0))
    go_ret
    exact ⟨rfl, (K1.out.trans K0.out (fun _ _ h => h)).below (Nat.le_refl _) (fun _ _ h => h)⟩
end Go.Proofs.Ytpkmdhplbpejhaa
