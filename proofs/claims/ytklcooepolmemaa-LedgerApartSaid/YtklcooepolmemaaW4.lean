/- Entries posted: walked. -/
import Derived.Test.YtklcooepolmemaaW3
import Derived.Deep.RegionHeld3
import Derived.Deep.RegionLaw
namespace Go.Proofs.Ytklcooepolmemaa
open Go.RowKit Mem
set_option maxRecDepth 100000 in
set_option maxHeartbeats 6400000 in
theorem post_any {w : World} {g : Nat} {A : Option Addr} {n c : Nat} {bs : List Int} (d : Led w g A n c bs) (es : List (Int × Int)) (A1 : Option Addr) (n1 c1 : Nat) (hr : Reads entry w A1 n1 es) (hok : ∀ e ∈ es, okE e) (hn1 : n1 ≤ 9223372036854775807) :
    Calls Try.prog 10 #[.pointer (some ⟨g, 0, none⟩), .slice A1 n1 c1] w fun e w' => e = .returned (.int .i64 (postE bs es)) ∧ (∃ A' c', Led w' g A' n c' (postB bs es)) ∧ Keeps (fun b => b = g) w w' := by
  have hl := hr.1
  have hln : bs.length = n := d.row.len_eq rfl
  have c0 := d.box.cell 0
  simp at c0
  have HL := Lib.hid hl
  have HLN := Lib.hid hln
  have HR := Lib.hid hr
  have D := Lib.hid d
  have OK := Lib.hid hok
  have hf := d.few
  have hone := d.one
  have hgl := d.box.lt
  have hmk := make_wides n (by omega)
  have hmi := make_ints n (by omega)
  clear d hl hln hr hok
  go_enter Try.func10, Try.ntmps10
  go_wp2_with fail
  obtain ⟨w2, hw2⟩ : ∃ w2, w2 = (w.alloc (.cells #[.int .u64 0, .int .u64 0] 62)).alloc (.cells (madeCells #[.int .u64 0, .int .u64 0] (n * 2)) 62) := ⟨_, rfl⟩
  rw [← hw2]
  have k2 : Keeps (fun _ => False) w w2 := by rw [hw2]; exact ((Keeps.refl _ w).alloc _).alloc _
  have s2 : Blk w2 w.heap.size 62 #[.int .u64 0, .int .u64 0] := by rw [hw2]; exact (Blk.new w 62 _ _ rfl).alloc _
  have o2 : Own wid w2 0 62 (.slice (some ⟨w.heap.size + 1, 0, none⟩) n n) (List.replicate n 0) := by
    rw [hw2]
    exact wides_new (by simp) (Nat.zero_le _) n (by omega)
  obtain ⟨gb, cb, hA, _, hgbl, hcb⟩ := D.out.row.form (by rw [HLN.out]; omega)
  injection hA with hA hA2 hA3
  subst hA
  have K2 := Lib.hid k2
  have S2 := Lib.hid s2
  have O2 := Lib.hid o2
  have hH : w.heap.size + 2 = w2.heap.size := by rw [hw2]; simp
  clear hA2 hA3 k2 s2 o2 hw2
  go_loopw [27] (fun v wr => ∃ k : Nat, k ≤ n ∧ v = .int .i64 k ∧ Keeps (fun _ => False) w wr ∧ Blk wr w.heap.size 62 #[.int .u64 0, .int .u64 0] ∧ Own wid wr 0 62 (.slice (some ⟨w.heap.size + 1, 0, none⟩) n n) (bs.take k ++ List.replicate (n - k) 0)) (fun v _ => n - (intOf v).toNat)
  case atStart => exact ⟨0, Nat.zero_le _, rfl, K2.out, S2.out, by simpa using O2.out⟩
  case round =>
    obtain ⟨k, hk, rfl, kk, sk, ok⟩ := hrel
    have KK := Lib.hid kk
    have SK := Lib.hid sk
    have OWK := Lib.hid ok
    clear kk sk ok
    by_cases hkn : k < n
    · obtain ⟨b, hb⟩ : ∃ b, bs[k]? = some b := ⟨_, List.getElem?_eq_getElem (by rw [HLN.out]; exact hkn)⟩
      have q0 := (D.out.keep KK.out).row.at_ hb (j := 0) rfl
      have hz : (bs.take k ++ List.replicate (n - k) 0)[k]? = some 0 := by
        have hlk : (bs.take k).length = k := by rw [List.length_take, HLN.out]; omega
        rw [List.getElem?_append_right (by omega), hlk, Nat.sub_self, List.getElem?_replicate]
        rw [if_pos (by omega)]
      have p0 := OWK.out.at_ hz (j := 0) rfl
      have p1 := OWK.out.at_ hz (j := 1) rfl
      have hHl := OWK.out.lt rfl
      simp [num] at q0
      simp [wid] at p0 p1
      have hbi := D.out.ints b (List.mem_of_getElem? hb)
      have HB := Lib.hid hb
      have HBI := Lib.hid hbi
      have HZ := Lib.hid hz
      clear hb hbi hz
      go_wp2_with (go_at_call 22; refine (wadd_any 0 b HBI.out wr).mono ?_
                   rintro e w3 ⟨rfl, k3⟩
                   rw [Int.zero_add]
                   have o3 := OWK.out.keeps k3 (fun _ _ h => h)
                   have p0' := o3.at_ HZ.out (j := 0) rfl
                   have p1' := o3.at_ HZ.out (j := 1) rfl
                   simp [wid] at p0' p1'
                   have f0 := o3.frozen (k * 2)
                   have f1 := o3.frozen (k * 2 + 1)
                   have O3 := Lib.hid o3
                   have K3 := Lib.hid k3
                   clear o3 k3)
      have o4 := wid_set O3.out HZ.out b
      have k4 : Keeps (fun _ => False) w ((w3.setCell ⟨w.heap.size + 1, k * 2, none⟩ (.int .u64 (hi b))).setCell ⟨w.heap.size + 1, k * 2 + 1, none⟩ (.int .u64 (lo b))) :=
        ((KK.out.trans K3.out (fun _ _ h => h)).setCell _ _ (fun h => by simp at h; omega)).setCell _ _ (fun h => by simp at h; omega)
      refine ⟨⟨k + 1, by omega, by go_num, k4, ?_, ?_⟩, by simp [intOf]; omega⟩
      · exact ((SK.out.keeps K3.out (fun h => h)).far (by simp) _).far (by simp) _
      · have hlk : (bs.take k).length = k := by rw [List.length_take, HLN.out]; omega
        have e : bs.take (k + 1) ++ List.replicate (n - (k + 1)) 0 = (bs.take k ++ List.replicate (n - k) 0).set k b := by
          rw [List.take_add_one, HB.out, List.set_append_right _ _ (by omega), hlk, Nat.sub_self, show n - k = (n - (k + 1)) + 1 by omega, List.replicate_succ]
          simp
        rw [e]
        exact o4
    · have hkn' : k = n := by omega
      have o4 := OWK.out
      rw [show bs.take k ++ List.replicate (n - k) 0 = nb bs [] from by rw [nb_nil, hkn', Nat.sub_self, List.take_of_length_le (by rw [HLN.out]; exact Nat.le_refl _)]; simp] at o4
      have O4 := Lib.hid o4
      clear o4 hkn' OWK
      go_wp2_with fail
      go_loopw [44] (fun v wr => ∃ k : Nat, k ≤ n1 ∧ v = .int .i64 k ∧ inAll n (es.take k) ∧ Keeps (fun _ => False) w wr ∧ Blk wr w.heap.size 62 #[.int .u64 (hi (tot (es.take k))), .int .u64 (lo (tot (es.take k)))] ∧ Own wid wr 0 62 (.slice (some ⟨w.heap.size + 1, 0, none⟩) n n) (nb bs (es.take k))) (fun v _ => n1 - (intOf v).toNat)
      case atStart => exact ⟨0, Nat.zero_le _, rfl, by unfold inAll; simp, KK.out, SK.out, O4.out⟩
      case round =>
        clear KK SK O4 hk hkn
        obtain ⟨k, hk, rfl, hall, kk, sk, ok⟩ := hrel
        obtain ⟨s, hs⟩ : ∃ s, s = tot (es.take k) := ⟨_, rfl⟩
        rw [← hs] at sk
        have ALL := Lib.hid hall
        have KK := Lib.hid kk
        have SK := Lib.hid sk
        have OWK := Lib.hid ok
        have HS := Lib.hid hs
        clear hall kk sk ok hs
        by_cases hkn : k < n1
        · obtain ⟨e, he⟩ : ∃ e, es[k]? = some e := ⟨_, List.getElem?_eq_getElem (by rw [HL.out]; exact hkn)⟩
          obtain ⟨ad, hA, hc⟩ := (HR.out.keeps KK.out (fun _ _ _ h => h)).at_ he
          subst hA
          have p0 := hc 0 _ rfl
          have p1 := hc 1 _ rfl
          simp [entry] at p0 p1
          rw [← add_add, add_pos _ (by decide : 0 < 1)] at p1
          obtain ⟨wa, hwa⟩ : ∃ wa, wa = wr.alloc (.cells #[.int .i64 e.1, .int .i64 e.2] 30) := ⟨_, rfl⟩
          have bb : Blk wa wr.heap.size 30 #[.int .i64 e.1, .int .i64 e.2] := by rw [hwa]; exact Blk.new wr 30 _ _ rfl
          have e0 := bb.cell 0
          have e1 := bb.cell 1
          simp at e0 e1
          have hka : Keeps (fun _ => False) wr wa := by rw [hwa]; exact (Keeps.refl _ wr).alloc _
          have HE := Lib.hid he
          have BB := Lib.hid bb
          have HWA := Lib.hid hwa
          have HKA := Lib.hid hka
          clear hc he bb hka
          by_cases hin : 0 ≤ e.1 ∧ e.1 < n
          · obtain ⟨a, ha⟩ : ∃ a : Nat, e.1 = a := ⟨e.1.toNat, by omega⟩
            have han : a < n := by omega
            obtain ⟨e1', e2'⟩ := e
            simp only at ha
            subst ha
            have t1 : decide ((a : Int) < 0) = false := by simp
            have t2 : decide ((n : Int) ≤ (a : Int)) = false := by simp; omega
            have t3 : decide (n ≤ a) = false := by simp; omega
            clear hin
            have s0 := (SK.out.keeps HKA.out (fun h => h)).cell 0
            have s1 := (SK.out.keeps HKA.out (fun h => h)).cell 1
            simp at s0 s1
            have hei := (OK.out _ (List.mem_of_getElem? HE.out)).2
            have HEI := Lib.hid hei
            have hHl := OWK.out.lt rfl
            clear hei
            rw [hwa] at e0 e1 s0 s1
            clear hwa
            go_wp2_with (go_at_call 22; refine (wadd_any s e2' HEI.out _).mono ?_
                         rintro e w4 ⟨rfl, k4⟩
                         rw [← HWA.out] at k4
                         have sk4 := (SK.out.keeps HKA.out (fun h => h)).keeps k4 (fun h => h)
                         have s0' := sk4.cell 0
                         have s1' := sk4.cell 1
                         have f0 := sk4.frozen 0
                         have f1 := sk4.frozen 1
                         simp at s0' s1'
                         have K4 := Lib.hid k4
                         have SK4 := Lib.hid sk4
                         clear k4 sk4)
            obtain ⟨w5, hw5⟩ : ∃ w5, w5 = (w4.setCell ⟨w.heap.size, 0, none⟩ (.int .u64 (hi (s + e2')))).setCell ⟨w.heap.size, 1, none⟩ (.int .u64 (lo (s + e2'))) := ⟨_, rfl⟩
            rw [← hw5]
            have ka4 := HKA.out.trans K4.out (fun _ _ h => h)
            have b5 : Blk w5 wr.heap.size 30 #[.int .i64 a, .int .i64 e2'] := by
              rw [hw5]
              exact ((BB.out.keeps K4.out (fun h => h)).far (by show wr.heap.size ≠ w.heap.size; omega) _).far (by show wr.heap.size ≠ w.heap.size; omega) _
            have o5 : Own wid w5 0 62 (.slice (some ⟨w.heap.size + 1, 0, none⟩) n n) (nb bs (es.take k)) := by
              rw [hw5]
              exact ((OWK.out.keeps ka4 (fun _ _ h => h)).setCell _ _ (fun q hq => by simp [Value.ownBlock] at hq; subst hq; simp)).setCell _ _ (fun q hq => by simp [Value.ownBlock] at hq; subst hq; simp)
            have s5 : Blk w5 w.heap.size 62 #[.int .u64 (hi (s + e2')), .int .u64 (lo (s + e2'))] := by
              rw [hw5]
              exact (SK4.out.set 0 _).set 1 _
            have k5 : Keeps (fun _ => False) w w5 := by
              rw [hw5]
              exact ((KK.out.trans ka4 (fun _ _ h => h)).setCell _ _ (fun h => by simp at h)).setCell _ _ (fun h => by simp at h)
            obtain ⟨x, hx⟩ : ∃ x, (nb bs (es.take k))[a]? = some x := ⟨_, List.getElem?_eq_getElem (by rw [nb_length, HLN.out]; exact han)⟩
            have q0 := o5.at_ hx (j := 0) rfl
            have q1 := o5.at_ hx (j := 1) rfl
            simp [wid] at q0 q1
            have d0 := b5.cell 0
            have d1 := b5.cell 1
            simp at d0 d1
            have hl5 : wr.heap.size < w5.heap.size := b5.lt
            have B5 := Lib.hid b5
            have O5 := Lib.hid o5
            have S5 := Lib.hid s5
            have K5 := Lib.hid k5
            have HX := Lib.hid hx
            clear b5 o5 s5 k5 hx hw5 e0 e1 s0 s1 s0' s1' f0 f1 ka4
            go_region_law (first | (go_simp; go_at_call 22; refine (wadd_any x e2' HEI.out w5.drew).mono ?_
                                    rintro e w6 ⟨rfl, k6⟩
                                    have b6 := (B5.out.drew).keeps k6 (fun h => h)
                                    have o6 := (O5.out.drew).keeps k6 (fun _ _ h => h)
                                    have y0 := b6.cell 0
                                    have y1 := b6.cell 1
                                    have z0 := o6.at_ HX.out (j := 0) rfl
                                    have z1 := o6.at_ HX.out (j := 1) rfl
                                    have g0 := o6.frozen (a * 2)
                                    have g1 := o6.frozen (a * 2 + 1)
                                    simp at y0 y1
                                    simp [wid] at z0 z1
                                    have k6' : Keeps (fun _ => False) w5 w6 := ((Keeps.refl (fun _ => False) w5).drew).trans k6 (fun _ _ h => h)
                                    have O6 := Lib.hid o6
                                    have K6 := Lib.hid k6'
                                    clear b6 o6 k6 k6'))
            all_goals
              obtain ⟨w7, hw7⟩ : ∃ w7, w7 = (w6.setCell ⟨w.heap.size + 1, a * 2, none⟩ (.int .u64 (hi (x + e2')))).setCell ⟨w.heap.size + 1, a * 2 + 1, none⟩ (.int .u64 (lo (x + e2'))) := ⟨_, rfl⟩
              rw [← hw7]
              have o7 := wid_set O6.out HX.out (x + e2')
              rw [← hw7] at o7
              have s7 : Blk w7 w.heap.size 62 #[.int .u64 (hi (s + e2')), .int .u64 (lo (s + e2'))] := by
                rw [hw7]
                exact ((S5.out.keeps K6.out (fun h => h)).far (by show w.heap.size ≠ w.heap.size + 1; omega) _).far (by show w.heap.size ≠ w.heap.size + 1; omega) _
              have k7 : Keeps (fun _ => False) w w7 := by
                rw [hw7]
                exact ((K5.out.trans K6.out (fun _ _ h => h)).setCell _ _ (fun h => by simp at h; omega)).setCell _ _ (fun h => by simp at h; omega)
              have et : tot (es.take (k + 1)) = s + e2' := by rw [tot_succ HE.out, ← HS.out]
              have en : nb bs (es.take (k + 1)) = (nb bs (es.take k)).set a (x + e2') := nb_succ (e := ((a : Int), e2')) HE.out (by simp) (by simpa using HX.out)
              have ET := Lib.hid et
              have EN := Lib.hid en
              have S7 := Lib.hid s7
              have O7 := Lib.hid o7
              have K7 := Lib.hid k7
              clear hw7 o7 s7 k7 et en y0 y1 z0 z1 g0 g1 d0 d1 q0 q1
              go_wp2_with fail
              refine ⟨⟨k + 1, by omega, by go_num, fun z hz => ?_, K7.out, by rw [ET.out]; exact S7.out, by rw [EN.out]; exact O7.out⟩, by simp [intOf]; omega⟩
              rw [List.take_add_one, HE.out] at hz
              simp at hz
              rcases hz with hz | rfl
              · exact ALL.out z hz
              · exact ⟨by simp, by simp; omega⟩
          · have hE : postE bs es = 121 := postE_acc (fun h => hin (by rw [HLN.out] at h; exact h e (List.mem_of_getElem? HE.out)))
            have hT : postB bs es = bs := postB_no (by rw [hE]; decide)
            have HEE := Lib.hid hE
            have HTT := Lib.hid hT
            have hcase : decide (e.1 < 0) = true ∨ (decide (e.1 < 0) = false ∧ decide ((n : Int) ≤ e.1) = true) := by
              by_cases h : e.1 < 0
              · left; simpa using h
              · right; exact ⟨by simpa using h, by simp; omega⟩
            have hKA := KK.out.trans HKA.out (fun _ _ h => h)
            have KA := Lib.hid hKA
            rw [hwa] at e0 e1
            clear hin hE hT hwa hKA
            rcases hcase with t1 | ⟨t1, t2⟩
            all_goals
              go_wp2_with fail
              go_ret
              rw [← HWA.out, HEE.out, HTT.out]
              exact ⟨rfl, ⟨_, _, D.out.keep KA.out⟩, KA.out.mono (fun _ _ h => h.elim)⟩
        · have hkn' : k = n1 := by omega
          have hall : inAll bs.length es := by
            have := ALL.out
            rw [List.take_of_length_le (by rw [HL.out]; omega)] at this
            rw [HLN.out]
            exact this
          have hs := HS.out
          have ho := OWK.out
          rw [List.take_of_length_le (by rw [HL.out]; omega)] at hs ho
          have HALL := Lib.hid hall
          have HSS := Lib.hid hs
          have OO := Lib.hid ho
          have s0 := SK.out.cell 0
          have s1 := SK.out.cell 1
          simp at s0 s1
          have hb := tot_le OK.out
          have htest := sum_test (s := s) (by rw [hs]; have := HL.out; omega) (by rw [hs]; have := HL.out; omega)
          have hHl := OO.out.lt rfl
          clear hkn' hall hs ho HS OWK hb
          by_cases hz : s = 0
          · rw [decide_eq_true hz] at htest
            have hz' := HSS.out
            rw [hz] at hz'
            have HZ := Lib.hid hz'
            clear hz' hz HSS
            go_wp2_with fail
            obtain ⟨W1, hW1⟩ : ∃ W1, W1 = wr.alloc (.cells (madeCells #[.int .i64 0] n) 3) := ⟨_, rfl⟩
            rw [← hW1]
            have K1 : Keeps (fun _ => False) w W1 := by rw [hW1]; exact KK.out.alloc _
            have R1 : Own wid W1 0 62 (.slice (some ⟨w.heap.size + 1, 0, none⟩) n n) (nb bs es) := by rw [hW1]; exact OO.out.alloc _
            have B1 : Own (num .i64) W1 0 3 (.slice (some ⟨wr.heap.size, 0, none⟩) n n) (List.replicate n 0) := by
              rw [hW1]
              exact (Own.new wr wr.heap.size 3 (madeCells #[.int .i64 0] n) (List.replicate n 0) (by rw [made_one, all_zeros]) _ rfl (Nat.le_refl _) n (by simp) (by unfold maxLen; omega)).rebase 0 (fun _ _ => Nat.zero_le _)
            have hk1 := KK.out.size
            have K1 := Lib.hid K1
            have R1 := Lib.hid R1
            have B1 := Lib.hid B1
            clear hW1 s0 s1 htest
            go_loopw [83] (fun v wt => ∃ k : Nat, k ≤ n ∧ v = .int .i64 k ∧ (∀ x ∈ (nb bs es).take k, isInt x) ∧ Keeps (fun _ => False) w wt ∧ Own wid wt 0 62 (.slice (some ⟨w.heap.size + 1, 0, none⟩) n n) (nb bs es) ∧ Own (num .i64) wt 0 3 (.slice (some ⟨wr.heap.size, 0, none⟩) n n) ((nb bs es).take k ++ List.replicate (n - k) 0)) (fun v _ => n - (intOf v).toNat)
            case atStart => exact ⟨0, Nat.zero_le _, rfl, by simp, K1.out, R1.out, by simpa using B1.out⟩
            case round =>
              clear hk hkn
              obtain ⟨k, hk, rfl, hall, kk, rk, bk⟩ := hrel
              have AL := Lib.hid hall
              have K2 := Lib.hid kk
              have R2 := Lib.hid rk
              have B2 := Lib.hid bk
              have hln2 : (nb bs es).length = n := by rw [nb_length, HLN.out]
              have LN2 := Lib.hid hln2
              clear hall kk rk bk hln2
              by_cases hkn : k < n
              · obtain ⟨x, hx⟩ : ∃ x, (nb bs es)[k]? = some x := ⟨_, List.getElem?_eq_getElem (by rw [LN2.out]; exact hkn)⟩
                have q0 := R2.out.at_ hx (j := 0) rfl
                have q1 := R2.out.at_ hx (j := 1) rfl
                simp [wid] at q0 q1
                have hz2 : ((nb bs es).take k ++ List.replicate (n - k) 0)[k]? = some 0 := by
                  have hlk : ((nb bs es).take k).length = k := by rw [List.length_take, LN2.out]; omega
                  rw [List.getElem?_append_right (by omega), hlk, Nat.sub_self, List.getElem?_replicate]
                  rw [if_pos (by omega)]
                have hbl := nb_le D.out.ints OK.out (by rw [HL.out]; exact hn1) (List.mem_of_getElem? hx)
                have HX := Lib.hid hx
                have HZ2 := Lib.hid hz2
                have HBL := Lib.hid hbl
                have hwl := R2.out.lt rfl
                clear hx hz2 hbl
                by_cases hi' : isInt x
                · have ti : decide (isInt x) = true := by simpa using hi'
                  have HI := Lib.hid hi'
                  clear hi'
                  go_wp2_with (go_at_call 23; refine (small_any x HBL.out.1 HBL.out.2 _).mono ?_
                               rintro e w4 ⟨m, rfl, hm, k4⟩
                               rw [HI.out |> hm, ti]
                               have b4 := (B2.out.alloc (.cells #[.int .u64 (hi x), .int .u64 (lo x)] 62)).keeps k4 (fun _ _ h => h)
                               have r4 := (R2.out.alloc (.cells #[.int .u64 (hi x), .int .u64 (lo x)] 62)).keeps k4 (fun _ _ h => h)
                               have k4' := (K2.out.alloc (.cells #[.int .u64 (hi x), .int .u64 (lo x)] 62)).trans k4 (fun _ _ h => h)
                               have f0 := b4.frozen k
                               have f1 := b4.at_ HZ2.out (j := 0) rfl
                               simp [num] at f1
                               have B4 := Lib.hid b4
                               have R4 := Lib.hid r4
                               have K4 := Lib.hid k4'
                               clear b4 r4 k4 k4')
                  have o5 := B4.out.store (j := 0) (y := x) (u := .int .i64 x) HZ2.out (by decide) rfl
                  simp only [num, Nat.mul_one, Nat.add_zero] at o5
                  refine ⟨⟨k + 1, by omega, by go_num, fun z hz => ?_, K4.out.setCell _ _ (fun h => by simp at h; omega), R4.out.setCell _ _ (fun q hq => by simp [Value.ownBlock] at hq; subst hq; simp; omega), ?_⟩, by simp [intOf]; omega⟩
                  · rw [List.take_add_one, HX.out] at hz
                    simp at hz
                    rcases hz with hz | rfl
                    · exact AL.out z hz
                    · exact HI.out
                  · have hlk : ((nb bs es).take k).length = k := by rw [List.length_take, LN2.out]; omega
                    have e : (nb bs es).take (k + 1) ++ List.replicate (n - (k + 1)) 0 = ((nb bs es).take k ++ List.replicate (n - k) 0).set k x := by
                      rw [List.take_add_one, HX.out, List.set_append_right _ _ (by omega), hlk, Nat.sub_self, show n - k = (n - (k + 1)) + 1 by omega, List.replicate_succ]
                      simp
                    rw [e]
                    exact o5
                · have ti : decide (isInt x) = false := by simpa using hi'
                  have hE : postE bs es = 100 := postE_money HALL.out HZ.out.symm (fun h => hi' (h x (List.mem_of_getElem? HX.out)))
                  have hT : postB bs es = bs := postB_no (by rw [hE]; decide)
                  have HEE := Lib.hid hE
                  have HTT := Lib.hid hT
                  clear hi' hE hT
                  go_wp2_with (go_at_call 23; refine (small_any x HBL.out.1 HBL.out.2 _).mono ?_
                               rintro e w4 ⟨m, rfl, hm, k4⟩
                               rw [ti]
                               have k4' := (K2.out.alloc (.cells #[.int .u64 (hi x), .int .u64 (lo x)] 62)).trans k4 (fun _ _ h => h)
                               have K4 := Lib.hid k4'
                               clear k4 k4' hm)
                  go_ret
                  rw [HEE.out, HTT.out]
                  exact ⟨rfl, ⟨_, _, D.out.keep K4.out⟩, K4.out.mono (fun _ _ h => h.elim)⟩
              · have hkn' : k = n := by omega
                have hall : allInt (nb bs es) := by
                  have := AL.out
                  rw [List.take_of_length_le (by rw [LN2.out]; omega)] at this
                  exact this
                have hbal := B2.out
                rw [hkn', Nat.sub_self, List.take_of_length_le (by rw [LN2.out]; exact Nat.le_refl _), List.replicate_zero, List.append_nil] at hbal
                have hbox := D.out.keep K2.out
                have g0 := hbox.box.cell 0
                have g1 := hbox.box.frozen 0
                simp at g0
                have hE : postE bs es = 0 := postE_ok HALL.out HZ.out.symm hall
                have hT : postB bs es = nb bs es := postB_ok hE
                have HEE := Lib.hid hE
                have HTT := Lib.hid hT
                have HBAL := Lib.hid hbal
                have HBOX := Lib.hid hbox
                have HAI := Lib.hid hall
                clear hkn' hall hbal hbox hE hT B2
                go_wp2_with fail
                go_ret
                rw [HEE.out, HTT.out]
                exact ⟨rfl, ⟨_, _, HBOX.out.box.set 0 _, HBAL.out.setCell _ _ (fun q hq => by simp [Value.ownBlock] at hq; subst hq; simp; omega), HAI.out, hone, hf⟩, (K2.out.mono (S' := fun b => b = g) (fun _ _ h => h.elim)).setCell _ _ (fun _ => rfl)⟩
          · rw [decide_eq_false hz] at htest
            have hE : postE bs es = 120 := postE_sum HALL.out (by rw [← HSS.out]; exact hz)
            have hT : postB bs es = bs := postB_no (by rw [hE]; decide)
            have HEE := Lib.hid hE
            have HTT := Lib.hid hT
            clear hz hE hT HSS
            go_wp2_with fail
            go_ret
            rw [HEE.out, HTT.out]
            exact ⟨rfl, ⟨_, _, D.out.keep KK.out⟩, KK.out.mono (fun _ _ h => h.elim)⟩
end Go.Proofs.Ytklcooepolmemaa
