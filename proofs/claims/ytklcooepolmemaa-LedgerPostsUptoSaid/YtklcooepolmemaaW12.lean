/- The document's posting: walked. -/
import Derived.Test.YtklcooepolmemaaW11
import Derived.StillTailTactics
namespace Go.Proofs.Ytklcooepolmemaa
open Go.RowKit Mem
theorem ofA_lt {a : Nat} {es : List (Int × Int)} {i : Nat} (hok : ∀ e ∈ es, okE e) (hn : es.length ≤ 1048576) {b : Int} (hb : isInt b) : -4611686018427387904 ≤ rh (b + ofA a (es.take i)) ∧ rh (b + ofA a (es.take i)) ≤ 4611686018427387904 := by
  have h := ofA_le a (es := es.take i) (fun e he => hok e (List.mem_of_mem_take he))
  have hl : (es.take i).length ≤ 1048576 := Nat.le_trans (List.length_take_le' _ _) hn
  unfold isInt at hb
  exact rh_range (by omega) (by omega)
theorem mem_take {es : List (Int × Int)} {k : Nat} (hok : ∀ e ∈ es, okE e) : ∀ e ∈ es.take k, okE e := fun e h => hok e (List.mem_of_mem_take h)
theorem rh_tot {es : List (Int × Int)} {b : Int} (hb : isInt b) (hn : es.length ≤ 1048576) {t : Int} (ht : -(es.length * 9223372036854775808) ≤ t ∧ t ≤ es.length * 9223372036854775808) : -4611686018427387904 ≤ rh (b + t) ∧ rh (b + t) ≤ 4611686018427387904 := by
  unfold isInt at hb
  exact rh_range (by omega) (by omega)
set_option maxRecDepth 100000 in
set_option maxHeartbeats 6400000 in
theorem refPost_any {w : World} {g : Nat} {A : Option Addr} {n c : Nat} {bs : List Int} (d : RLed w g A n c bs) (es : List (Int × Int)) (A1 : Option Addr) (n1 c1 : Nat) (hr : Reads entry w A1 n1 es) (hok : ∀ e ∈ es, okE e) (hn1 : n1 ≤ 1048576) :
    Calls Try.prog 14 #[.pointer (some ⟨g, 0, none⟩), .slice A1 n1 c1] w fun e w' => e = .returned (.int .i64 (postE bs es)) ∧ (∃ A' c', RLed w' g A' n c' (postB bs es)) ∧ Keeps (fun b => b = g) w w' := by
  have hl := hr.1
  have hln : bs.length = n := d.row.len_eq rfl
  have c0 := d.box.cell 0
  simp at c0
  have HL := Lib.hid hl
  have HLN := Lib.hid hln
  have HR := Lib.hid hr
  have D := Lib.hid d
  have OK := Lib.hid hok
  have hf := d.few
  have hone := d.one
  have hgl := d.box.lt
  obtain ⟨w1, hw1⟩ : ∃ w1, w1 = w.alloc (.cells #[.int .i64 0, .int .i64 0] 69) := ⟨_, rfl⟩
  have K1 := Lib.hid (show Keeps (fun _ => False) w w1 by rw [hw1]; exact (Keeps.refl _ w).alloc _)
  have S1 := Lib.hid (show Blk w1 w.heap.size 69 #[.int .i64 0, .int .i64 0] by rw [hw1]; exact Blk.new w 69 _ _ rfl)
  have HW1 := Lib.hid hw1
  clear d hl hln hr hok hw1
  go_enter Try.func14, Try.ntmps14
  go_wp2_with fail
  rw [← HW1.out]
  go_loopw [6] (fun v wr => ∃ k : Nat, k ≤ n1 ∧ v = .int .i64 k ∧ inAll n (es.take k) ∧ Keeps (fun _ => False) w wr ∧ Blk wr w.heap.size 69 #[.int .i64 (rh (tot (es.take k))), .int .i64 (rl (tot (es.take k)))]) (fun v _ => n1 - (intOf v).toNat)
  case atStart => exact ⟨0, Nat.zero_le _, rfl, by unfold inAll; simp, K1.out, S1.out⟩
  case round =>
    clear K1 S1
    obtain ⟨k, hk, rfl, hall, kk, sk⟩ := hrel
    obtain ⟨s, hs⟩ : ∃ s, s = tot (es.take k) := ⟨_, rfl⟩
    rw [← hs] at sk
    have hgl2 := sk.lt
    have c0' := kk.cell (fun h => h) c0
    have HCW := Lib.hid c0
    have ALL := Lib.hid hall
    have KK := Lib.hid kk
    have SK := Lib.hid sk
    have HS := Lib.hid hs
    clear hall kk sk hs c0
    by_cases hkn : k < n1
    · obtain ⟨⟨x, y⟩, he⟩ : ∃ e, es[k]? = some e := ⟨_, List.getElem?_eq_getElem (by rw [HL.out]; exact hkn)⟩
      obtain ⟨ad, hA, hc⟩ := HR.out.at_ he
      subst hA
      have v0 := hc 0 _ rfl
      have v1 := hc 1 _ rfl
      simp [entry] at v0 v1
      rw [← add_add, add_pos _ (by decide : 0 < 1)] at v1
      have p0 := KK.out.cell (fun h => h) v0
      have p1 := KK.out.cell (fun h => h) v1
      have s0 := SK.out.cell 0
      have s1 := SK.out.cell 1
      simp at s0 s1
      have HE := Lib.hid he
      have HV1 := Lib.hid v1
      clear hc he v0 v1
      by_cases hin : 0 ≤ x ∧ x < n
      · obtain ⟨a, ha⟩ : ∃ a : Nat, x = a := ⟨x.toNat, by omega⟩
        have han : a < n := by omega
        subst ha
        have t1 : decide ((a : Int) < 0) = false := by simp
        have t2 : decide ((n : Int) ≤ (a : Int)) = false := by simp; omega
        have t3 : decide (n ≤ a) = false := by simp; omega
        have hei := (OK.out _ (List.mem_of_getElem? HE.out)).2
        have HEI := Lib.hid hei
        have hrr := rh_tot (b := 0) (by decide) (by rw [List.length_take, HL.out]; omega) (tot_le (mem_take (k := k) OK.out))
        rw [← HS.out, Int.zero_add] at hrr
        have hrl := rl_range s
        have hry : 0 ≤ y % 4294967296 ∧ y % 4294967296 < 4294967296 := by omega
        have hrz : -2147483648 ≤ y / 4294967296 ∧ y / 4294967296 ≤ 2147483647 := by simp only at hei; unfold isInt at hei; omega
        have HRR := Lib.hid (And.intro hrr (And.intro hrl (And.intro hry hrz)))
        have et := tot_succ HE.out
        rw [← HS.out] at et
        have ET := Lib.hid et
        clear hin hei et hrr hrl hry hrz
        go_wp2_with fail
        go_quiet (fail)
        go_wp2_with fail
        obtain ⟨wq, hwq⟩ : ∃ wq, wq = wr.drewN nq := ⟨_, rfl⟩
        rw [← hwq]
        have KQ := Lib.hid (show Keeps (fun _ => False) w wq by rw [hwq]; exact KK.out.drewN nq)
        have SQ := Lib.hid (show Blk wq w.heap.size 69 #[.int .i64 (rh s), .int .i64 (rl s)] by rw [hwq]; exact SK.out.drewN nq)
        have s0 := SQ.out.cell 0
        have s1 := SQ.out.cell 1
        simp at s0 s1
        have p1 := KQ.out.cell (fun h => h) HV1.out
        clear hwq
        go_still_tail 6, (by kernel_rfl)
        go_wp2_with (first
          | (go_at_call 25; refine (radd_any (rh s) (rl s) y HEI.out HRR.out.1 ⟨HRR.out.2.1.1, by have := HRR.out; omega⟩ _).mono ?_
             rintro e w3 ⟨rfl, k3⟩
             have K3 := Lib.hid ((KQ.out.drew).trans k3 (fun _ _ h => h))
             have B3 := Lib.hid ((SQ.out.drew).keeps k3 (fun h => h))
             clear k3)
          | (go_at_call 26; refine (reven_any (rh s + y / 4294967296) (rl s + y % 4294967296) (by have := HRR.out; omega) (by have := HRR.out; omega) _).mono ?_
             rintro e w4 ⟨rfl, k4⟩
             rw [(r_add s y).1, (r_add s y).2]
             have b4 := B3.out.keeps k4 (fun h => h)
             have j0 := b4.cell 0
             have j1 := b4.cell 1
             have f0 := b4.frozen 0
             have f1 := b4.frozen 1
             simp at j0 j1
             have K4 := Lib.hid (K3.out.trans k4 (fun _ _ h => h))
             have B4 := Lib.hid b4
             clear k4 b4))
        refine ⟨⟨k + 1, by omega, by go_num, fun z hz => ?_, (K4.out.setCell _ _ (fun h => by simp at h)).setCell _ _ (fun h => by simp at h), ?_⟩, by simp [intOf]; omega⟩
        · rw [List.take_add_one, HE.out] at hz
          simp at hz
          rcases hz with hz | rfl
          · exact ALL.out z hz
          · exact ⟨by simp, by simp; omega⟩
        · rw [ET.out]
          exact (B4.out.set 0 _).set 1 _
      · have hE : postE bs es = 121 := postE_acc (fun h => hin (by rw [HLN.out] at h; exact h _ (List.mem_of_getElem? HE.out)))
        have hT : postB bs es = bs := postB_no (by rw [hE]; decide)
        have HEE := Lib.hid hE
        have HTT := Lib.hid hT
        have hcase : decide (x < 0) = true ∨ (decide (x < 0) = false ∧ decide ((n : Int) ≤ x) = true) := by
          by_cases h : x < 0
          · left; simpa using h
          · right; exact ⟨by simpa using h, by simp; omega⟩
        clear hin hE hT
        rcases hcase with t1 | ⟨t1, t2⟩
        all_goals
          go_wp2_with fail
          go_quiet (fail)
          go_wp2_with fail
          go_ret
          rw [HEE.out, HTT.out]
          exact ⟨rfl, ⟨_, _, D.out.keep (KK.out.drewN _)⟩, (KK.out.drewN _).mono (fun _ _ h => h.elim)⟩
    · have hall : inAll bs.length es := by
        have := ALL.out
        rw [List.take_of_length_le (by rw [HL.out]; omega)] at this
        rw [HLN.out]
        exact this
      have hs := HS.out
      rw [List.take_of_length_le (by rw [HL.out]; omega)] at hs
      have HALL := Lib.hid hall
      have HSS := Lib.hid hs
      have s0 := SK.out.cell 0
      have s1 := SK.out.cell 1
      simp at s0 s1
      have hrl := rl_range s
      clear hall hs HS
      by_cases hz : s = 0
      · have hz0 := (r_zero s).2 hz
        rw [hz0.1] at s0
        rw [hz0.2] at s1
        have hz' := HSS.out
        rw [hz] at hz'
        have HZ := Lib.hid hz'
        clear hz' hz HSS hz0 hrl
        go_wp2_with fail
        obtain ⟨w2, hw2⟩ : ∃ w2, w2 = wr.alloc (.cells #[] 3) := ⟨_, rfl⟩
        rw [← hw2]
        have hzr := KK.out.size
        have K2 := Lib.hid (show Keeps (fun _ => False) w w2 by rw [hw2]; exact KK.out.alloc _)
        have O2 := Lib.hid (show Own (num .i64) w2 w.heap.size 3 (.slice (some ⟨wr.heap.size, 0, none⟩) 0 0) ((nb bs es).take 0) by
          rw [hw2, List.take_zero]
          exact (own_empty (num .i64) wr 3 wr.heap.size _ rfl (Nat.le_refl _)).rebase _ (fun q hq => by simp [Value.ownBlock] at hq; omega))
        have hln2 : (nb bs es).length = n := by rw [nb_length, HLN.out]
        have LN2 := Lib.hid hln2
        have mm : True := trivial
        clear hw2 s0 s1 hln2
        go_loopw [7, 8] (fun u v wt => ∃ a : Nat, a ≤ n ∧ v = .int .i64 a ∧ (∀ x ∈ (nb bs es).take a, isInt x) ∧ Keeps (fun _ => False) w wt ∧ Own (num .i64) wt w.heap.size 3 u ((nb bs es).take a)) (fun _ v _ => n - (intOf v).toNat)
        case atStart => exact ⟨0, Nat.zero_le _, rfl, by simp, K2.out, O2.out⟩
        case round =>
          clear K2 O2 KK SK c0'
          obtain ⟨a, ha, rfl, hall, kk, ho⟩ := hrel
          have hla : ((nb bs es).take a).length = a := by rw [List.length_take, LN2.out]; omega
          obtain ⟨A7, c7, hv7, _⟩ := Own.val ho hla
          subst hv7
          have AL := Lib.hid hall
          have K2 := Lib.hid kk
          have O2 := Lib.hid ho
          have LA := Lib.hid hla
          have c0' := kk.cell (fun h => h) HCW.out
          clear hall kk ho hla
          by_cases han : a < n
          · obtain ⟨b, hb⟩ : ∃ b, bs[a]? = some b := ⟨_, List.getElem?_eq_getElem (by rw [HLN.out]; exact han)⟩
            have hbi := D.out.ints b (List.mem_of_getElem? hb)
            obtain ⟨ab, hA, hc⟩ := (own_reads D.out.row).at_ hb
            subst hA
            have q0 := K2.out.cell (fun h => h) (hc 0 _ rfl)
            simp [num] at q0
            have hx : (nb bs es)[a]? = some (b + ofA a es) := by rw [nb_get, hb]; rfl
            have HX := Lib.hid hx
            have HBI := Lib.hid hbi
            have mb : 0 ≤ b % 4294967296 ∧ b % 4294967296 < 4294967296 := by omega
            have eb : b % 4294967296 = rl b ∧ b / 4294967296 = rh b := ⟨rfl, rfl⟩
            have EB := Lib.hid eb
            clear hc hb hbi hx eb
            go_wp2_with (go_at_call 25; clear mm; refine (radd_any 0 0 b HBI.out (by omega) (by omega) _).mono ?_
                         rintro e w3 ⟨rfl, k3⟩
                         rw [Int.zero_add, Int.zero_add, EB.out.1, EB.out.2]
                         have K3 := Lib.hid (K2.out.trans k3 (fun _ _ h => h))
                         have O3 := Lib.hid (O2.out.keeps k3 (fun _ _ h => h))
                         have hz3 := K3.out.size
                         clear k3)
            obtain ⟨w4, hw4⟩ : ∃ w4, w4 = w3.alloc (.cells #[.int .i64 (rh b), .int .i64 (rl b)] 69) := ⟨_, rfl⟩
            rw [← hw4]
            have K4 := Lib.hid (show Keeps (fun _ => False) w w4 by rw [hw4]; exact K3.out.alloc _)
            have O4 := Lib.hid (show Own (num .i64) w4 w.heap.size 3 (.slice A7 a c7) ((nb bs es).take a) by rw [hw4]; exact O3.out.alloc _)
            have S4 := Lib.hid (show Blk w4 w3.heap.size 69 #[.int .i64 (rh (b + ofA a (es.take 0))), .int .i64 (rl (b + ofA a (es.take 0)))] by
              rw [hw4, List.take_zero]
              show Blk _ _ _ #[.int .i64 (rh (b + 0)), .int .i64 (rl (b + 0))]
              rw [Int.add_zero]
              exact Blk.new w3 69 _ _ rfl)
            clear hw4 q0
            go_wp2_with fail
            go_loopw [10] (fun v wt => ∃ i : Nat, i ≤ n1 ∧ v = .int .i64 i ∧ Keeps (fun _ => False) w wt ∧ Own (num .i64) wt w.heap.size 3 (.slice A7 a c7) ((nb bs es).take a) ∧ Blk wt w3.heap.size 69 #[.int .i64 (rh (b + ofA a (es.take i))), .int .i64 (rl (b + ofA a (es.take i)))]) (fun v _ => n1 - (intOf v).toNat)
            case atStart => exact ⟨0, Nat.zero_le _, rfl, K4.out, O4.out, S4.out⟩
            case round =>
              clear K4 O4 S4
              obtain ⟨i, hi, rfl, kk, ho, sk⟩ := hrel
              obtain ⟨s, hs⟩ : ∃ s, s = b + ofA a (es.take i) := ⟨_, rfl⟩
              rw [← hs] at sk
              have hrr := ofA_lt (a := a) (i := i) OK.out (by rw [HL.out]; exact hn1) HBI.out
              rw [← hs] at hrr
              have hrl := rl_range s
              have K5 := Lib.hid kk
              have O5 := Lib.hid ho
              have S5 := Lib.hid sk
              have HS := Lib.hid hs
              have s0 := sk.cell 0
              have s1 := sk.cell 1
              simp at s0 s1
              clear kk ho sk hs
              by_cases hin : i < n1
              · obtain ⟨⟨x, y⟩, he⟩ : ∃ e, es[i]? = some e := ⟨_, List.getElem?_eq_getElem (by rw [HL.out]; exact hin)⟩
                obtain ⟨ad, hA, hc⟩ := HR.out.at_ he
                subst hA
                have v0 := hc 0 _ rfl
                have v1 := hc 1 _ rfl
                simp [entry] at v0 v1
                rw [← add_add, add_pos _ (by decide : 0 < 1)] at v1
                have p0 := K5.out.cell (fun h => h) v0
                have p1 := K5.out.cell (fun h => h) v1
                have eo := ofA_succ he a
                have EO := Lib.hid eo
                have hei := (OK.out _ (List.mem_of_getElem? he)).2
                have HEI := Lib.hid hei
                have hry : 0 ≤ y % 4294967296 ∧ y % 4294967296 < 4294967296 := by omega
                have hrz : -2147483648 ≤ y / 4294967296 ∧ y / 4294967296 ≤ 2147483647 := by simp only at hei; unfold isInt at hei; omega
                have HRR := Lib.hid (And.intro hrr (And.intro hrl (And.intro hry hrz)))
                clear hc he v0 v1 eo hei hrr hrl hry hrz
                by_cases hxa : x = (a : Int)
                · subst hxa
                  have es' : b + ofA a (es.take (i + 1)) = s + y := by rw [EO.out, HS.out]; simp only [if_true]; omega
                  have ES := Lib.hid es'
                  clear es'
                  go_wp2_with fail
                  go_still_tail 6, (by kernel_rfl)
                  go_wp2_with (first
                    | (go_at_call 25; refine (radd_any (rh s) (rl s) y HEI.out HRR.out.1 ⟨HRR.out.2.1.1, by have := HRR.out; omega⟩ _).mono ?_
                       rintro e w6 ⟨rfl, k6⟩
                       have O6 := Lib.hid ((O5.out.drew).keeps k6 (fun _ _ h => h))
                       have K6 := Lib.hid ((K5.out.drew).trans k6 (fun _ _ h => h))
                       have B6 := Lib.hid ((S5.out.drew).keeps k6 (fun h => h))
                       clear k6)
                    | (go_at_call 26; refine (reven_any (rh s + y / 4294967296) (rl s + y % 4294967296) (by have := HRR.out; omega) (by have := HRR.out; omega) _).mono ?_
                       rintro e w7 ⟨rfl, k7⟩
                       rw [(r_add s y).1, (r_add s y).2]
                       have b7 := B6.out.keeps k7 (fun h => h)
                       have j0 := b7.cell 0
                       have j1 := b7.cell 1
                       have f0 := b7.frozen 0
                       have f1 := b7.frozen 1
                       simp at j0 j1
                       have O7 := Lib.hid (O6.out.keeps k7 (fun _ _ h => h))
                       have K7 := Lib.hid (K6.out.trans k7 (fun _ _ h => h))
                       have B7 := Lib.hid b7
                       clear k7 b7))
                  refine ⟨⟨i + 1, by omega, by go_num, (K7.out.setCell _ _ (fun h => by simp at h; omega)).setCell _ _ (fun h => by simp at h; omega), ?_, ?_⟩, by simp [intOf]; omega⟩
                  · have hne : ∀ q, (Value.slice A7 a c7).ownBlock = some q → q ≠ w3.heap.size := fun q hq e => by rw [e] at hq; exact O7.out.blk_ne B7.out (by decide) hq
                    exact (O7.out.setCell ⟨w3.heap.size, 0, none⟩ _ hne).setCell ⟨w3.heap.size, 1, none⟩ _ hne
                  · rw [ES.out]
                    exact (B7.out.set 0 _).set 1 _
                · have es' : b + ofA a (es.take (i + 1)) = s := by rw [EO.out, HS.out]; simp only [if_neg hxa]; omega
                  have ES := Lib.hid es'
                  have tx : (x == (a : Int)) = false := by simpa using hxa
                  clear es' hxa
                  go_wp2_with fail
                  refine ⟨⟨i + 1, by omega, by go_num, K5.out, O5.out, by rw [ES.out]; exact S5.out⟩, by simp [intOf]; omega⟩
              · have hs := HS.out
                rw [List.take_of_length_le (by rw [HL.out]; omega)] at hs
                have HSS := Lib.hid hs
                clear hs HS
                by_cases hsi : isInt s
                · have HSI := Lib.hid hsi
                  have hz5 := K5.out.size
                  clear hsi
                  go_wp2_with (first
                    | (go_at_call 27; refine (rfits_yes s HSI.out _).mono ?_
                       rintro e w6 ⟨rfl, k6⟩
                       have O6 := Lib.hid (O5.out.keeps k6 (fun _ _ h => h))
                       have K6 := Lib.hid (K5.out.trans k6 (fun _ _ h => h))
                       have hz6 := K6.out.size
                       clear k6)
                    | (at_builtin; refine wp_append elem3 (by rfl) (.tmp 97) (.tmp 99) (by rfl) w.heap.size (.slice A7 a c7) ((nb bs es).take a) [s] (some ⟨w6.heap.size, 0, none⟩) 1 1 rfl rfl (O6.out.alloc _) ((Blk.new w6 3 _ _ rfl).reads _ rfl rfl) (by rw [LA.out]; omega) (by rw [LA.out]; simp [maxLen]; omega) (by simp; omega) ?_
                       intro v8 w8 own8 gr8 at8
                       have K8 := Lib.hid (own_grow (K6.out.alloc _) gr8 (fun q hq => O6.out.base_le hq))
                       have O8 := Lib.hid own8
                       clear own8 gr8 at8))
                  refine ⟨⟨a + 1, by omega, by go_num, fun z hz => ?_, K8.out, ?_⟩, by simp [intOf]; omega⟩
                  · rw [List.take_add_one, HX.out, ← HSS.out] at hz
                    simp at hz
                    rcases hz with hz | rfl
                    · exact AL.out z hz
                    · exact HSI.out
                  · rw [List.take_add_one, HX.out, ← HSS.out]
                    exact O8.out
                · have hE : postE bs es = 100 := postE_money HALL.out HZ.out.symm (fun h => hsi (by rw [HSS.out]; exact h _ (List.mem_of_getElem? HX.out)))
                  have hT : postB bs es = bs := postB_no (by rw [hE]; decide)
                  have HEE := Lib.hid hE
                  have HTT := Lib.hid hT
                  have HSI := Lib.hid hsi
                  have HRR := Lib.hid hrr
                  clear hsi hE hT hrr
                  go_wp2_with (go_at_call 27; refine (rfits_no s HSI.out HRR.out.1 HRR.out.2 _).mono ?_
                               rintro e w6 ⟨rfl, k6⟩
                               have K6 := Lib.hid (K5.out.trans k6 (fun _ _ h => h))
                               clear k6)
                  go_ret
                  rw [HEE.out, HTT.out]
                  exact ⟨rfl, ⟨_, _, D.out.keep K6.out⟩, K6.out.mono (fun _ _ h => h.elim)⟩
          · have hall : allInt (nb bs es) := by
              have := AL.out
              rw [List.take_of_length_le (by rw [LN2.out]; omega)] at this
              exact this
            obtain rfl : a = n := by omega
            have hbal := O2.out
            rw [List.take_of_length_le (by rw [LN2.out]; exact Nat.le_refl _)] at hbal
            have hbox := D.out.keep K2.out
            have g1 := hbox.box.frozen 0
            have hE : postE bs es = 0 := postE_ok HALL.out HZ.out.symm hall
            have hT : postB bs es = nb bs es := postB_ok hE
            have HEE := Lib.hid hE
            have HTT := Lib.hid hT
            have HBAL := Lib.hid hbal
            have HBOX := Lib.hid hbox
            have HAI := Lib.hid hall
            clear hall hbal hbox hE hT han
            go_wp2_with fail
            go_ret
            rw [HEE.out, HTT.out]
            exact ⟨rfl, ⟨_, _, HBOX.out.box.set 0 _, (HBAL.out.setCell ⟨g, 0, none⟩ _ (fun q hq e => by rw [show q = g from e] at hq; exact HBAL.out.blk_ne HBOX.out.box (by decide) hq)).rebase 0 (fun _ _ => Nat.zero_le _), HAI.out, hone, hf⟩, (K2.out.mono (S' := fun b => b = g) (fun _ _ h => h.elim)).setCell _ _ (fun _ => rfl)⟩
      · have hE : postE bs es = 120 := postE_sum HALL.out (by rw [← HSS.out]; exact hz)
        have hT : postB bs es = bs := postB_no (by rw [hE]; decide)
        have HEE := Lib.hid hE
        have HTT := Lib.hid hT
        have hcase : ((rh s == 0) = false) ∨ ((rh s == 0) = true ∧ (rl s == 0) = false) := by
          by_cases h : rh s = 0
          · right
            exact ⟨by simpa using h, by simp; exact fun h' => hz ((r_zero s).1 ⟨h, h'⟩)⟩
          · left; simpa using h
        clear hz hE hT HSS
        rcases hcase with t1 | ⟨t1, t2⟩
        all_goals
          go_wp2_with fail
          go_ret
          rw [HEE.out, HTT.out]
          exact ⟨rfl, ⟨_, _, D.out.keep KK.out⟩, KK.out.mono (fun _ _ h => h.elim)⟩
end Go.Proofs.Ytklcooepolmemaa
