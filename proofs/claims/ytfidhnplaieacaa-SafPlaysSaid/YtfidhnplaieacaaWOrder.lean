/- What was put is done in that order: walked. -/
import Derived.Test.YtfidhnplaieacaaW10
import Derived.Deep.DeepCutAuto
namespace Go.Proofs.Ytfidhnplaieacaa
open Go.RowKit Mem
theorem nameB_test (i j : Nat) (hi : i ≤ 100) (hj : j ≤ 100) : ((nameB i).toList == (nameB j).toList) = decide (i = j) := by
  unfold nameB
  rw [strB_test (by simp; omega) (by simp; omega)]
  congr 1
  simp
  omega
/-- The names that wait. -/
def Waits (l : List AD) (d p : Nat) : Prop := l.map AD.name = (List.range' d (p - d)).map nameB
theorem Waits.len {l : List AD} {d p : Nat} (h : Waits l d p) : l.length = p - d := by
  have := congrArg List.length h
  simpa using this
theorem Waits.hasN_no {l : List AD} {d p : Nat} (h : Waits l d p) (hp : p ≤ 41) (hd : d ≤ p) : hasN l (nameB p) = false := by
  unfold hasN
  rw [List.any_eq_false]
  intro a ha hx
  have h1 : a.name ∈ l.map AD.name := List.mem_map_of_mem ha
  rw [h, List.mem_map] at h1
  obtain ⟨i, hi, hn⟩ := h1
  rw [List.mem_range'_1] at hi
  rw [← hn, nameB_test i p (by omega) (by omega)] at hx
  simp at hx
  omega
theorem Waits.put {l : List AD} {d p : Nat} (h : Waits l d p) (hd : d ≤ p) {a : AD} (ha : a.name = nameB p) : Waits (l ++ [a]) d (p + 1) := by
  unfold Waits at *
  rw [List.map_append, h, show p + 1 - d = (p - d) + 1 by omega, List.range'_concat]
  simp [ha]
  congr 1
  omega
theorem Waits.first {l : List AD} {d p : Nat} (h : Waits l d p) (hd : d < p) : ∃ a l', l = a :: l' ∧ a.name = nameB d ∧ Waits l' (d + 1) p := by
  cases l with
  | nil => have := h.len; simp at this; omega
  | cons a l' =>
    unfold Waits at *
    rw [show p - d = (p - (d + 1)) + 1 by omega, List.range'_succ, List.map_cons, List.map_cons] at h
    injection h with h1 h2
    exact ⟨a, l', rfl, h1, h2⟩
theorem name_at (x : Int) (n : Nat) (hx : x = n) (hn : n ≤ 100) (w : World) : Calls Try.prog 9 #[.int .i64 x] w fun e w' => e = .returned (.string (nameB n)) ∧ Keeps (fun _ => False) w w' := by
  rw [hx]
  exact name_any n hn w
/-- A bool in a cell. -/
def boolE : Enc Bool where
  enc := fun b => [.bool b]
  size := 1
  len := fun _ => rfl
  one := fun x u h => by
    simp at h
    subst h
    rfl
  pos := by decide
set_option maxRecDepth 100000 in
set_option maxHeartbeats 6400000 in
theorem order_any (most names : Int) (hm : -9223372036854775808 ≤ most ∧ most ≤ 9223372036854775807) (hn : -9223372036854775808 ≤ names ∧ names ≤ 9223372036854775807) (S : Option Addr) (ns cs : Nat) (ss : List Bool) (w : World) (hr : Reads boolE w S ns ss) (hns : ns ≤ 9223372036854775807) :
    Calls Try.prog 3 #[.int .i64 most, .int .i64 names, .slice S ns cs] w fun e w' => e = .returned (.bool true) ∧ Keeps (fun _ => False) w w' := by
  obtain ⟨M, hM⟩ : ∃ M : Nat, (if most < 0 then -(most + 1) else most) = (M : Int) := ⟨((if most < 0 then -(most + 1) else most)).toNat, by split <;> omega⟩
  obtain ⟨N, hN⟩ : ∃ N : Nat, (if names < 0 then -(names + 1) else names) = (N : Int) := ⟨((if names < 0 then -(names + 1) else names)).toNat, by split <;> omega⟩
  obtain ⟨Q, hQ⟩ : ∃ Q : Nat, Q = 1 + M % 16 := ⟨_, rfl⟩
  obtain ⟨K, hK⟩ : ∃ K : Nat, K = N % 41 := ⟨_, rfl⟩
  have hQ1 : IntKind.i64.wrap (1 + (M : Int) % 16) = (Q : Int) := by rw [IntWalk.i64_in _ (by omega)]; omega
  have hQ2 : 1 + (M : Int) % 16 = (Q : Int) := by omega
  have hK1 : (N : Int) % 41 = (K : Int) := by omega
  have hQb : 1 ≤ Q ∧ Q ≤ 16 := by omega
  have hKb : K ≤ 40 := by omega
  clear hQ hK
  have HR := Lib.hid hr
  clear hr
  have hMb : (M : Int) ≤ 9223372036854775807 := by rw [← hM]; split <;> omega
  have hNb : (N : Int) ≤ 9223372036854775807 := by rw [← hN]; split <;> omega
  have start : (most < 0 ∧ IntKind.i64.wrap (most + 1) = most + 1 ∧ -(most + 1) = (M : Int) ∧ IntKind.i64.wrap (M : Int) = M) ∨ most = (M : Int) := by
    by_cases h : most < 0
    · rw [if_pos h] at hM
      exact .inl ⟨h, IntWalk.i64_in _ (by omega), hM, IntWalk.i64_in _ (by omega)⟩
    · rw [if_neg h] at hM
      exact .inr hM
  have start2 : (names < 0 ∧ IntKind.i64.wrap (names + 1) = names + 1 ∧ -(names + 1) = (N : Int) ∧ IntKind.i64.wrap (N : Int) = N) ∨ names = (N : Int) := by
    by_cases h : names < 0
    · rw [if_pos h] at hN
      exact .inl ⟨h, IntWalk.i64_in _ (by omega), hN, IntWalk.i64_in _ (by omega)⟩
    · rw [if_neg h] at hN
      exact .inr hN
  clear hM hN
  clear hm hn
  go_enter Try.func3, Try.ntmps3
  go_upto_if 21 with (
    go_at_call 6; refine (shown_any w).mono ?_
    rintro e w1 ⟨rfl, k1⟩
    have K1 := Lib.hid k1
    clear k1)
  go_cut [0] (fun v wx => v = .int .i64 M ∧ wx = w1)
  case first =>
    rcases start with ⟨h1, h2, h3, h4⟩ | rfl
    all_goals
      go_wp2_with fail
      go_meet
      exact ⟨rfl, rfl⟩
  case rest =>
    obtain ⟨rfl, rfl⟩ := hcut
    clear start
    go_upto_if 26 with fail
    go_cut [1] (fun v wx => v = .int .i64 N ∧ wx = wc)
    case first =>
      rcases start2 with ⟨h1, h2, h3, h4⟩ | rfl
      all_goals
        go_wp2_with fail
        go_meet
        exact ⟨rfl, rfl⟩
    case rest =>
      obtain ⟨rfl, rfl⟩ := hcut
      clear start2
      go_wp2_with (
        go_at_call 7; refine (newB (B := w.heap.size) Q _ hQb.1 hQb.2 K1.out.size).mono ?_
        rintro e w2 ⟨g, rfl, d2, k2⟩
        have K2 := Lib.hid (K1.out.trans k2 (fun _ _ h => h))
        have D2 := Lib.hid d2
        clear d2 k2)
      go_loopw [11, 12, 13] (fun v11 v12 v13 wr => ∃ (p d t : Nat) (A : Option Addr) (c : Nat) (l : List AD), v11 = .int .i64 p ∧ v12 = .int .i64 d ∧ v13 = .int .i64 t ∧ d ≤ p ∧ p ≤ K ∧ t ≤ 400 ∧ t ≤ d + ns ∧ QB w.heap.size wr g Q A (p - d) c false l ∧ Waits l d p ∧ Keeps (fun b => w.heap.size ≤ b) w wr) (fun _ _ v13 _ => 400 - (intOf v13).toNat)
      case atStart => exact ⟨0, 0, 0, _, _, _, rfl, rfl, rfl, Nat.le_refl _, Nat.zero_le _, by omega, by omega, D2.out, rfl, K2.out.mono (fun _ _ h => h.elim)⟩
      case round =>
        obtain ⟨p, d, t, A, c, l, rfl, rfl, rfl, hdp, hpK, ht4, htm, hq, hwt, hk⟩ := hrel
        have D3 := Lib.hid hq
        have W3 := Lib.hid hwt
        have K3 := Lib.hid hk
        have hsz := hk.size
        clear hq hwt hk
        by_cases hin : t < 400 ∧ d < K
        · obtain ⟨hin1, hin2⟩ := hin
          go_upto_if 60 with fail
          go_cut [11] (fun v wx => ∃ (p' : Nat) (A' : Option Addr) (c' : Nat) (l' : List AD), v = .int .i64 p' ∧ d < p' ∧ p' ≤ K ∧ QB w.heap.size wx g Q A' (p' - d) c' false l' ∧ Waits l' d p' ∧ Keeps (fun b => w.heap.size ≤ b) w wx)
          case first =>
            obtain ⟨m, hm⟩ : ∃ m, m = p - d := ⟨_, rfl⟩
            have d3 := D3.out
            rw [← hm] at d3
            have D3' := Lib.hid d3
            have s1 : (p : Int) - (d : Int) = (m : Int) := by omega
            have s2 : IntKind.i64.wrap ((p : Int) - (d : Int)) = (m : Int) := by rw [s1]; exact IntWalk.i64_in _ (by omega)
            have s3 : ((m : Int) == (m : Int) + 1) = false := by simp; omega
            have s4 : IntKind.i64.wrap ((m : Int) + 1) = (m : Int) + 1 := IntWalk.i64_in _ (by omega)
            have HM := Lib.hid hm
            clear d3
            by_cases hp : p < K
            · have hno := W3.out.hasN_no (by omega) hdp
              by_cases hf : m = Q
              · have E := Lib.hid (show putE l m Q (nameB p) = 3 by unfold putE; rw [hno]; simp [hf])
                clear hno hm
                go_wp2_with (first
                  | (go_at_call 10; refine (len_any D5.out.q).mono ?_
                     rintro e w6 ⟨rfl, hw6⟩
                     rw [hw6]
                     clear hw6)
                  | (go_at_call 8; refine (putB_no D4.out (nameB p) 220 none 0 0 [] (Reads.nil _ _ _) (by omega) (x := 3) E.out (by decide)).mono ?_
                     rintro e w5 ⟨rfl, k5⟩
                     have D5 := Lib.hid (D4.out.keep k5)
                     have K5 := Lib.hid (K4.out.trans k5 (fun _ _ h => h.elim))
                     clear k5)
                  | (go_at_call 9; refine (name_at _ p (by first | rfl | omega) (by omega) wr).mono ?_
                     rintro e w4 ⟨rfl, k4⟩
                     have D4 := Lib.hid (D3'.out.keep k4)
                     have K4 := Lib.hid (K3.out.trans k4 (fun _ _ h => h.elim))
                     clear k4))
                go_meet
                exact ⟨p, A, c, l, rfl, by have := HM.out; omega, hpK, by rw [← HM.out]; exact D5.out, W3.out, K5.out⟩
              · have E := Lib.hid (show putE l m Q (nameB p) = 0 by unfold putE; rw [hno]; simp [hf])
                clear hno hm
                go_wp2_with (first
                  | (go_at_call 10; refine (len_any D5.out.q).mono ?_
                     rintro e w6 ⟨rfl, hw6⟩
                     rw [hw6]
                     clear hw6)
                  | (go_at_call 8; refine (putB_ok D4.out (by have := K4.out.size; omega) (nameB p) 220 none 0 0 [] (Reads.nil _ _ _) (by omega) E.out).mono ?_
                     rintro e w5 ⟨rfl, a, A', c', hn, _, _, d5, k5, _⟩
                     have HN := Lib.hid hn
                     have D5 := Lib.hid d5
                     have K5 := Lib.hid (K4.out.trans k5 (fun _ _ h => h))
                     clear k5 d5 hn)
                  | (go_at_call 9; refine (name_at _ p (by first | rfl | omega) (by omega) wr).mono ?_
                     rintro e w4 ⟨rfl, k4⟩
                     have D4 := Lib.hid (D3'.out.keep k4)
                     have K4 := Lib.hid (K3.out.trans k4 (fun _ _ h => h.elim))
                     clear k4))
                go_meet
                exact ⟨p + 1, A', c', _, by go_num, by omega, by omega, by rw [show p + 1 - d = m + 1 by have := HM.out; omega]; exact D5.out, W3.out.put hdp HN.out, K5.out⟩
            · go_wp2_with fail
              go_meet
              exact ⟨p, A, c, l, rfl, by omega, hpK, D3.out, W3.out, K3.out⟩
          case rest =>
            obtain ⟨p', A', c', l', rfl, hdp', hpK', hq, hwt, hk⟩ := hcut
            obtain ⟨a, l'', hl, ha, hw2⟩ := hwt.first hdp'
            have D4 := Lib.hid hq
            have K4 := Lib.hid hk
            have HA := Lib.hid ha
            have W5 := Lib.hid hw2
            have HL := Lib.hid hl
            have WT := Lib.hid hwt
            have hsz4 := hk.size
            clear hq hwt hk hw2 ha hl
            by_cases hts : t < ns
            · obtain ⟨b, hb⟩ : ∃ b, ss[t]? = some b := ⟨_, List.getElem?_eq_getElem (by rw [HR.out.1]; exact hts)⟩
              obtain ⟨ad, hA, hc⟩ := (HR.out.keeps K4.out (fun ad hA h0 => by have := HR.out.lt h0 hA; omega)).at_ hb
              have hlt := HR.out.lt (by omega) hA
              subst hA
              have hcell := hc 0 _ rfl
              simp [boolE] at hcell
              have hblk : (ad.add t).block = ad.block := block_add _ _
              have hbl2 : (ad.add t).block < w.heap.size := by rw [hblk]; exact hlt
              clear hc hb hlt hblk
              cases b with
              | true =>
                go_wp2_with (first
                  | (go_at_call 13; refine (done_off D7.out.q (nameB d)).mono ?_
                     rintro e w8 ⟨rfl, hw8⟩
                     rw [hw8]
                     clear hw8)
                  | (go_at_call 9; have D6' := D6; refine (name_at _ d (by first | rfl | omega) (by omega) _).mono ?_
                     rintro e w7 ⟨rfl, k7⟩
                     have D7 := Lib.hid (D6'.out.keep k7)
                     have K7 := Lib.hid (K6.out.trans k7 (fun _ _ h => h.elim))
                     clear k7)
                  | (go_at_call 12; refine (stopB D5.out).mono ?_
                     rintro e w6 ⟨rfl, d6, k6, _⟩
                     have D6 := Lib.hid d6
                     have K6 := Lib.hid (K5.out.trans k6 (fun _ _ h => h))
                     clear d6 k6)
                  | (go_at_call 11; refine (sendB_yes D4.out HL.out).mono ?_
                     rintro e w5 ⟨A5, c5, rfl, _, d5, k5, _⟩
                     have D5 := Lib.hid d5
                     have K5 := Lib.hid (K4.out.trans k5 (fun _ _ h => h))
                     have x5 := k5.cell (fun h => by omega) hcell
                     clear d5 k5))
                exact ⟨⟨p', d, t + 1, A', c', l', rfl, rfl, by go_num, by omega, hpK', by omega, by omega, D7.out, WT.out, K7.out⟩, by simp [intOf]; omega⟩
              | false =>
                go_wp2_with (first
                  | (go_at_call 13; refine (doneB_yes D8.out HL.out (nameB d) (by rw [HA.out]; simp)).mono ?_
                     rintro e w9 ⟨rfl, d9, k9, _⟩
                     have D9 := Lib.hid d9
                     have K9 := Lib.hid (K8.out.trans k9 (fun _ _ h => h))
                     clear d9 k9)
                  | (go_at_call 13; refine (done_not D8'.out.q HL.out (nameB (d + 1)) (by rw [HA.out, nameB_test _ _ (by omega) (by omega)]; simp)).mono ?_
                     rintro e w8 ⟨rfl, hw8⟩
                     rw [hw8]
                     have D8 := D8'
                     clear hw8)
                  | (go_at_call 9; have D7' := D7; refine (name_at _ (d + 1) (by first | rfl | omega) (by omega) _).mono ?_
                     rintro e w8 ⟨rfl, k8⟩
                     have D8' := Lib.hid (D7'.out.keep k8)
                     clear D7 D7'
                     have m8 : True := trivial
                     have K8 := Lib.hid (K7.out.trans k8 (fun _ _ h => h.elim))
                     clear k8)
                  | (go_at_call 9; refine (name_at _ d (by first | rfl | omega) (by omega) _).mono ?_
                     rintro e w7 ⟨rfl, k7⟩
                     have D7 := Lib.hid (D6.out.keep k7)
                     have K7 := Lib.hid (K6.out.trans k7 (fun _ _ h => h.elim))
                     clear k7)
                  | (go_at_call 14; refine (again_yes D5.out.q HL.out).mono ?_
                     rintro e w6 ⟨A6, c6, rfl, _, _, k6⟩
                     have D6 := Lib.hid (D5.out.keep (k6.alloc (.cells #[.int .i64 a.ty, .slice A6 a.n c6] 32)))
                     have K6 := Lib.hid ((K5.out.trans k6 (fun _ _ h => h.elim)).alloc (.cells #[.int .i64 a.ty, .slice A6 a.n c6] 32))
                     rw [HA.out]
                     clear k6)
                  | (go_at_call 11; refine (sendB_yes D4.out HL.out).mono ?_
                     rintro e w5 ⟨A5, c5, rfl, _, d5, k5, _⟩
                     have D5 := Lib.hid d5
                     have x5 := k5.cell (fun h => by omega) hcell
                     have K5 := Lib.hid (K4.out.trans k5 (fun _ _ h => h))
                     clear d5 k5))
                exact ⟨⟨p', d + 1, t + 1, A', c', l'', rfl, by go_num, by go_num, by omega, hpK', by omega, by omega, by rw [show p' - (d + 1) = p' - d - 1 by omega]; exact D9.out, W5.out, K9.out⟩, by simp [intOf]; omega⟩
            · go_wp2_with (first
                | (go_at_call 13; refine (doneB_yes D8.out HL.out (nameB d) (by rw [HA.out]; simp)).mono ?_
                   rintro e w9 ⟨rfl, d9, k9, _⟩
                   have D9 := Lib.hid d9
                   have K9 := Lib.hid (K8.out.trans k9 (fun _ _ h => h))
                   clear d9 k9)
                | (go_at_call 13; refine (done_not D8'.out.q HL.out (nameB (d + 1)) (by rw [HA.out, nameB_test _ _ (by omega) (by omega)]; simp)).mono ?_
                   rintro e w8 ⟨rfl, hw8⟩
                   rw [hw8]
                   have D8 := D8'
                   clear hw8)
                | (go_at_call 9; have D7' := D7; refine (name_at _ (d + 1) (by first | rfl | omega) (by omega) _).mono ?_
                   rintro e w8 ⟨rfl, k8⟩
                   have D8' := Lib.hid (D7'.out.keep k8)
                   clear D7 D7'
                   have m8 : True := trivial
                   have K8 := Lib.hid (K7.out.trans k8 (fun _ _ h => h.elim))
                   clear k8)
                | (go_at_call 9; refine (name_at _ d (by first | rfl | omega) (by omega) _).mono ?_
                   rintro e w7 ⟨rfl, k7⟩
                   have D7 := Lib.hid (D6.out.keep k7)
                   have K7 := Lib.hid (K6.out.trans k7 (fun _ _ h => h.elim))
                   clear k7)
                | (go_at_call 14; refine (again_yes D5.out.q HL.out).mono ?_
                   rintro e w6 ⟨A6, c6, rfl, _, _, k6⟩
                   have D6 := Lib.hid (D5.out.keep (k6.alloc (.cells #[.int .i64 a.ty, .slice A6 a.n c6] 32)))
                   have K6 := Lib.hid ((K5.out.trans k6 (fun _ _ h => h.elim)).alloc (.cells #[.int .i64 a.ty, .slice A6 a.n c6] 32))
                   rw [HA.out]
                   clear k6)
                | (go_at_call 11; refine (sendB_yes D4.out HL.out).mono ?_
                   rintro e w5 ⟨A5, c5, rfl, _, d5, k5, _⟩
                   have D5 := Lib.hid d5
                   have K5 := Lib.hid (K4.out.trans k5 (fun _ _ h => h))
                   clear d5 k5))
              exact ⟨⟨p', d + 1, t + 1, A', c', l'', rfl, by go_num, by go_num, by omega, hpK', by omega, by omega, by rw [show p' - (d + 1) = p' - d - 1 by omega]; exact D9.out, W5.out, K9.out⟩, by simp [intOf]; omega⟩
        · by_cases hdK : d = K
          · have s1 : ((d : Int) == (K : Int)) = true := by simp [hdK]
            have s2 : ¬ ((d : Int) < (K : Int)) := by omega
            by_cases h4 : t < 400
            · go_wp2_with fail
              go_ret
              exact ⟨rfl, K3.out.mono (fun b hb h => by omega)⟩
            · go_wp2_with fail
              go_ret
              exact ⟨rfl, K3.out.mono (fun b hb h => by omega)⟩
          · have s1 : ((d : Int) == (K : Int)) = false := by simp; omega
            have s2 : ¬ (t < 400) := by omega
            have s3 : (300 : Int) < (ns : Int) := by omega
            go_wp2_with fail
            go_ret
            exact ⟨rfl, K3.out.mono (fun b hb h => by omega)⟩
end Go.Proofs.Ytfidhnplaieacaa
