/- How many wait, and how many more there may be: walked. -/
import Derived.Test.YtfidhnplaieacaaWOrder
import Derived.Deep.CutBlock
namespace Go.Proofs.Ytfidhnplaieacaa
open Go.RowKit Mem
/-- A call: which, of what name, with what message. -/
structure OD where
  kind : Int
  name : ByteArray
  ty : Int
  A : Option Addr
  n : Nat
  c : Nat
  fs : List FD
def opE : Enc OD where
  enc := fun o => [.int .i64 o.kind, .string o.name, .int .i64 o.ty, .slice o.A o.n o.c]
  size := 4
  len := fun _ => rfl
  one := fun x u h => by
    simp at h
    rcases h with rfl | rfl | rfl | rfl <;> rfl
  pos := by decide
theorem elem40 : Elem Try.prog 38 40 opE 56 := Elem.of Try.underlying38 (z := .agg #[.int .i64 0, .string ⟨#[]⟩, .int .i64 0, .slice none 0 0]) (by kernel_rfl) rfl
def okO (w : World) (o : OD) : Prop := (-9223372036854775808 ≤ o.kind ∧ o.kind ≤ 9223372036854775807) ∧ Reads fld w o.A o.n o.fs ∧ o.n * 24 ≤ 140737488355328
theorem okO.reads {w : World} {o : OD} (h : okO w o) : ∀ ad, o.A = some ad → 0 < o.n → ad.block < w.heap.size := fun _ hA hn => h.2.1.lt hn hA
theorem okO.keep {w wr : World} {o : OD} (h : okO w o) (K : Keeps (fun b => w.heap.size ≤ b) w wr) : Reads fld wr o.A o.n o.fs := h.2.1.keeps K (fun ad hA h0 => by have := h.2.1.lt h0 hA; omega)
set_option maxRecDepth 100000 in
set_option maxHeartbeats 6400000 in
theorem room_law (most : Int) (hm : -9223372036854775808 ≤ most ∧ most ≤ 9223372036854775807) (S : Option Addr) (ns cs : Nat) (os : List OD) (w : World) (hr : Reads opE w S ns os) (_hns : ns ≤ 9223372036854775807) (hok : ∀ o ∈ os, okO w o) :
    Calls Try.prog 4 #[.int .i64 most, .slice S ns cs] w fun e w' => e = .returned (.bool true) ∧ Keeps (fun _ => False) w w' := by
  obtain ⟨M, hM⟩ : ∃ M : Nat, (if most < 0 then -(most + 1) else most) = (M : Int) := ⟨((if most < 0 then -(most + 1) else most)).toNat, by split <;> omega⟩
  obtain ⟨Q, hQ⟩ : ∃ Q : Nat, Q = 1 + M % 16 := ⟨_, rfl⟩
  have hQ1 : IntKind.i64.wrap (1 + (M : Int) % 16) = (Q : Int) := by rw [IntWalk.i64_in _ (by omega)]; omega
  have hQ2 : 1 + (M : Int) % 16 = (Q : Int) := by omega
  have hQb : 1 ≤ Q ∧ Q ≤ 16 := by omega
  clear hQ
  have HR := Lib.hid hr
  have OK := Lib.hid hok
  clear hr hok
  have hMb : (M : Int) ≤ 9223372036854775807 := by rw [← hM]; split <;> omega
  have start : (most < 0 ∧ IntKind.i64.wrap (most + 1) = most + 1 ∧ -(most + 1) = (M : Int) ∧ IntKind.i64.wrap (M : Int) = M) ∨ most = (M : Int) := by
    by_cases h : most < 0
    · rw [if_pos h] at hM
      exact .inl ⟨h, IntWalk.i64_in _ (by omega), hM, IntWalk.i64_in _ (by omega)⟩
    · rw [if_neg h] at hM
      exact .inr hM
  clear hM hm
  go_enter Try.func4, Try.ntmps4
  go_upto_if 15 with (
    go_at_call 6; refine (shown_any w).mono ?_
    rintro e w1 ⟨rfl, k1⟩
    have K1 := Lib.hid k1
    clear k1)
  go_cut [0] (fun v wx => v = .int .i64 M ∧ wx = w1)
  case first =>
    rcases start with ⟨h1, h2, h3, h4⟩ | rfl
    all_goals
      go_wp2_with fail
      go_meet
      exact ⟨rfl, rfl⟩
  case rest =>
    obtain ⟨rfl, rfl⟩ := hcut
    clear start
    go_wp2_with (
      go_at_call 7; refine (newB (B := w.heap.size) Q _ hQb.1 hQb.2 K1.out.size).mono ?_
      rintro e w2 ⟨g, rfl, d2, k2⟩
      have K2 := Lib.hid (K1.out.trans k2 (fun _ _ h => h))
      have D2 := Lib.hid d2
      clear d2 k2)
    go_loopw [8] (fun v8 wr => ∃ (k n : Nat) (A : Option Addr) (c : Nat) (way : Bool) (l : List AD), v8 = .int .i64 k ∧ k ≤ ns ∧ k ≤ 100 ∧ QB w.heap.size wr g Q A n c way l ∧ Keeps (fun b => w.heap.size ≤ b) w wr) (fun v8 _ => ns - (intOf v8).toNat)
    case atStart => exact ⟨0, 0, _, _, _, _, rfl, Nat.zero_le _, Nat.zero_le _, D2.out, K2.out.mono (fun _ _ h => h.elim)⟩
    case round =>
      obtain ⟨k, n, A, c, way, l, rfl, hk1, hk2, hq, hkk⟩ := hrel
      have D3 := Lib.hid hq
      have K3 := Lib.hid hkk
      have hsz := hkk.size
      have hn16 : n ≤ 16 := by have := hq.q.room; omega
      clear hq hkk
      by_cases hin : k < ns ∧ k < 100
      · obtain ⟨hin1, hin2⟩ := hin
        obtain ⟨o, ho⟩ : ∃ o, os[k]? = some o := ⟨_, List.getElem?_eq_getElem (by rw [HR.out.1]; exact hin1)⟩
        have hoo := OK.out o (List.mem_of_getElem? ho)
        obtain ⟨ad, hA, hc⟩ := (HR.out.keeps K3.out (fun ad hA h0 => by have := HR.out.lt h0 hA; omega)).at_ ho
        subst hA
        have q0 := hc 0 _ rfl
        have q1 := hc 1 _ rfl
        have q2 := hc 2 _ rfl
        have q3 := hc 3 _ rfl
        simp [opE] at q0 q1 q2 q3
        rw [← add_add, add_pos _ (by decide : 0 < 1)] at q1
        rw [← add_add, add_pos _ (by decide : 0 < 2)] at q2
        rw [← add_add, add_pos _ (by decide : 0 < 3)] at q3
        have el := elem40
        have HO := Lib.hid hoo
        clear hc ho hoo
        obtain ⟨kv, hkv⟩ : ∃ kv, kv = kindOf o.kind := ⟨_, rfl⟩
        have hkr : 0 ≤ kv ∧ kv ≤ 7 := by rw [hkv]; unfold kindOf; omega
        have HKV := Lib.hid hkv
        clear hkv
        obtain ⟨w5, hw5⟩ : ∃ w5, w5 = wr.alloc (.cells #[.int .i64 o.kind, .string o.name, .int .i64 o.ty, .slice o.A o.n o.c] 40) := ⟨_, rfl⟩
        have x5 : Blk w5 wr.heap.size 40 #[.int .i64 o.kind, .string o.name, .int .i64 o.ty, .slice o.A o.n o.c] := by rw [hw5]; exact Blk.new wr 40 _ _ rfl
        have k5 : Keeps (fun _ => False) wr w5 := by rw [hw5]; exact (Keeps.refl _ wr).alloc _
        have D5 := Lib.hid (D3.out.keep k5)
        have K5 := Lib.hid (K3.out.trans k5 (fun _ _ h => h.elim))
        have HW5 := Lib.hid hw5
        have x0 := x5.cell 0
        have x1 := x5.cell 1
        have x2 := x5.cell 2
        have x3 := x5.cell 3
        simp at x0 x1 x2 x3
        clear hw5 x5 k5
        go_upto_region 13 with (
          go_at_call 10; refine (len_any D3.out.q).mono ?_
          rintro e w4 ⟨rfl, hw4⟩
          rw [hw4]
          clear hw4)
        rw [← HW5.out]
        go_upto_block 2 with (
          go_at_call 15; refine (kind_any o.kind HO.out.1 w5).mono ?_
          rintro e w4 ⟨rfl, hw4⟩
          rw [hw4, ← HKV.out]
          clear hw4)
        go_cut [9] (fun v wx => ∃ (n' : Nat) (A' : Option Addr) (c' : Nat) (way' : Bool) (l' : List AD), v = .int .i64 n' ∧ QB w.heap.size wx g Q A' n' c' way' l' ∧ Keeps (fun b => w.heap.size ≤ b) w wx)
        case first =>
          clear q0 q1 q2 q3
          rcases (show kv = 0 ∨ kv = 1 ∨ kv = 2 ∨ kv = 3 ∨ kv = 4 ∨ kv = 5 ∨ kv = 6 ∨ kv = 7 by omega) with h | h | h | h | h | h | h | h
          all_goals subst h
          · by_cases hE : putE l n Q o.name = 0
            · go_wp2_with (first
                | (go_at_call 8; refine (putB_ok D5.out (by have := K5.out.size; omega) o.name o.ty o.A o.n o.c o.fs (HO.out.keep K5.out) HO.out.2.2 hE).mono ?_
                   rintro e w6 ⟨rfl, a, A', c', _, _, _, d6, k6, _⟩
                   have D6 := Lib.hid d6
                   have K6 := Lib.hid (K5.out.trans k6 (fun _ _ h => h))
                   clear d6 k6))
              go_meet
              exact ⟨n + 1, A', c', way, l ++ [a], by first | rfl | go_num | (congr 1; omega), D6.out, K6.out⟩
            · have hx : (putE l n Q o.name == 0) = false := by simpa using hE
              go_wp2_with (first
                | (go_at_call 8; refine (putB_no D5.out o.name o.ty o.A o.n o.c o.fs (HO.out.keep K5.out) HO.out.2.2 rfl hE).mono ?_
                   rintro e w6 ⟨rfl, k6⟩
                   have D6 := Lib.hid (D5.out.keep k6)
                   have K6 := Lib.hid (K5.out.trans k6 (fun _ _ h => h.elim))
                   clear k6))
              go_meet
              exact ⟨n, A, c, way, l, by first | rfl | go_num | (congr 1; omega), D6.out, K6.out⟩
          · by_cases hE : putE l n Q o.name = 0
            · go_wp2_with (first
                | (go_at_call 8; refine (putB_ok D5.out (by have := K5.out.size; omega) o.name o.ty o.A o.n o.c o.fs (HO.out.keep K5.out) HO.out.2.2 hE).mono ?_
                   rintro e w6 ⟨rfl, a, A', c', _, _, _, d6, k6, _⟩
                   have D6 := Lib.hid d6
                   have K6 := Lib.hid (K5.out.trans k6 (fun _ _ h => h))
                   clear d6 k6))
              go_meet
              exact ⟨n + 1, A', c', way, l ++ [a], by first | rfl | go_num | (congr 1; omega), D6.out, K6.out⟩
            · have hx : (putE l n Q o.name == 0) = false := by simpa using hE
              go_wp2_with (first
                | (go_at_call 8; refine (putB_no D5.out o.name o.ty o.A o.n o.c o.fs (HO.out.keep K5.out) HO.out.2.2 rfl hE).mono ?_
                   rintro e w6 ⟨rfl, k6⟩
                   have D6 := Lib.hid (D5.out.keep k6)
                   have K6 := Lib.hid (K5.out.trans k6 (fun _ _ h => h.elim))
                   clear k6))
              go_meet
              exact ⟨n, A, c, way, l, by first | rfl | go_num | (congr 1; omega), D6.out, K6.out⟩
          · by_cases hE : putE l n Q o.name = 0
            · go_wp2_with (first
                | (go_at_call 8; refine (putB_ok D5.out (by have := K5.out.size; omega) o.name o.ty o.A o.n o.c o.fs (HO.out.keep K5.out) HO.out.2.2 hE).mono ?_
                   rintro e w6 ⟨rfl, a, A', c', _, _, _, d6, k6, _⟩
                   have D6 := Lib.hid d6
                   have K6 := Lib.hid (K5.out.trans k6 (fun _ _ h => h))
                   clear d6 k6))
              go_meet
              exact ⟨n + 1, A', c', way, l ++ [a], by first | rfl | go_num | (congr 1; omega), D6.out, K6.out⟩
            · have hx : (putE l n Q o.name == 0) = false := by simpa using hE
              go_wp2_with (first
                | (go_at_call 8; refine (putB_no D5.out o.name o.ty o.A o.n o.c o.fs (HO.out.keep K5.out) HO.out.2.2 rfl hE).mono ?_
                   rintro e w6 ⟨rfl, k6⟩
                   have D6 := Lib.hid (D5.out.keep k6)
                   have K6 := Lib.hid (K5.out.trans k6 (fun _ _ h => h.elim))
                   clear k6))
              go_meet
              exact ⟨n, A, c, way, l, by first | rfl | go_num | (congr 1; omega), D6.out, K6.out⟩
          · cases way with
            | true =>
              go_wp2_with (first
                | (go_at_call 11; refine (sendB_no D5.out (.inr rfl)).mono ?_
                   rintro e w6 ⟨rfl, d6, k6, _⟩
                   have D6 := Lib.hid (d6)
                   have K6 := Lib.hid (K5.out.trans k6 (fun _ _ h => h))))
              go_meet
              exact ⟨n, A, c, true, l, by first | rfl | go_num | (congr 1; omega), D6.out, K6.out⟩
            | false =>
              cases l with
              | nil =>
                go_wp2_with (first
                | (go_at_call 11; refine (sendB_no D5.out (.inl D5.out.q.len.symm)).mono ?_
                   rintro e w6 ⟨rfl, d6, k6, _⟩
                   have D6 := Lib.hid (d6)
                   have K6 := Lib.hid (K5.out.trans k6 (fun _ _ h => h))))
                go_meet
                exact ⟨n, A, c, false, [], by first | rfl | go_num | (congr 1; omega), D6.out, K6.out⟩
              | cons a l' =>
                go_wp2_with (first
                | (go_at_call 11; refine (sendB_yes D5.out rfl).mono ?_
                   rintro e w6 ⟨A6, c6, rfl, _, d6, k6, _⟩
                   have D6 := Lib.hid (d6)
                   have K6 := Lib.hid (K5.out.trans k6 (fun _ _ h => h))))
                go_meet
                exact ⟨n, A, c, true, a :: l', by first | rfl | go_num | (congr 1; omega), D6.out, K6.out⟩
          · cases way with
            | false =>
              go_wp2_with (first
                | (go_at_call 14; refine (again_no D5.out.q).mono ?_
                   rintro e w6 ⟨rfl, k6⟩
                   have D6 := Lib.hid (D5.out.keep k6)
                   have K6 := Lib.hid (K5.out.trans k6 (fun _ _ h => h.elim))))
              go_meet
              exact ⟨n, A, c, false, l, by first | rfl | go_num | (congr 1; omega), D6.out, K6.out⟩
            | true =>
              cases l with
              | nil => exact absurd (D5.out.q.way1 rfl) (by rw [← D5.out.q.len]; simp)
              | cons a l' =>
                go_wp2_with (first
                | (go_at_call 14; refine (again_yes D5.out.q rfl).mono ?_
                   rintro e w6 ⟨A6, c6, rfl, _, _, k6⟩
                   have D6 := Lib.hid (D5.out.keep k6)
                   have K6 := Lib.hid (K5.out.trans k6 (fun _ _ h => h.elim))))
                go_meet
                exact ⟨n, A, c, true, a :: l', by first | rfl | go_num | (congr 1; omega), D6.out, K6.out⟩
          · cases way with
            | false =>
              go_wp2_with (first
                | (go_at_call 13; refine (done_off D5.out.q o.name).mono ?_
                   rintro e w6 ⟨rfl, hw6⟩
                   rw [hw6]
                   clear hw6))
              go_meet
              exact ⟨n, A, c, false, l, by first | rfl | go_num | (congr 1; omega), D5.out, K5.out⟩
            | true =>
              cases l with
              | nil => exact absurd (D5.out.q.way1 rfl) (by rw [← D5.out.q.len]; simp)
              | cons a l' =>
                have hn0 := D5.out.q.way1 rfl
                have s1 : (n : Int) - 1 = ((n - 1 : Nat) : Int) := by omega
                have s2 : IntKind.i64.wrap ((n : Int) - 1) = ((n - 1 : Nat) : Int) := by
                  rw [s1]
                  exact IntWalk.i64_in _ (by have := D5.out.q.few; have := D5.out.q.room; omega)
                by_cases hs : (a.name.toList == o.name.toList) = true
                · go_wp2_with (first
                | (go_at_call 13; refine (doneB_yes D5.out rfl o.name hs).mono ?_
                   rintro e w6 ⟨rfl, d6, k6, _⟩
                   have D6 := Lib.hid (d6)
                   have K6 := Lib.hid (K5.out.trans k6 (fun _ _ h => h))))
                  go_meet
                  exact ⟨n - 1, A, c, false, l', by first | rfl | go_num | (congr 1; omega), D6.out, K6.out⟩
                · have hs' : (a.name.toList == o.name.toList) = false := by simpa using hs
                  go_wp2_with (first
                | (go_at_call 13; refine (done_not D5.out.q rfl o.name hs').mono ?_
                   rintro e w6 ⟨rfl, hw6⟩
                   rw [hw6]
                   clear hw6))
                  go_meet
                  exact ⟨n, A, c, true, a :: l', by first | rfl | go_num | (congr 1; omega), D5.out, K5.out⟩
          · go_wp2_with (first
                | (go_at_call 12; refine (stopB D5.out).mono ?_
                   rintro e w6 ⟨rfl, d6, k6, _⟩
                   have D6 := Lib.hid (d6)
                   have K6 := Lib.hid (K5.out.trans k6 (fun _ _ h => h))))
            go_meet
            exact ⟨n, A, c, false, l, by first | rfl | go_num | (congr 1; omega), D6.out, K6.out⟩
          · go_wp2_with fail
            go_meet
            exact ⟨n, A, c, way, l, by first | rfl | go_num | (congr 1; omega), D5.out, K5.out⟩
        case rest =>
          obtain ⟨n', A', c', way', l', rfl, d6, k6⟩ := hcut
          have hr6 := d6.q.room
          have hf6 := d6.q.few
          have s1 : (n' : Int) + ((Q : Int) - n') = (Q : Int) := by omega
          have s2 : IntKind.i64.wrap ((n' : Int) + ((Q : Int) - n')) = (Q : Int) := by rw [s1]; exact IntWalk.i64_in _ (by omega)
          have s3 : ¬ ((Q : Int) < (n' : Int)) := by omega
          have s4 : ¬ ((n' : Int) < 0) := by omega
          have s5 : ¬ (Q < n') := by omega
          have D6 := Lib.hid d6
          have K6 := Lib.hid k6
          clear d6 k6
          go_wp2_with (first
            | (go_at_call 17; refine (names_any D7.out.q).mono ?_
               rintro e w8 ⟨A8, c8, rfl, _, k8⟩
               have D8 := Lib.hid (D7.out.keep k8)
               have K8 := Lib.hid (K7.out.trans k8 (fun _ _ h => h.elim))
               clear k8)
            | (go_at_call 16; refine (room_any D6.out.q).mono ?_
               rintro e w7 ⟨rfl, k7⟩
               have D7 := Lib.hid (D6.out.keep k7)
               have K7 := Lib.hid (K6.out.trans k7 (fun _ _ h => h.elim))
               clear k7)
            | (go_at_call 10; refine (len_any D6.out.q).mono ?_
               rintro e w7 ⟨rfl, hw7⟩
               rw [hw7]
               clear hw7))
          exact ⟨⟨k + 1, n', A', c', way', l', by go_num, by omega, by omega, D8.out, K8.out⟩, by simp [intOf]; omega⟩
      · by_cases h1 : k < ns
        · have h2 : ¬ k < 100 := by omega
          go_wp2_with fail
          go_ret
          exact ⟨rfl, K3.out.mono (fun b hb h => by omega)⟩
        · by_cases h2 : k < 100
          · go_wp2_with fail
            go_ret
            exact ⟨rfl, K3.out.mono (fun b hb h => by omega)⟩
          · go_wp2_with fail
            go_ret
            exact ⟨rfl, K3.out.mono (fun b hb h => by omega)⟩
end Go.Proofs.Ytfidhnplaieacaa
