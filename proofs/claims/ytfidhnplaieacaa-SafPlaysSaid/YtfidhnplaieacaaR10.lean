/- A queue does any calls as the document says: walked. -/
import Derived.Test.YtfidhnplaieacaaR9
import Derived.Test.YtfidhnplaieacaaWRoom
import Derived.Deep.CutBlock
import Derived.Deep.DeepCutAuto
namespace Go.Proofs.Ytfidhnplaieacaa
open Go.RowKit Mem
set_option maxRecDepth 100000 in
theorem plays_no (most : Int) (hm : most < 1 ∨ 16 < most) (S : Option Addr) (ns cs : Nat) (w : World) :
    Calls Try.prog 5 #[.int .i64 most, .slice S ns cs] w fun e w' => e = .returned (.bool true) ∧ Keeps (fun _ => False) w w' := by
  go_enter Try.func5, Try.ntmps5
  go_wp2_with (first
    | (go_at_call 18; refine (refNew_no most _ hm).mono ?_
       rintro e w3 ⟨rfl, hw3⟩
       rw [hw3]
       clear hw3)
    | (go_at_call 7; refine (new_no most _ hm).mono ?_
       rintro e w2 ⟨rfl, hw2⟩
       rw [hw2]
       clear hw2)
    | (go_at_call 6; refine (shown_any w).mono ?_
       rintro e w1 ⟨rfl, k1⟩
       have K1 := Lib.hid k1
       clear k1))
  go_ret
  exact ⟨rfl, K1.out⟩
set_option maxRecDepth 100000 in
set_option maxHeartbeats 16000000 in
theorem plays_law (N : Nat) (hN : 1 ≤ N ∧ N ≤ 16) (S : Option Addr) (ns cs : Nat) (os : List OD) (w : World) (hr : Reads opE w S ns os) (_hns : ns ≤ 9223372036854775807) (hok : ∀ o ∈ os, okO w o) :
    Calls Try.prog 5 #[.int .i64 N, .slice S ns cs] w fun e w' => e = .returned (.bool true) ∧ Keeps (fun _ => False) w w' := by
  have HR := Lib.hid hr
  have OK := Lib.hid hok
  clear hr hok
  go_enter Try.func5, Try.ntmps5
  go_upto_region 12 with (first
    | (go_at_call 20; refine (refClone_any E4.out).mono ?_
       rintro e w5 ⟨gw, rfl, e5, hw5, k5⟩
       have p5 : PP w5 gx gy N none 0 0 false [] none 0 [] := ⟨D4.out.keep k5, E4.out.keep k5, rfl⟩
       have z5 : PP w5 gz gw N Az 0 cz false [] none 0 [] := ⟨Z4.out.keep k5, e5, rfl⟩
       have K5 := Lib.hid (K4.out.trans k5 (fun _ _ h => h))
       have hgy := E4.out.box.lt
       have IV := Lib.hid (show Inv w.heap.size N w5 gx gy gz gw from ⟨_, _, _, _, _, _, _, _, _, _, _, _, _, _, _, _, p5, z5, by omega, by omega, (fun q hq => by cases hq), Nat.le_trans K1.out.size hgx, Nat.le_trans K2.out.size hgy2, (fun q hq => by cases hq)⟩)
       clear k5 e5 p5 z5)
    | (go_at_call 19; refine (clone_any D3.out).mono ?_
       rintro e w4 ⟨gz, Az, cz, rfl, z4, hz4, _, k4⟩
       have hgx3 := D3.out.box.lt
       have D4 := Lib.hid (D3.out.keep k4)
       have E4 := Lib.hid (E3.out.keep k4)
       have Z4 := Lib.hid z4
       have K4 := Lib.hid (K3.out.trans k4 (fun _ _ h => h))
       clear k4 z4)
    | (go_at_call 18; refine (refNew_any N _ hN.1 hN.2).mono ?_
       rintro e w3 ⟨gy, rfl, e3, hgy2, k3⟩
       have D3 := Lib.hid (D2.out.keep k3)
       have E3 := Lib.hid e3
       have K3 := Lib.hid (K2.out.trans k3 (fun _ _ h => h))
       clear e3 k3)
    | (go_at_call 7; refine (new_any N _ hN.1 hN.2).mono ?_
       rintro e w2 ⟨gx, rfl, d2, hgx, k2⟩
       have D2 := Lib.hid d2
       have K2 := Lib.hid (K1.out.trans k2 (fun _ _ h => h))
       clear d2 k2)
    | (go_at_call 6; refine (shown_any w).mono ?_
       rintro e w1 ⟨rfl, k1⟩
       have K1 := Lib.hid k1
       clear k1))
  go_wp2_with fail
  go_loopw [6, 8, 10, 11, 12] (fun vx vy vz vw v12 wr => ∃ (k gx gy gz gw : Nat), vx = .pointer (some ⟨gx, 0, none⟩) ∧ vy = .pointer (some ⟨gy, 0, none⟩) ∧ vz = .pointer (some ⟨gz, 0, none⟩) ∧ vw = .pointer (some ⟨gw, 0, none⟩) ∧ v12 = .int .i64 k ∧ k ≤ ns ∧ k ≤ 100 ∧ Inv w.heap.size N wr gx gy gz gw ∧ Keeps (fun b => w.heap.size ≤ b) w wr) (fun _ _ _ _ v12 _ => ns - (intOf v12).toNat)
  case atStart => exact ⟨0, gx, gy, gz, gw, rfl, rfl, rfl, rfl, rfl, Nat.zero_le _, Nat.zero_le _, IV.out, K5.out.mono (fun _ _ h => h.elim)⟩
  case round =>
    clear IV D2 D3 E3 D4 E4 Z4 K1 K2 K3 K4 K5
    obtain ⟨k, hx, hy, hz, hu, rfl, rfl, rfl, rfl, rfl, hk1, hk2, hiv, hkk⟩ := hrel
    obtain ⟨wo, hwo⟩ : ∃ wo, wo = wr := ⟨_, rfl⟩
    subst hwo
    by_cases hin : k < ns ∧ k < 100
    · obtain ⟨hin1, hin2⟩ := hin
      have IV := Lib.hid hiv
      have K3 := Lib.hid hkk
      obtain ⟨o, ho⟩ : ∃ o, os[k]? = some o := ⟨_, List.getElem?_eq_getElem (by rw [HR.out.1]; exact hin1)⟩
      have hoo := OK.out o (List.mem_of_getElem? ho)
      obtain ⟨ad, hA, hc⟩ := (HR.out.keeps K3.out (fun ad hA h0 => by have := HR.out.lt h0 hA; omega)).at_ ho
      subst hA
      have q0 := hc 0 _ rfl
      have q1 := hc 1 _ rfl
      have q2 := hc 2 _ rfl
      have q3 := hc 3 _ rfl
      simp [opE] at q0 q1 q2 q3
      rw [← add_add, add_pos _ (by decide : 0 < 1)] at q1
      rw [← add_add, add_pos _ (by decide : 0 < 2)] at q2
      rw [← add_add, add_pos _ (by decide : 0 < 3)] at q3
      have el := elem40
      have HO := Lib.hid hoo
      clear hc ho hoo hiv hkk
      obtain ⟨kv, hkv⟩ : ∃ kv, kv = kindOf o.kind := ⟨_, rfl⟩
      have hkr : 0 ≤ kv ∧ kv ≤ 7 := by rw [hkv]; unfold kindOf; omega
      have HKV := Lib.hid hkv
      clear hkv
      obtain ⟨w5, hw5⟩ : ∃ w5, w5 = wo.alloc (.cells #[.int .i64 o.kind, .string o.name, .int .i64 o.ty, .slice o.A o.n o.c] 40) := ⟨_, rfl⟩
      have x5 : Blk w5 wo.heap.size 40 #[.int .i64 o.kind, .string o.name, .int .i64 o.ty, .slice o.A o.n o.c] := by rw [hw5]; exact Blk.new wo 40 _ _ rfl
      have k5 : Keeps (fun _ => False) wo w5 := by rw [hw5]; exact (Keeps.refl _ wo).alloc _
      have I5 := Lib.hid (IV.out.keep k5)
      have K5 := Lib.hid (K3.out.trans k5 (fun _ _ h => h.elim))
      have X5 := Lib.hid x5
      have HW5 := Lib.hid hw5
      have x0 := x5.cell 0
      have x1 := x5.cell 1
      have x2 := x5.cell 2
      have x3 := x5.cell 3
      simp at x0 x1 x2 x3
      clear hw5 x5 k5
      go_upto_region 16 with fail
      rw [← HW5.out]
      go_upto_block 2 with (
        go_at_call 15; refine (kind_any o.kind HO.out.1 w5).mono ?_
        rintro e w4 ⟨rfl, hw4⟩
        rw [hw4, ← HKV.out]
        clear hw4)
      go_cut [6, 8, 10, 11] (fun vx vy vz vw wx => ∃ (gx gy gz gw : Nat), vx = .pointer (some ⟨gx, 0, none⟩) ∧ vy = .pointer (some ⟨gy, 0, none⟩) ∧ vz = .pointer (some ⟨gz, 0, none⟩) ∧ vw = .pointer (some ⟨gw, 0, none⟩) ∧ Inv w.heap.size N wx gx gy gz gw ∧ Keeps (fun b => w.heap.size ≤ b) w wx)
      case first =>
        clear q0 q1 q2 q3
        obtain ⟨A, n, c, way, l, A', c', m, Az, nz, cz, wayz, lz, Aw, cw, mw, hp, hz5, ne1, ne2, ap, b1, b2, b3⟩ := I5.out
        have P5 := Lib.hid hp
        have Z5 := Lib.hid hz5
        have AP := Lib.hid ap
        have B3 := Lib.hid b3
        have hB5 : w.heap.size ≤ w5.heap.size := K5.out.size
        have kf : ∀ W, Keeps (fun b => foot hx A n c b ∨ b = hy) w5 W → Keeps (fun b => w.heap.size ≤ b) w W := fun W k => K5.out.trans k (fun b _ hb => by
          rcases hb with (rfl | hb) | rfl
          · exact b1
          · exact b3 b hb
          · exact b2)
        have ob : ∀ W, Keeps (fun b => foot hx A n c b ∨ b = hy) w5 W → Blk W wo.heap.size 40 #[.int .i64 o.kind, .string o.name, .int .i64 o.ty, .slice o.A o.n o.c] := fun W k => X5.out.keeps k (fun e => by
          rcases e with (h | h) | h
          · exact (X5.out.ne_ hp.x.box (by decide)) h
          · exact hp.x.row.blk_ne X5.out (by decide) h
          · exact (X5.out.ne_ hp.y.box (by decide)) h)
        have KF := Lib.hid kf
        have OB := Lib.hid ob
        clear hp hz5 ap b3 kf ob I5
        rcases (show kv = 0 ∨ kv = 1 ∨ kv = 2 ∨ kv = 3 ∨ kv = 4 ∨ kv = 5 ∨ kv = 6 ∨ kv = 7 by omega) with h | h | h | h | h | h | h | h
        all_goals subst h
        · as_aux_lemma =>
            go_upto_region 20 with fail
            go_cut [14] (fun v wx => ∃ (X : Nat) (A4 : Option Addr) (c4 : Nat), v = .pointer (some ⟨X, 0, none⟩) ∧ Blk wx X 32 #[.int .i64 o.ty, .slice A4 o.n c4] ∧ Own fld wx w5.heap.size 51 (.slice A4 o.n c4) o.fs ∧ Keeps (fun _ => False) w5 wx)
            case first =>
              have hlt0 : wo.heap.size < w5.heap.size := X5.out.lt
              have RF := Lib.hid (HO.out.keep K5.out)
              have ks : ∀ W, Keeps (fun _ => False) w5 W → W.cell? ⟨wo.heap.size, 2, none⟩ = some (.int .i64 o.ty) ∧ W.cell? ⟨wo.heap.size, 3, none⟩ = some (.slice o.A o.n o.c) := fun W k => ⟨k.cell (fun h => h) x2, k.cell (fun h => h) x3⟩
              have KS := Lib.hid ks
              have hn3 := HO.out.2.2
              have hap : (0 + o.n) * 24 ≤ 140737488355328 := by omega
              have hap2 : 0 + o.n ≤ maxLen := by unfold maxLen; omega
              clear ks hn3
              go_region_held3 (fun W => W.cell? ⟨wo.heap.size, 2, none⟩ = some (.int .i64 o.ty) ∧ W.cell? ⟨wo.heap.size, 3, none⟩ = some (.slice o.A o.n o.c)) (exact KS.out _ (by (repeat first | assumption | exact Lib.Hid.out (by assumption) | exact Keeps.refl _ _ | refine Keeps.alloc ?_ _ | refine Keeps.drewN ?_ _ | refine Keeps.drew ?_ | refine Keeps.setCell ?_ _ _ (fun h => by simp at h <;> omega)))) (first
                | (refine step_append elem31 (by rfl) (.tmp 87) (.tmp 90) (by rfl) w5.heap.size (.slice (some ⟨w5.heap.size, 0, none⟩) 0 0) [] o.fs o.A o.n o.c (by rfl) (by rfl) (((own_empty fld w5.drew 51 w5.heap.size w5.heap.size rfl (Nat.le_refl _)).alloc _)) ((RF.out.drew.alloc _).alloc _) hap hap2 (by simp; omega) ?_
                   intro k4 A4 c4 w4 hk4 own4 gr4 at4
                   have k4' : Keeps (fun _ => False) w5 w4 := own_grow (by (repeat first | assumption | exact Lib.Hid.out (by assumption) | exact Keeps.refl _ _ | refine Keeps.alloc ?_ _ | refine Keeps.drewN ?_ _ | refine Keeps.drew ?_ | refine Keeps.setCell ?_ _ _ (fun h => by simp at h <;> omega))) gr4 (by simp [Value.ownBlock])
                   have bx4 := (Blk.new (w5.drew.alloc (.cells #[] 51)) 32 #[.int .i64 0, .slice none 0 0] (w5.heap.size + 1) (by simp)).grown gr4 (by simp [Value.ownBlock])
                   have hk := hk4.trans (Nat.zero_add o.n)
                   subst hk
                   have l0 := bx4.cell 0
                   have l1 := bx4.cell 1
                   have e0' := bx4.frozen 0
                   have e1' := bx4.frozen 1
                   simp at l0 l1
                   have BX := Lib.hid bx4
                   have O4 := Lib.hid own4
                   have K4 := Lib.hid k4'
                   clear own4 gr4 at4 hk4 bx4 k4')
                | (refine step_append elem31 (by rfl) (.tmp 87) (.tmp 90) (by rfl) w5.heap.size (.slice (some ⟨w5.heap.size, 0, none⟩) 0 0) [] o.fs o.A o.n o.c (by rfl) (by rfl) (own_empty fld w5.drew 51 w5.heap.size w5.heap.size rfl (Nat.le_refl _)) (RF.out.drew.alloc _) hap hap2 (by simp) ?_
                   intro k4 A4 c4 w4 hk4 own4 gr4 at4
                   have k4' : Keeps (fun _ => False) w5 w4 := own_grow (by (repeat first | assumption | exact Lib.Hid.out (by assumption) | exact Keeps.refl _ _ | refine Keeps.alloc ?_ _ | refine Keeps.drewN ?_ _ | refine Keeps.drew ?_ | refine Keeps.setCell ?_ _ _ (fun h => by simp at h <;> omega))) gr4 (by simp [Value.ownBlock])
                   have hk := hk4.trans (Nat.zero_add o.n)
                   subst hk
                   have O4 := Lib.hid own4
                   have K4 := Lib.hid k4'
                   clear own4 gr4 at4 hk4 k4')
                | (refine step_append elem31 (by rfl) (.tmp 87) (.tmp 90) (by rfl) w5.heap.size (.slice (some ⟨w5.heap.size + 1, 0, none⟩) 0 0) [] o.fs o.A o.n o.c (by rfl) (by rfl) (own_empty fld (w5.drew.alloc _) 51 w5.heap.size (w5.heap.size + 1) (by simp) (by omega)) ((RF.out.drew.alloc _).alloc _) hap hap2 (by simp; omega) ?_
                   intro k4 A4 c4 w4 hk4 own4 gr4 at4
                   have k4' : Keeps (fun _ => False) w5 w4 := own_grow (by (repeat first | assumption | exact Lib.Hid.out (by assumption) | exact Keeps.refl _ _ | refine Keeps.alloc ?_ _ | refine Keeps.drewN ?_ _ | refine Keeps.drew ?_ | refine Keeps.setCell ?_ _ _ (fun h => by simp at h <;> omega))) gr4 (by simp [Value.ownBlock])
                   have bx4 := ((Blk.new w5.drew 32 #[.int .i64 0, .slice none 0 0] w5.heap.size rfl).alloc (.cells #[] 51)).grown gr4 (by simp [Value.ownBlock])
                   have hk := hk4.trans (Nat.zero_add o.n)
                   subst hk
                   have l0 := bx4.cell 0
                   have l1 := bx4.cell 1
                   have e0' := bx4.frozen 0
                   have e1' := bx4.frozen 1
                   simp at l0 l1
                   have BX := Lib.hid bx4
                   have O4 := Lib.hid own4
                   have K4 := Lib.hid k4'
                   clear own4 gr4 at4 hk4 bx4 k4'))
              all_goals
                rw [List.nil_append] at O4
                go_wp2_with fail
                go_meet
                refine ⟨_, A4, c4, rfl, ?_, ?_, (by (repeat first | assumption | exact Lib.Hid.out (by assumption) | exact Keeps.refl _ _ | refine Keeps.alloc ?_ _ | refine Keeps.drewN ?_ _ | refine Keeps.drew ?_ | refine Keeps.setCell ?_ _ _ (fun h => by simp at h <;> omega)))⟩
                · first | exact (BX.out.set 0 _).set 1 _ | exact Blk.new w4 32 _ _ rfl
                · first | exact O4.out.alloc _ | exact (O4.out.setCell _ _ (fun q hq e => O4.out.blk_ne BX.out (by decide) (by rw [hq, e]))).setCell _ _ (fun q hq e => O4.out.blk_ne BX.out (by decide) (by rw [hq, e]))
            case rest =>
              obtain ⟨X, A4, c4, rfl, bx4, o4, kc⟩ := hcut
              have PC := Lib.hid (P5.out.keep kc)
              have hv1 := (X5.out.keeps kc (fun h => h)).cell 1
              have bx0 := bx4.cell 0
              have bx1 := bx4.cell 1
              simp at hv1 bx0 bx1
              have BC := Lib.hid bx4
              have OC := Lib.hid o4
              have KC := Lib.hid kc
              obtain ⟨pv, hpv⟩ : ∃ pv, pv = putE l n N o.name := ⟨_, rfl⟩
              have HPV := Lib.hid hpv
              clear kc bx4 o4 hpv
              go_upto_region 22 with (
                go_at_call 8; refine (put_u PC.out.x o.name o.ty A4 o.n c4 o.fs (own_reads OC.out) HO.out.2.2).mono ?_
                rintro e w7 ⟨rfl, A2, n2, c2, l2, q7, hl7, hn7, hm7, hr7, k7⟩
                rw [← HPV.out]
                rw [← HPV.out] at hl7 hn7
                have Q7 := Lib.hid q7
                have Y7 := Lib.hid (PC.out.yfoot k7)
                have BX := Lib.hid (BC.out.foot PC.out.x k7 (by decide) (by decide))
                have OS := Lib.hid (OC.out.foot PC.out.x k7 (by decide) (by decide))
                have LM := Lib.hid (And.intro hl7 (And.intro hn7 (And.intro hm7 hr7)))
                have K7 := Lib.hid ((KC.out.mono (S' := foot hx A n c) (fun _ _ h => h.elim)).trans k7 (fun _ _ h => h))
                clear q7 hl7 hn7 hm7 hr7 k7)
              go_wp2_with fail
              have hnb : o.n ≤ 1000000000000000 := by have := HO.out.2.2; omega
              go_loopw [16] (fun v wr => ∃ (j : Nat) (L : List FD), j ≤ o.n ∧ v = .int .i64 j ∧ Own fld wr w5.heap.size 51 (.slice A4 o.n c4) L ∧ L.length = o.n ∧ Keeps (fun b => (Value.slice A4 o.n c4).ownBlock = some b) w7 wr) (fun v _ => o.n - (intOf v).toNat)
              case atStart => exact ⟨0, o.fs, Nat.zero_le _, rfl, OS.out, OS.out.len_eq rfl, Keeps.refl _ w7⟩
              case round =>
                obtain ⟨j, L, hj, rfl, hoL, hL, kL⟩ := hrel
                have OL := Lib.hid hoL
                have KL := Lib.hid kL
                have bx := BX.out.keeps kL (fun e => OS.out.blk_ne BX.out (by decide) e)
                have bx1 := bx.cell 1
                simp at bx1
                by_cases hjn : j < o.n
                · obtain ⟨f, hf⟩ : ∃ f, L[j]? = some f := ⟨_, List.getElem?_eq_getElem (by rw [hL]; exact hjn)⟩
                  obtain ⟨b4, _, hv4, _⟩ := hoL.form (by rw [hL]; omega)
                  injection hv4 with hA4 hn4 hc4
                  subst hA4
                  have q1 := hoL.at_ hf (j := 1) rfl
                  have f1 := hoL.frozen (j * 2 + 1)
                  simp [fld] at q1
                  have HF := Lib.hid hf
                  have HLL := Lib.hid hL
                  clear hoL hL kL bx hf hn4 hc4
                  go_wp2_with fail
                  refine ⟨⟨j + 1, L.set j ⟨f.no, ⟨#[115, 112, 111, 105, 108, 116]⟩⟩, by omega, by go_num, ?_, by rw [List.length_set]; exact HLL.out, ?_⟩, by simp [intOf]; omega⟩
                  · exact OL.out.store (j := 1) (u := .string ⟨#[115, 112, 111, 105, 108, 116]⟩) (y := ⟨f.no, ⟨#[115, 112, 111, 105, 108, 116]⟩⟩) HF.out (by decide) rfl
                  · exact KL.out.setCell _ _ (fun _ => rfl)
                · have hd := OS.out
                  clear hoL hL kL hd
                  have hsafe : ∀ a ∈ l2, ∀ q, (Value.slice a.A a.n a.c).ownBlock = some q → (Value.slice A4 o.n c4).ownBlock ≠ some q := fun a ha q hq e => by
                    have h1 := OC.out.base_le e
                    have h2 := OC.out.lt e
                    rcases LM.out.2.2.1 a ha with h | h
                    · have h3 := (P5.out.x.ok a h).1.lt hq
                      omega
                    · have h3 := h q hq
                      omega
                  have hsafe2 : ∀ a ∈ m, ∀ q, (Value.slice a.A a.n a.c).ownBlock = some q → (Value.slice A4 o.n c4).ownBlock ≠ some q := fun a ha q hq e => by
                    have h1 := OC.out.base_le e
                    have h3 := (P5.out.y.ok a ha).1.lt hq
                    omega
                  have Q8 := Lib.hid (Q7.out.spoil OS.out hsafe KL.out)
                  have Y8 := Lib.hid (Y7.out.spoil OS.out hsafe2 KL.out)
                  have K8 := Lib.hid (K7.out.trans KL.out (fun b hb e => by have := OC.out.base_le e; omega))
                  have K8' := Lib.hid (K8.out.mono (S' := fun b => foot hx A n c b ∨ b = hy) (fun _ _ h => .inl h))
                  have ob := OB.out _ K8'.out
                  have hv1 := ob.cell 1
                  have hv2 := ob.cell 2
                  have hv3 := ob.cell 3
                  simp at hv1 hv2 hv3
                  have RO := Lib.hid (HO.out.keep (KF.out _ K8'.out))
                  clear ob bx
                  go_wp2_with (
                    go_at_call 21; refine (refPut_u Y8.out o.name o.ty o.A o.n o.c o.fs RO.out HO.out.2.2).mono ?_
                    rintro e w9 ⟨rfl, A3, n3, c3, m3, q9, hm9, hn9, k9⟩
                    rw [← putE_info P5.out.same n N o.name, ← HPV.out]
                    rw [← putE_info P5.out.same n N o.name, ← HPV.out] at hm9 hn9
                    have Q9 := Lib.hid q9
                    have HM9 := Lib.hid (And.intro hm9 hn9)
                    have K9 := Lib.hid k9
                    clear q9 hm9 hn9 k9)
                  go_meet
                  have hnn : n3 = n2 := by rw [HM9.out.2, LM.out.2.1]
                  have q9 := Q9.out
                  rw [hnn] at q9
                  have kz : Keeps (fun b => foot hx A n c b ∨ b = hy) w5 w9 := (K8'.out).trans K9.out (fun _ _ h => .inr h)
                  have p9 : PP w9 hx hy N A2 n2 c2 way l2 A3 c3 m3 := ⟨Q8.out.keepq K9.out (fun k hk => by
                    subst hk
                    exact ⟨fun e => (Q8.out.box.ne_ Y8.out.box (by decide)) e.symm, fun e => Q8.out.row.blk_ne Y8.out.box (by decide) e, fun a ha e => (Q8.out.ok a ha).1.blk_ne Y8.out.box (by decide) e⟩), q9, by rw [LM.out.1, HM9.out.1, P5.out.same]⟩
                  exact ⟨hx, hy, hz, hu, rfl, rfl, rfl, rfl, Inv.step P5.out Z5.out ne1 ne2 AP.out b1 b2 B3.out hB5 kz p9 (fun q hq => (LM.out.2.2.2 q hq).imp_right (fun h => Nat.le_trans KC.out.size h)), KF.out _ kz⟩
        · as_aux_lemma =>
            go_upto_region 20 with fail
            go_cut [14] (fun v wx => ∃ (X : Nat) (A4 : Option Addr) (c4 : Nat), v = .pointer (some ⟨X, 0, none⟩) ∧ Blk wx X 32 #[.int .i64 o.ty, .slice A4 o.n c4] ∧ Own fld wx w5.heap.size 51 (.slice A4 o.n c4) o.fs ∧ Keeps (fun _ => False) w5 wx)
            case first =>
              have hlt0 : wo.heap.size < w5.heap.size := X5.out.lt
              have RF := Lib.hid (HO.out.keep K5.out)
              have ks : ∀ W, Keeps (fun _ => False) w5 W → W.cell? ⟨wo.heap.size, 2, none⟩ = some (.int .i64 o.ty) ∧ W.cell? ⟨wo.heap.size, 3, none⟩ = some (.slice o.A o.n o.c) := fun W k => ⟨k.cell (fun h => h) x2, k.cell (fun h => h) x3⟩
              have KS := Lib.hid ks
              have hn3 := HO.out.2.2
              have hap : (0 + o.n) * 24 ≤ 140737488355328 := by omega
              have hap2 : 0 + o.n ≤ maxLen := by unfold maxLen; omega
              clear ks hn3
              go_region_held3 (fun W => W.cell? ⟨wo.heap.size, 2, none⟩ = some (.int .i64 o.ty) ∧ W.cell? ⟨wo.heap.size, 3, none⟩ = some (.slice o.A o.n o.c)) (exact KS.out _ (by (repeat first | assumption | exact Lib.Hid.out (by assumption) | exact Keeps.refl _ _ | refine Keeps.alloc ?_ _ | refine Keeps.drewN ?_ _ | refine Keeps.drew ?_ | refine Keeps.setCell ?_ _ _ (fun h => by simp at h <;> omega)))) (first
                | (refine step_append elem31 (by rfl) (.tmp 87) (.tmp 90) (by rfl) w5.heap.size (.slice (some ⟨w5.heap.size, 0, none⟩) 0 0) [] o.fs o.A o.n o.c (by rfl) (by rfl) (((own_empty fld w5.drew 51 w5.heap.size w5.heap.size rfl (Nat.le_refl _)).alloc _)) ((RF.out.drew.alloc _).alloc _) hap hap2 (by simp; omega) ?_
                   intro k4 A4 c4 w4 hk4 own4 gr4 at4
                   have k4' : Keeps (fun _ => False) w5 w4 := own_grow (by (repeat first | assumption | exact Lib.Hid.out (by assumption) | exact Keeps.refl _ _ | refine Keeps.alloc ?_ _ | refine Keeps.drewN ?_ _ | refine Keeps.drew ?_ | refine Keeps.setCell ?_ _ _ (fun h => by simp at h <;> omega))) gr4 (by simp [Value.ownBlock])
                   have bx4 := (Blk.new (w5.drew.alloc (.cells #[] 51)) 32 #[.int .i64 0, .slice none 0 0] (w5.heap.size + 1) (by simp)).grown gr4 (by simp [Value.ownBlock])
                   have hk := hk4.trans (Nat.zero_add o.n)
                   subst hk
                   have l0 := bx4.cell 0
                   have l1 := bx4.cell 1
                   have e0' := bx4.frozen 0
                   have e1' := bx4.frozen 1
                   simp at l0 l1
                   have BX := Lib.hid bx4
                   have O4 := Lib.hid own4
                   have K4 := Lib.hid k4'
                   clear own4 gr4 at4 hk4 bx4 k4')
                | (refine step_append elem31 (by rfl) (.tmp 87) (.tmp 90) (by rfl) w5.heap.size (.slice (some ⟨w5.heap.size, 0, none⟩) 0 0) [] o.fs o.A o.n o.c (by rfl) (by rfl) (own_empty fld w5.drew 51 w5.heap.size w5.heap.size rfl (Nat.le_refl _)) (RF.out.drew.alloc _) hap hap2 (by simp) ?_
                   intro k4 A4 c4 w4 hk4 own4 gr4 at4
                   have k4' : Keeps (fun _ => False) w5 w4 := own_grow (by (repeat first | assumption | exact Lib.Hid.out (by assumption) | exact Keeps.refl _ _ | refine Keeps.alloc ?_ _ | refine Keeps.drewN ?_ _ | refine Keeps.drew ?_ | refine Keeps.setCell ?_ _ _ (fun h => by simp at h <;> omega))) gr4 (by simp [Value.ownBlock])
                   have hk := hk4.trans (Nat.zero_add o.n)
                   subst hk
                   have O4 := Lib.hid own4
                   have K4 := Lib.hid k4'
                   clear own4 gr4 at4 hk4 k4')
                | (refine step_append elem31 (by rfl) (.tmp 87) (.tmp 90) (by rfl) w5.heap.size (.slice (some ⟨w5.heap.size + 1, 0, none⟩) 0 0) [] o.fs o.A o.n o.c (by rfl) (by rfl) (own_empty fld (w5.drew.alloc _) 51 w5.heap.size (w5.heap.size + 1) (by simp) (by omega)) ((RF.out.drew.alloc _).alloc _) hap hap2 (by simp; omega) ?_
                   intro k4 A4 c4 w4 hk4 own4 gr4 at4
                   have k4' : Keeps (fun _ => False) w5 w4 := own_grow (by (repeat first | assumption | exact Lib.Hid.out (by assumption) | exact Keeps.refl _ _ | refine Keeps.alloc ?_ _ | refine Keeps.drewN ?_ _ | refine Keeps.drew ?_ | refine Keeps.setCell ?_ _ _ (fun h => by simp at h <;> omega))) gr4 (by simp [Value.ownBlock])
                   have bx4 := ((Blk.new w5.drew 32 #[.int .i64 0, .slice none 0 0] w5.heap.size rfl).alloc (.cells #[] 51)).grown gr4 (by simp [Value.ownBlock])
                   have hk := hk4.trans (Nat.zero_add o.n)
                   subst hk
                   have l0 := bx4.cell 0
                   have l1 := bx4.cell 1
                   have e0' := bx4.frozen 0
                   have e1' := bx4.frozen 1
                   simp at l0 l1
                   have BX := Lib.hid bx4
                   have O4 := Lib.hid own4
                   have K4 := Lib.hid k4'
                   clear own4 gr4 at4 hk4 bx4 k4'))
              all_goals
                rw [List.nil_append] at O4
                go_wp2_with fail
                go_meet
                refine ⟨_, A4, c4, rfl, ?_, ?_, (by (repeat first | assumption | exact Lib.Hid.out (by assumption) | exact Keeps.refl _ _ | refine Keeps.alloc ?_ _ | refine Keeps.drewN ?_ _ | refine Keeps.drew ?_ | refine Keeps.setCell ?_ _ _ (fun h => by simp at h <;> omega)))⟩
                · first | exact (BX.out.set 0 _).set 1 _ | exact Blk.new w4 32 _ _ rfl
                · first | exact O4.out.alloc _ | exact (O4.out.setCell _ _ (fun q hq e => O4.out.blk_ne BX.out (by decide) (by rw [hq, e]))).setCell _ _ (fun q hq e => O4.out.blk_ne BX.out (by decide) (by rw [hq, e]))
            case rest =>
              obtain ⟨X, A4, c4, rfl, bx4, o4, kc⟩ := hcut
              have PC := Lib.hid (P5.out.keep kc)
              have hv1 := (X5.out.keeps kc (fun h => h)).cell 1
              have bx0 := bx4.cell 0
              have bx1 := bx4.cell 1
              simp at hv1 bx0 bx1
              have BC := Lib.hid bx4
              have OC := Lib.hid o4
              have KC := Lib.hid kc
              obtain ⟨pv, hpv⟩ : ∃ pv, pv = putE l n N o.name := ⟨_, rfl⟩
              have HPV := Lib.hid hpv
              clear kc bx4 o4 hpv
              go_upto_region 22 with (
                go_at_call 8; refine (put_u PC.out.x o.name o.ty A4 o.n c4 o.fs (own_reads OC.out) HO.out.2.2).mono ?_
                rintro e w7 ⟨rfl, A2, n2, c2, l2, q7, hl7, hn7, hm7, hr7, k7⟩
                rw [← HPV.out]
                rw [← HPV.out] at hl7 hn7
                have Q7 := Lib.hid q7
                have Y7 := Lib.hid (PC.out.yfoot k7)
                have BX := Lib.hid (BC.out.foot PC.out.x k7 (by decide) (by decide))
                have OS := Lib.hid (OC.out.foot PC.out.x k7 (by decide) (by decide))
                have LM := Lib.hid (And.intro hl7 (And.intro hn7 (And.intro hm7 hr7)))
                have K7 := Lib.hid ((KC.out.mono (S' := foot hx A n c) (fun _ _ h => h.elim)).trans k7 (fun _ _ h => h))
                clear q7 hl7 hn7 hm7 hr7 k7)
              go_wp2_with fail
              have hnb : o.n ≤ 1000000000000000 := by have := HO.out.2.2; omega
              go_loopw [16] (fun v wr => ∃ (j : Nat) (L : List FD), j ≤ o.n ∧ v = .int .i64 j ∧ Own fld wr w5.heap.size 51 (.slice A4 o.n c4) L ∧ L.length = o.n ∧ Keeps (fun b => (Value.slice A4 o.n c4).ownBlock = some b) w7 wr) (fun v _ => o.n - (intOf v).toNat)
              case atStart => exact ⟨0, o.fs, Nat.zero_le _, rfl, OS.out, OS.out.len_eq rfl, Keeps.refl _ w7⟩
              case round =>
                obtain ⟨j, L, hj, rfl, hoL, hL, kL⟩ := hrel
                have OL := Lib.hid hoL
                have KL := Lib.hid kL
                have bx := BX.out.keeps kL (fun e => OS.out.blk_ne BX.out (by decide) e)
                have bx1 := bx.cell 1
                simp at bx1
                by_cases hjn : j < o.n
                · obtain ⟨f, hf⟩ : ∃ f, L[j]? = some f := ⟨_, List.getElem?_eq_getElem (by rw [hL]; exact hjn)⟩
                  obtain ⟨b4, _, hv4, _⟩ := hoL.form (by rw [hL]; omega)
                  injection hv4 with hA4 hn4 hc4
                  subst hA4
                  have q1 := hoL.at_ hf (j := 1) rfl
                  have f1 := hoL.frozen (j * 2 + 1)
                  simp [fld] at q1
                  have HF := Lib.hid hf
                  have HLL := Lib.hid hL
                  clear hoL hL kL bx hf hn4 hc4
                  go_wp2_with fail
                  refine ⟨⟨j + 1, L.set j ⟨f.no, ⟨#[115, 112, 111, 105, 108, 116]⟩⟩, by omega, by go_num, ?_, by rw [List.length_set]; exact HLL.out, ?_⟩, by simp [intOf]; omega⟩
                  · exact OL.out.store (j := 1) (u := .string ⟨#[115, 112, 111, 105, 108, 116]⟩) (y := ⟨f.no, ⟨#[115, 112, 111, 105, 108, 116]⟩⟩) HF.out (by decide) rfl
                  · exact KL.out.setCell _ _ (fun _ => rfl)
                · have hd := OS.out
                  clear hoL hL kL hd
                  have hsafe : ∀ a ∈ l2, ∀ q, (Value.slice a.A a.n a.c).ownBlock = some q → (Value.slice A4 o.n c4).ownBlock ≠ some q := fun a ha q hq e => by
                    have h1 := OC.out.base_le e
                    have h2 := OC.out.lt e
                    rcases LM.out.2.2.1 a ha with h | h
                    · have h3 := (P5.out.x.ok a h).1.lt hq
                      omega
                    · have h3 := h q hq
                      omega
                  have hsafe2 : ∀ a ∈ m, ∀ q, (Value.slice a.A a.n a.c).ownBlock = some q → (Value.slice A4 o.n c4).ownBlock ≠ some q := fun a ha q hq e => by
                    have h1 := OC.out.base_le e
                    have h3 := (P5.out.y.ok a ha).1.lt hq
                    omega
                  have Q8 := Lib.hid (Q7.out.spoil OS.out hsafe KL.out)
                  have Y8 := Lib.hid (Y7.out.spoil OS.out hsafe2 KL.out)
                  have K8 := Lib.hid (K7.out.trans KL.out (fun b hb e => by have := OC.out.base_le e; omega))
                  have K8' := Lib.hid (K8.out.mono (S' := fun b => foot hx A n c b ∨ b = hy) (fun _ _ h => .inl h))
                  have ob := OB.out _ K8'.out
                  have hv1 := ob.cell 1
                  have hv2 := ob.cell 2
                  have hv3 := ob.cell 3
                  simp at hv1 hv2 hv3
                  have RO := Lib.hid (HO.out.keep (KF.out _ K8'.out))
                  clear ob bx
                  go_wp2_with (
                    go_at_call 21; refine (refPut_u Y8.out o.name o.ty o.A o.n o.c o.fs RO.out HO.out.2.2).mono ?_
                    rintro e w9 ⟨rfl, A3, n3, c3, m3, q9, hm9, hn9, k9⟩
                    rw [← putE_info P5.out.same n N o.name, ← HPV.out]
                    rw [← putE_info P5.out.same n N o.name, ← HPV.out] at hm9 hn9
                    have Q9 := Lib.hid q9
                    have HM9 := Lib.hid (And.intro hm9 hn9)
                    have K9 := Lib.hid k9
                    clear q9 hm9 hn9 k9)
                  go_meet
                  have hnn : n3 = n2 := by rw [HM9.out.2, LM.out.2.1]
                  have q9 := Q9.out
                  rw [hnn] at q9
                  have kz : Keeps (fun b => foot hx A n c b ∨ b = hy) w5 w9 := (K8'.out).trans K9.out (fun _ _ h => .inr h)
                  have p9 : PP w9 hx hy N A2 n2 c2 way l2 A3 c3 m3 := ⟨Q8.out.keepq K9.out (fun k hk => by
                    subst hk
                    exact ⟨fun e => (Q8.out.box.ne_ Y8.out.box (by decide)) e.symm, fun e => Q8.out.row.blk_ne Y8.out.box (by decide) e, fun a ha e => (Q8.out.ok a ha).1.blk_ne Y8.out.box (by decide) e⟩), q9, by rw [LM.out.1, HM9.out.1, P5.out.same]⟩
                  exact ⟨hx, hy, hz, hu, rfl, rfl, rfl, rfl, Inv.step P5.out Z5.out ne1 ne2 AP.out b1 b2 B3.out hB5 kz p9 (fun q hq => (LM.out.2.2.2 q hq).imp_right (fun h => Nat.le_trans KC.out.size h)), KF.out _ kz⟩
        · as_aux_lemma =>
            go_upto_region 20 with fail
            go_cut [14] (fun v wx => ∃ (X : Nat) (A4 : Option Addr) (c4 : Nat), v = .pointer (some ⟨X, 0, none⟩) ∧ Blk wx X 32 #[.int .i64 o.ty, .slice A4 o.n c4] ∧ Own fld wx w5.heap.size 51 (.slice A4 o.n c4) o.fs ∧ Keeps (fun _ => False) w5 wx)
            case first =>
              have hlt0 : wo.heap.size < w5.heap.size := X5.out.lt
              have RF := Lib.hid (HO.out.keep K5.out)
              have ks : ∀ W, Keeps (fun _ => False) w5 W → W.cell? ⟨wo.heap.size, 2, none⟩ = some (.int .i64 o.ty) ∧ W.cell? ⟨wo.heap.size, 3, none⟩ = some (.slice o.A o.n o.c) := fun W k => ⟨k.cell (fun h => h) x2, k.cell (fun h => h) x3⟩
              have KS := Lib.hid ks
              have hn3 := HO.out.2.2
              have hap : (0 + o.n) * 24 ≤ 140737488355328 := by omega
              have hap2 : 0 + o.n ≤ maxLen := by unfold maxLen; omega
              clear ks hn3
              go_region_held3 (fun W => W.cell? ⟨wo.heap.size, 2, none⟩ = some (.int .i64 o.ty) ∧ W.cell? ⟨wo.heap.size, 3, none⟩ = some (.slice o.A o.n o.c)) (exact KS.out _ (by (repeat first | assumption | exact Lib.Hid.out (by assumption) | exact Keeps.refl _ _ | refine Keeps.alloc ?_ _ | refine Keeps.drewN ?_ _ | refine Keeps.drew ?_ | refine Keeps.setCell ?_ _ _ (fun h => by simp at h <;> omega)))) (first
                | (refine step_append elem31 (by rfl) (.tmp 87) (.tmp 90) (by rfl) w5.heap.size (.slice (some ⟨w5.heap.size, 0, none⟩) 0 0) [] o.fs o.A o.n o.c (by rfl) (by rfl) (((own_empty fld w5.drew 51 w5.heap.size w5.heap.size rfl (Nat.le_refl _)).alloc _)) ((RF.out.drew.alloc _).alloc _) hap hap2 (by simp; omega) ?_
                   intro k4 A4 c4 w4 hk4 own4 gr4 at4
                   have k4' : Keeps (fun _ => False) w5 w4 := own_grow (by (repeat first | assumption | exact Lib.Hid.out (by assumption) | exact Keeps.refl _ _ | refine Keeps.alloc ?_ _ | refine Keeps.drewN ?_ _ | refine Keeps.drew ?_ | refine Keeps.setCell ?_ _ _ (fun h => by simp at h <;> omega))) gr4 (by simp [Value.ownBlock])
                   have bx4 := (Blk.new (w5.drew.alloc (.cells #[] 51)) 32 #[.int .i64 0, .slice none 0 0] (w5.heap.size + 1) (by simp)).grown gr4 (by simp [Value.ownBlock])
                   have hk := hk4.trans (Nat.zero_add o.n)
                   subst hk
                   have l0 := bx4.cell 0
                   have l1 := bx4.cell 1
                   have e0' := bx4.frozen 0
                   have e1' := bx4.frozen 1
                   simp at l0 l1
                   have BX := Lib.hid bx4
                   have O4 := Lib.hid own4
                   have K4 := Lib.hid k4'
                   clear own4 gr4 at4 hk4 bx4 k4')
                | (refine step_append elem31 (by rfl) (.tmp 87) (.tmp 90) (by rfl) w5.heap.size (.slice (some ⟨w5.heap.size, 0, none⟩) 0 0) [] o.fs o.A o.n o.c (by rfl) (by rfl) (own_empty fld w5.drew 51 w5.heap.size w5.heap.size rfl (Nat.le_refl _)) (RF.out.drew.alloc _) hap hap2 (by simp) ?_
                   intro k4 A4 c4 w4 hk4 own4 gr4 at4
                   have k4' : Keeps (fun _ => False) w5 w4 := own_grow (by (repeat first | assumption | exact Lib.Hid.out (by assumption) | exact Keeps.refl _ _ | refine Keeps.alloc ?_ _ | refine Keeps.drewN ?_ _ | refine Keeps.drew ?_ | refine Keeps.setCell ?_ _ _ (fun h => by simp at h <;> omega))) gr4 (by simp [Value.ownBlock])
                   have hk := hk4.trans (Nat.zero_add o.n)
                   subst hk
                   have O4 := Lib.hid own4
                   have K4 := Lib.hid k4'
                   clear own4 gr4 at4 hk4 k4')
                | (refine step_append elem31 (by rfl) (.tmp 87) (.tmp 90) (by rfl) w5.heap.size (.slice (some ⟨w5.heap.size + 1, 0, none⟩) 0 0) [] o.fs o.A o.n o.c (by rfl) (by rfl) (own_empty fld (w5.drew.alloc _) 51 w5.heap.size (w5.heap.size + 1) (by simp) (by omega)) ((RF.out.drew.alloc _).alloc _) hap hap2 (by simp; omega) ?_
                   intro k4 A4 c4 w4 hk4 own4 gr4 at4
                   have k4' : Keeps (fun _ => False) w5 w4 := own_grow (by (repeat first | assumption | exact Lib.Hid.out (by assumption) | exact Keeps.refl _ _ | refine Keeps.alloc ?_ _ | refine Keeps.drewN ?_ _ | refine Keeps.drew ?_ | refine Keeps.setCell ?_ _ _ (fun h => by simp at h <;> omega))) gr4 (by simp [Value.ownBlock])
                   have bx4 := ((Blk.new w5.drew 32 #[.int .i64 0, .slice none 0 0] w5.heap.size rfl).alloc (.cells #[] 51)).grown gr4 (by simp [Value.ownBlock])
                   have hk := hk4.trans (Nat.zero_add o.n)
                   subst hk
                   have l0 := bx4.cell 0
                   have l1 := bx4.cell 1
                   have e0' := bx4.frozen 0
                   have e1' := bx4.frozen 1
                   simp at l0 l1
                   have BX := Lib.hid bx4
                   have O4 := Lib.hid own4
                   have K4 := Lib.hid k4'
                   clear own4 gr4 at4 hk4 bx4 k4'))
              all_goals
                rw [List.nil_append] at O4
                go_wp2_with fail
                go_meet
                refine ⟨_, A4, c4, rfl, ?_, ?_, (by (repeat first | assumption | exact Lib.Hid.out (by assumption) | exact Keeps.refl _ _ | refine Keeps.alloc ?_ _ | refine Keeps.drewN ?_ _ | refine Keeps.drew ?_ | refine Keeps.setCell ?_ _ _ (fun h => by simp at h <;> omega)))⟩
                · first | exact (BX.out.set 0 _).set 1 _ | exact Blk.new w4 32 _ _ rfl
                · first | exact O4.out.alloc _ | exact (O4.out.setCell _ _ (fun q hq e => O4.out.blk_ne BX.out (by decide) (by rw [hq, e]))).setCell _ _ (fun q hq e => O4.out.blk_ne BX.out (by decide) (by rw [hq, e]))
            case rest =>
              obtain ⟨X, A4, c4, rfl, bx4, o4, kc⟩ := hcut
              have PC := Lib.hid (P5.out.keep kc)
              have hv1 := (X5.out.keeps kc (fun h => h)).cell 1
              have bx0 := bx4.cell 0
              have bx1 := bx4.cell 1
              simp at hv1 bx0 bx1
              have BC := Lib.hid bx4
              have OC := Lib.hid o4
              have KC := Lib.hid kc
              obtain ⟨pv, hpv⟩ : ∃ pv, pv = putE l n N o.name := ⟨_, rfl⟩
              have HPV := Lib.hid hpv
              clear kc bx4 o4 hpv
              go_upto_region 22 with (
                go_at_call 8; refine (put_u PC.out.x o.name o.ty A4 o.n c4 o.fs (own_reads OC.out) HO.out.2.2).mono ?_
                rintro e w7 ⟨rfl, A2, n2, c2, l2, q7, hl7, hn7, hm7, hr7, k7⟩
                rw [← HPV.out]
                rw [← HPV.out] at hl7 hn7
                have Q7 := Lib.hid q7
                have Y7 := Lib.hid (PC.out.yfoot k7)
                have BX := Lib.hid (BC.out.foot PC.out.x k7 (by decide) (by decide))
                have OS := Lib.hid (OC.out.foot PC.out.x k7 (by decide) (by decide))
                have LM := Lib.hid (And.intro hl7 (And.intro hn7 (And.intro hm7 hr7)))
                have K7 := Lib.hid ((KC.out.mono (S' := foot hx A n c) (fun _ _ h => h.elim)).trans k7 (fun _ _ h => h))
                clear q7 hl7 hn7 hm7 hr7 k7)
              go_wp2_with fail
              have hnb : o.n ≤ 1000000000000000 := by have := HO.out.2.2; omega
              go_loopw [16] (fun v wr => ∃ (j : Nat) (L : List FD), j ≤ o.n ∧ v = .int .i64 j ∧ Own fld wr w5.heap.size 51 (.slice A4 o.n c4) L ∧ L.length = o.n ∧ Keeps (fun b => (Value.slice A4 o.n c4).ownBlock = some b) w7 wr) (fun v _ => o.n - (intOf v).toNat)
              case atStart => exact ⟨0, o.fs, Nat.zero_le _, rfl, OS.out, OS.out.len_eq rfl, Keeps.refl _ w7⟩
              case round =>
                obtain ⟨j, L, hj, rfl, hoL, hL, kL⟩ := hrel
                have OL := Lib.hid hoL
                have KL := Lib.hid kL
                have bx := BX.out.keeps kL (fun e => OS.out.blk_ne BX.out (by decide) e)
                have bx1 := bx.cell 1
                simp at bx1
                by_cases hjn : j < o.n
                · obtain ⟨f, hf⟩ : ∃ f, L[j]? = some f := ⟨_, List.getElem?_eq_getElem (by rw [hL]; exact hjn)⟩
                  obtain ⟨b4, _, hv4, _⟩ := hoL.form (by rw [hL]; omega)
                  injection hv4 with hA4 hn4 hc4
                  subst hA4
                  have q1 := hoL.at_ hf (j := 1) rfl
                  have f1 := hoL.frozen (j * 2 + 1)
                  simp [fld] at q1
                  have HF := Lib.hid hf
                  have HLL := Lib.hid hL
                  clear hoL hL kL bx hf hn4 hc4
                  go_wp2_with fail
                  refine ⟨⟨j + 1, L.set j ⟨f.no, ⟨#[115, 112, 111, 105, 108, 116]⟩⟩, by omega, by go_num, ?_, by rw [List.length_set]; exact HLL.out, ?_⟩, by simp [intOf]; omega⟩
                  · exact OL.out.store (j := 1) (u := .string ⟨#[115, 112, 111, 105, 108, 116]⟩) (y := ⟨f.no, ⟨#[115, 112, 111, 105, 108, 116]⟩⟩) HF.out (by decide) rfl
                  · exact KL.out.setCell _ _ (fun _ => rfl)
                · have hd := OS.out
                  clear hoL hL kL hd
                  have hsafe : ∀ a ∈ l2, ∀ q, (Value.slice a.A a.n a.c).ownBlock = some q → (Value.slice A4 o.n c4).ownBlock ≠ some q := fun a ha q hq e => by
                    have h1 := OC.out.base_le e
                    have h2 := OC.out.lt e
                    rcases LM.out.2.2.1 a ha with h | h
                    · have h3 := (P5.out.x.ok a h).1.lt hq
                      omega
                    · have h3 := h q hq
                      omega
                  have hsafe2 : ∀ a ∈ m, ∀ q, (Value.slice a.A a.n a.c).ownBlock = some q → (Value.slice A4 o.n c4).ownBlock ≠ some q := fun a ha q hq e => by
                    have h1 := OC.out.base_le e
                    have h3 := (P5.out.y.ok a ha).1.lt hq
                    omega
                  have Q8 := Lib.hid (Q7.out.spoil OS.out hsafe KL.out)
                  have Y8 := Lib.hid (Y7.out.spoil OS.out hsafe2 KL.out)
                  have K8 := Lib.hid (K7.out.trans KL.out (fun b hb e => by have := OC.out.base_le e; omega))
                  have K8' := Lib.hid (K8.out.mono (S' := fun b => foot hx A n c b ∨ b = hy) (fun _ _ h => .inl h))
                  have ob := OB.out _ K8'.out
                  have hv1 := ob.cell 1
                  have hv2 := ob.cell 2
                  have hv3 := ob.cell 3
                  simp at hv1 hv2 hv3
                  have RO := Lib.hid (HO.out.keep (KF.out _ K8'.out))
                  clear ob bx
                  go_wp2_with (
                    go_at_call 21; refine (refPut_u Y8.out o.name o.ty o.A o.n o.c o.fs RO.out HO.out.2.2).mono ?_
                    rintro e w9 ⟨rfl, A3, n3, c3, m3, q9, hm9, hn9, k9⟩
                    rw [← putE_info P5.out.same n N o.name, ← HPV.out]
                    rw [← putE_info P5.out.same n N o.name, ← HPV.out] at hm9 hn9
                    have Q9 := Lib.hid q9
                    have HM9 := Lib.hid (And.intro hm9 hn9)
                    have K9 := Lib.hid k9
                    clear q9 hm9 hn9 k9)
                  go_meet
                  have hnn : n3 = n2 := by rw [HM9.out.2, LM.out.2.1]
                  have q9 := Q9.out
                  rw [hnn] at q9
                  have kz : Keeps (fun b => foot hx A n c b ∨ b = hy) w5 w9 := (K8'.out).trans K9.out (fun _ _ h => .inr h)
                  have p9 : PP w9 hx hy N A2 n2 c2 way l2 A3 c3 m3 := ⟨Q8.out.keepq K9.out (fun k hk => by
                    subst hk
                    exact ⟨fun e => (Q8.out.box.ne_ Y8.out.box (by decide)) e.symm, fun e => Q8.out.row.blk_ne Y8.out.box (by decide) e, fun a ha e => (Q8.out.ok a ha).1.blk_ne Y8.out.box (by decide) e⟩), q9, by rw [LM.out.1, HM9.out.1, P5.out.same]⟩
                  exact ⟨hx, hy, hz, hu, rfl, rfl, rfl, rfl, Inv.step P5.out Z5.out ne1 ne2 AP.out b1 b2 B3.out hB5 kz p9 (fun q hq => (LM.out.2.2.2 q hq).imp_right (fun h => Nat.le_trans KC.out.size h)), KF.out _ kz⟩
        · as_aux_lemma =>
            obtain ⟨s0, t0, f0, i0, ht0⟩ : ∃ s0 t0 f0 i0, told way (l.map info) = ((s0, t0, f0), i0) := ⟨_, _, _, _, rfl⟩
            have ht0' := ht0
            rw [P5.out.same] at ht0'
            have T0 := Lib.hid ht0
            have T0' := Lib.hid ht0'
            obtain ⟨s1, t1, f1, i1, ht1⟩ : ∃ s1 t1 f1 i1, told (!way) (l.map info) = ((s1, t1, f1), i1) := ⟨_, _, _, _, rfl⟩
            have ht1' := ht1
            rw [P5.out.same] at ht1'
            have T1 := Lib.hid ht1
            have T1' := Lib.hid ht1'
            clear ht1 ht1'
            clear ht0 ht0'
            go_upto_region 33 with (first
              | (go_at_call 22; refine (refAgain_at P8.out.y T0'.out).mono ?_
                 rintro e w8 ⟨A8, c8, rfl, r8, k8⟩
                 have K8 := Lib.hid (K7a.out.trans k8 (fun _ _ h => h))
                 have R8 := Lib.hid r8
                 have B8 := Lib.hid (B7.out.keeps k8 (fun h => h))
                 have O8 := Lib.hid (O7.out.keeps k8 (fun _ _ h => h))
                 have hz8 := k8.size
                 clear r8 k8)
              | (go_at_call 14; refine (again_at P5.out.x T0.out).mono ?_
                 rintro e w7 ⟨A7, c7, rfl, o7, hn7, k7⟩
                 have K7 := Lib.hid k7
                 have k7a := k7.alloc (.cells #[.int .i64 t0, .slice A7 f0.length c7] 32)
                 have K7a := Lib.hid k7a
                 have P8 := Lib.hid (P5.out.keep k7a)
                 have O7 := Lib.hid (o7.alloc (.cells #[.int .i64 t0, .slice A7 f0.length c7] 32))
                 have B7 := Lib.hid (Blk.new w7 32 #[.int .i64 t0, .slice A7 f0.length c7] _ rfl)
                 clear o7 k7 k7a))
            obtain ⟨w9, hw9⟩ : ∃ w9, w9 = w8.alloc (.cells #[.int .i64 t0, .slice A8 f0.length c8] 32) := ⟨_, rfl⟩
            rw [← hw9]
            have k9 : Keeps (fun _ => False) w5 w9 := by rw [hw9]; exact K8.out.alloc _
            have P9 := Lib.hid (P5.out.keep k9)
            have r9 : Own fld w9 0 51 (.slice A8 f0.length c8) f0 := by rw [hw9]; exact R8.out.alloc _
            have o9 : Own fld w9 w5.heap.size 51 (.slice A7 f0.length c7) f0 := by rw [hw9]; exact O8.out.alloc _
            have ba : Blk w9 w7.heap.size 32 #[.int .i64 t0, .slice A7 f0.length c7] := by rw [hw9]; exact B8.out.alloc _
            have bb : Blk w9 w8.heap.size 32 #[.int .i64 t0, .slice A8 f0.length c8] := by rw [hw9]; exact Blk.new w8 32 _ _ rfl
            have hv0 := (X5.out.keeps k9 (fun h => h)).cell 0
            simp at hv0
            have hlt78 : w7.heap.size < w8.heap.size := B8.out.lt
            have hlt57 : w5.heap.size ≤ w7.heap.size := K7.out.size
            have R9 := Lib.hid r9
            have OS := Lib.hid o9
            have BX := Lib.hid ba
            have BY := Lib.hid bb
            have K9 := Lib.hid k9
            clear hw9 k9 r9 o9 ba bb R8 O8 B8 O7 B7 P8 K7a
            have BX9 := BX
            have BY9 := BY
            clear OS R9
            go_upto_region 35 with (first
              | (go_at_call 11; refine (send_at P9.out.x T1.out).mono ?_
                 rintro e w10 ⟨A10, c10, rfl, o10, hn10, q10, k10⟩
                 have Y10 := Lib.hid (P9.out.yfoot k10)
                 have Q10 := Lib.hid q10
                 have bx := BX9.out.foot P9.out.x k10 (by decide) (by decide)
                 have a0 := bx.cell 0
                 have a1 := bx.cell 1
                 have e0 := bx.frozen 0
                 have e1 := bx.frozen 1
                 simp at a0 a1
                 have BX := Lib.hid bx
                 have BY := Lib.hid (BY9.out.foot P9.out.x k10 (by decide) (by decide))
                 have O10 := Lib.hid o10
                 have K10 := Lib.hid k10
                 clear q10 k10 bx o10)
              | (go_at_call 15; refine (kind_any o.kind HO.out.1 w9).mono ?_
                 rintro e w4 ⟨rfl, hw4⟩
                 rw [hw4, ← HKV.out]
                 clear hw4))
            obtain ⟨w11, hw11⟩ : ∃ w11, w11 = (w10.setCell ⟨w7.heap.size, 0, none⟩ (.int .i64 t1)).setCell ⟨w7.heap.size, 1, none⟩ (.slice A10 f1.length c10) := ⟨_, rfl⟩
            rw [← hw11]
            have hlt79 : w7.heap.size < w9.heap.size := BX9.out.lt
            have k11 : Keeps (fun b => b = w7.heap.size) w10 w11 := by rw [hw11]; exact ((Keeps.refl (fun b => b = w7.heap.size) w10).setCell _ _ (fun _ => rfl)).setCell _ _ (fun _ => rfl)
            have bx11 : Blk w11 w7.heap.size 32 #[.int .i64 t1, .slice A10 f1.length c10] := by rw [hw11]; exact (BX.out.set 0 _).set 1 _
            have by11 := BY.out.keeps k11 (fun e => by omega)
            have q11 : QS w11 hx N A n c (way || i1) l := Q10.out.keepq k11 (fun k hk => by
              subst hk
              exact ⟨fun e => (BX.out.ne_ Q10.out.box (by decide)) e, fun e => Q10.out.row.blk_ne BX.out (by decide) e, fun a ha e => (Q10.out.ok a ha).1.blk_ne BX.out (by decide) e⟩)
            have y11 : QR w11 hy N A' n c' way m := Y10.out.keepg k11 (fun k hk => by
              subst hk
              exact ⟨fun e => (BX.out.ne_ Y10.out.box (by decide)) e, fun e => Y10.out.row.blk_ne BX.out (by decide) e, fun a ha e => (Y10.out.ok a ha).1.blk_ne BX.out (by decide) e⟩)
            have o11 : Own fld w11 w9.heap.size 51 (.slice A10 f1.length c10) f1 := O10.out.keep1 k11 BX.out (by decide)
            have K11 := Lib.hid (((K9.out.mono (S' := foot hx A n c) (fun _ _ h => h.elim)).trans K10.out (fun _ _ h => h)).trans k11 (fun b hb e => by omega))
            have BX11 := Lib.hid bx11
            have BY11 := Lib.hid by11
            have Q11 := Lib.hid q11
            have Y11 := Lib.hid y11
            have O11 := Lib.hid o11
            clear hw11 k11 bx11 by11 q11 y11 o11 a0 a1 e0 e1
            go_upto_region 36 with (
              go_at_call 23; refine (refSend_at Y11.out T1'.out).mono ?_
              rintro e w12 ⟨A12, c12, rfl, r12, q12, k12⟩
              have by12 := BY11.out.keeps k12 (fun e => (BY11.out.ne_ Y11.out.box (by decide)) e)
              have a0 := by12.cell 0
              have a1 := by12.cell 1
              have e0 := by12.frozen 0
              have e1 := by12.frozen 1
              simp at a0 a1
              have BY12 := Lib.hid by12
              have Y12 := Lib.hid q12
              have R12 := Lib.hid r12
              have K12 := Lib.hid k12
              clear by12 q12 r12 k12)
            obtain ⟨w13, hw13⟩ : ∃ w13, w13 = (w12.setCell ⟨w8.heap.size, 0, none⟩ (.int .i64 t1)).setCell ⟨w8.heap.size, 1, none⟩ (.slice A12 f1.length c12) := ⟨_, rfl⟩
            rw [← hw13]
            have hlt89 : w8.heap.size < w9.heap.size := BY9.out.lt
            have k13 : Keeps (fun b => b = w8.heap.size) w12 w13 := by rw [hw13]; exact ((Keeps.refl (fun b => b = w8.heap.size) w12).setCell _ _ (fun _ => rfl)).setCell _ _ (fun _ => rfl)
            have by13 : Blk w13 w8.heap.size 32 #[.int .i64 t1, .slice A12 f1.length c12] := by rw [hw13]; exact (BY12.out.set 0 _).set 1 _
            have bx12 := BX11.out.keeps K12.out (fun e => (BX11.out.ne_ Y11.out.box (by decide)) e)
            have bx13 := bx12.keeps k13 (fun e => by omega)
            have q12 : QS w12 hx N A n c (way || i1) l := Q11.out.keepq K12.out (fun k hk => by
              subst hk
              exact ⟨fun e => (Q11.out.box.ne_ Y11.out.box (by decide)) e.symm, fun e => Q11.out.row.blk_ne Y11.out.box (by decide) e, fun a ha e => (Q11.out.ok a ha).1.blk_ne Y11.out.box (by decide) e⟩)
            have q13 : QS w13 hx N A n c (way || i1) l := q12.keepq k13 (fun k hk => by
              subst hk
              exact ⟨fun e => (BY12.out.ne_ q12.box (by decide)) e, fun e => q12.row.blk_ne BY12.out (by decide) e, fun a ha e => (q12.ok a ha).1.blk_ne BY12.out (by decide) e⟩)
            have y13 : QR w13 hy N A' n c' (way || i1) m := Y12.out.keepg k13 (fun k hk => by
              subst hk
              exact ⟨fun e => (BY12.out.ne_ Y12.out.box (by decide)) e, fun e => Y12.out.row.blk_ne BY12.out (by decide) e, fun a ha e => (Y12.out.ok a ha).1.blk_ne BY12.out (by decide) e⟩)
            have o12 : Own fld w12 w9.heap.size 51 (.slice A10 f1.length c10) f1 := O11.out.keep1 K12.out Y11.out.box (by decide)
            have o13 : Own fld w13 w9.heap.size 51 (.slice A10 f1.length c10) f1 := o12.keep1 k13 BY12.out (by decide)
            have hz9 := K9.out.size
            have o14 := o13.rebase w5.heap.size (fun q hq => Nat.le_trans hz9 (o13.base_le hq))
            have r13 : Own fld w13 0 51 (.slice A12 f1.length c12) f1 := R12.out.keep1 k13 BY12.out (by decide)
            have K13 := Lib.hid (((K11.out.mono (S' := fun b => foot hx A n c b ∨ b = hy) (fun _ _ h => .inl h)).trans K12.out (fun _ _ h => .inr h)).trans k13 (fun b hb e => by omega))
            have P13 := Lib.hid (show PP w13 hx hy N A n c (way || i1) l A' c' m from ⟨q13, y13, P5.out.same⟩)
            have R9 := Lib.hid r13
            have OS := Lib.hid o14
            clear BX
            have a0 := bx13.cell 0
            have a1 := bx13.cell 1
            have d0 := by13.cell 0
            have d1 := by13.cell 1
            simp at a0 a1 d0 d1
            have BX := Lib.hid bx13
            clear hw13 k13 by13 bx12 bx13 q12 q13 y13 o12 o13 o14 r13 e0 e1
            go_upto_region 37 with (
              go_at_call 24; refine (same_msg t1 A10 f1.length c10 A12 c12 f1 w13 (own_reads OS.out) (own_reads R9.out) (by omega)).mono ?_
              rintro e wt ⟨rfl, kt⟩
              have kt' : Keeps (fun _ => False) w13 wt := kt
              have KT := Lib.hid kt'
              clear kt kt')
            have PT := Lib.hid (P13.out.keep KT.out)
            have OT := Lib.hid (OS.out.keeps KT.out (fun _ _ h => h))
            have BT := Lib.hid (BX.out.keeps KT.out (fun h => h))
            clear OS BX
            have OS := OT
            have BX := BT
            go_upto_region 39 with fail
            go_wp2_with fail
            have hnb : f1.length ≤ 1000000000000000 := by have := HO.out.2.2; omega
            go_loopw [25] (fun v wr => ∃ (j : Nat) (L : List FD), j ≤ f1.length ∧ v = .int .i64 j ∧ Own fld wr w5.heap.size 51 (.slice A10 f1.length c10) L ∧ L.length = f1.length ∧ Keeps (fun b => (Value.slice A10 f1.length c10).ownBlock = some b) wt wr) (fun v _ => f1.length - (intOf v).toNat)
            case atStart => exact ⟨0, f1, Nat.zero_le _, rfl, OS.out, OS.out.len_eq rfl, Keeps.refl _ wt⟩
            case round =>
              obtain ⟨j, L, hj, rfl, hoL, hL, kL⟩ := hrel
              have OL := Lib.hid hoL
              have KL := Lib.hid kL
              have bx := BX.out.keeps kL (fun e => OS.out.blk_ne BX.out (by decide) e)
              have bx1 := bx.cell 1
              simp at bx1
              by_cases hjn : j < f1.length
              · obtain ⟨f, hf⟩ : ∃ f, L[j]? = some f := ⟨_, List.getElem?_eq_getElem (by rw [hL]; exact hjn)⟩
                obtain ⟨b4, _, hv4, _⟩ := hoL.form (by rw [hL]; omega)
                injection hv4 with hA4 hn4 hc4
                subst hA4
                have q1 := hoL.at_ hf (j := 1) rfl
                have f1 := hoL.frozen (j * 2 + 1)
                simp [fld] at q1
                have HF := Lib.hid hf
                have HLL := Lib.hid hL
                clear hoL hL kL bx hf hn4 hc4
                go_wp2_with fail
                refine ⟨⟨j + 1, L.set j ⟨f.no, ⟨#[115, 112, 111, 105, 108, 116]⟩⟩, by omega, by go_num, ?_, by rw [List.length_set]; exact HLL.out, ?_⟩, by simp [intOf]; omega⟩
                · exact OL.out.store (j := 1) (u := .string ⟨#[115, 112, 111, 105, 108, 116]⟩) (y := ⟨f.no, ⟨#[115, 112, 111, 105, 108, 116]⟩⟩) HF.out (by decide) rfl
                · exact KL.out.setCell _ _ (fun _ => rfl)
              · have hd := OS.out
                clear hoL hL kL hd
                have hsafe : ∀ a ∈ l, ∀ q, (Value.slice a.A a.n a.c).ownBlock = some q → (Value.slice A10 f1.length c10).ownBlock ≠ some q := fun a ha q hq e => by
                  have h1 := OS.out.base_le e
                  have h3 := (P5.out.x.ok a ha).1.lt hq
                  omega
                have hsafe2 : ∀ a ∈ m, ∀ q, (Value.slice a.A a.n a.c).ownBlock = some q → (Value.slice A10 f1.length c10).ownBlock ≠ some q := fun a ha q hq e => by
                  have h1 := OS.out.base_le e
                  have h3 := (P5.out.y.ok a ha).1.lt hq
                  omega
                clear bx
                have PZ := Lib.hid (show PP wr hx hy N A n c (way || i1) l A' c' m from ⟨PT.out.x.spoil OS.out hsafe KL.out, PT.out.y.spoil OS.out hsafe2 KL.out, P5.out.same⟩)
                have KZ := Lib.hid (((K13.out).trans KT.out (fun _ _ h => h.elim)).trans KL.out (fun b hb e => by have := OS.out.base_le e; omega))
                go_wp2_with fail
                go_meet
                exact ⟨hx, hy, hz, hu, rfl, rfl, rfl, rfl, Inv.step P5.out Z5.out ne1 ne2 AP.out b1 b2 B3.out hB5 KZ.out PZ.out (fun q hq => .inl hq), KF.out _ KZ.out⟩
        · as_aux_lemma =>
            obtain ⟨s0, t0, f0, i0, ht0⟩ : ∃ s0 t0 f0 i0, told way (l.map info) = ((s0, t0, f0), i0) := ⟨_, _, _, _, rfl⟩
            have ht0' := ht0
            rw [P5.out.same] at ht0'
            have T0 := Lib.hid ht0
            have T0' := Lib.hid ht0'
            clear ht0 ht0'
            go_upto_region 33 with (first
              | (go_at_call 22; refine (refAgain_at P8.out.y T0'.out).mono ?_
                 rintro e w8 ⟨A8, c8, rfl, r8, k8⟩
                 have K8 := Lib.hid (K7a.out.trans k8 (fun _ _ h => h))
                 have R8 := Lib.hid r8
                 have B8 := Lib.hid (B7.out.keeps k8 (fun h => h))
                 have O8 := Lib.hid (O7.out.keeps k8 (fun _ _ h => h))
                 have hz8 := k8.size
                 clear r8 k8)
              | (go_at_call 14; refine (again_at P5.out.x T0.out).mono ?_
                 rintro e w7 ⟨A7, c7, rfl, o7, hn7, k7⟩
                 have K7 := Lib.hid k7
                 have k7a := k7.alloc (.cells #[.int .i64 t0, .slice A7 f0.length c7] 32)
                 have K7a := Lib.hid k7a
                 have P8 := Lib.hid (P5.out.keep k7a)
                 have O7 := Lib.hid (o7.alloc (.cells #[.int .i64 t0, .slice A7 f0.length c7] 32))
                 have B7 := Lib.hid (Blk.new w7 32 #[.int .i64 t0, .slice A7 f0.length c7] _ rfl)
                 clear o7 k7 k7a))
            obtain ⟨w9, hw9⟩ : ∃ w9, w9 = w8.alloc (.cells #[.int .i64 t0, .slice A8 f0.length c8] 32) := ⟨_, rfl⟩
            rw [← hw9]
            have k9 : Keeps (fun _ => False) w5 w9 := by rw [hw9]; exact K8.out.alloc _
            have P9 := Lib.hid (P5.out.keep k9)
            have r9 : Own fld w9 0 51 (.slice A8 f0.length c8) f0 := by rw [hw9]; exact R8.out.alloc _
            have o9 : Own fld w9 w5.heap.size 51 (.slice A7 f0.length c7) f0 := by rw [hw9]; exact O8.out.alloc _
            have ba : Blk w9 w7.heap.size 32 #[.int .i64 t0, .slice A7 f0.length c7] := by rw [hw9]; exact B8.out.alloc _
            have bb : Blk w9 w8.heap.size 32 #[.int .i64 t0, .slice A8 f0.length c8] := by rw [hw9]; exact Blk.new w8 32 _ _ rfl
            have hv0 := (X5.out.keeps k9 (fun h => h)).cell 0
            simp at hv0
            have hlt78 : w7.heap.size < w8.heap.size := B8.out.lt
            have hlt57 : w5.heap.size ≤ w7.heap.size := K7.out.size
            have R9 := Lib.hid r9
            have OS := Lib.hid o9
            have BX := Lib.hid ba
            have BY := Lib.hid bb
            have K9 := Lib.hid k9
            clear hw9 k9 r9 o9 ba bb R8 O8 B8 O7 B7 P8 K7a
            go_upto_region 36 with (
              go_at_call 15; refine (kind_any o.kind HO.out.1 w9).mono ?_
              rintro e w4 ⟨rfl, hw4⟩
              rw [hw4, ← HKV.out]
              clear hw4)
            have a0 := BX.out.cell 0
            have a1 := BX.out.cell 1
            have d0 := BY.out.cell 0
            have d1 := BY.out.cell 1
            simp at a0 a1 d0 d1
            go_upto_region 37 with (
              go_at_call 24; refine (same_msg t0 A7 f0.length c7 A8 c8 f0 w9 (own_reads OS.out) (own_reads R9.out) (by omega)).mono ?_
              rintro e wt ⟨rfl, kt⟩
              have kt' : Keeps (fun _ => False) w9 wt := kt
              have KT := Lib.hid kt'
              clear kt kt')
            have PT := Lib.hid (P9.out.keep KT.out)
            have OT := Lib.hid (OS.out.keeps KT.out (fun _ _ h => h))
            have BT := Lib.hid (BX.out.keeps KT.out (fun h => h))
            clear OS BX
            have OS := OT
            have BX := BT
            go_upto_region 39 with fail
            go_wp2_with fail
            have hnb : f0.length ≤ 1000000000000000 := by have := HO.out.2.2; omega
            go_loopw [25] (fun v wr => ∃ (j : Nat) (L : List FD), j ≤ f0.length ∧ v = .int .i64 j ∧ Own fld wr w5.heap.size 51 (.slice A7 f0.length c7) L ∧ L.length = f0.length ∧ Keeps (fun b => (Value.slice A7 f0.length c7).ownBlock = some b) wt wr) (fun v _ => f0.length - (intOf v).toNat)
            case atStart => exact ⟨0, f0, Nat.zero_le _, rfl, OS.out, OS.out.len_eq rfl, Keeps.refl _ wt⟩
            case round =>
              obtain ⟨j, L, hj, rfl, hoL, hL, kL⟩ := hrel
              have OL := Lib.hid hoL
              have KL := Lib.hid kL
              have bx := BX.out.keeps kL (fun e => OS.out.blk_ne BX.out (by decide) e)
              have bx1 := bx.cell 1
              simp at bx1
              by_cases hjn : j < f0.length
              · obtain ⟨f, hf⟩ : ∃ f, L[j]? = some f := ⟨_, List.getElem?_eq_getElem (by rw [hL]; exact hjn)⟩
                obtain ⟨b4, _, hv4, _⟩ := hoL.form (by rw [hL]; omega)
                injection hv4 with hA4 hn4 hc4
                subst hA4
                have q1 := hoL.at_ hf (j := 1) rfl
                have f1 := hoL.frozen (j * 2 + 1)
                simp [fld] at q1
                have HF := Lib.hid hf
                have HLL := Lib.hid hL
                clear hoL hL kL bx hf hn4 hc4
                go_wp2_with fail
                refine ⟨⟨j + 1, L.set j ⟨f.no, ⟨#[115, 112, 111, 105, 108, 116]⟩⟩, by omega, by go_num, ?_, by rw [List.length_set]; exact HLL.out, ?_⟩, by simp [intOf]; omega⟩
                · exact OL.out.store (j := 1) (u := .string ⟨#[115, 112, 111, 105, 108, 116]⟩) (y := ⟨f.no, ⟨#[115, 112, 111, 105, 108, 116]⟩⟩) HF.out (by decide) rfl
                · exact KL.out.setCell _ _ (fun _ => rfl)
              · have hd := OS.out
                clear hoL hL kL hd
                have hsafe : ∀ a ∈ l, ∀ q, (Value.slice a.A a.n a.c).ownBlock = some q → (Value.slice A7 f0.length c7).ownBlock ≠ some q := fun a ha q hq e => by
                  have h1 := OS.out.base_le e
                  have h3 := (P5.out.x.ok a ha).1.lt hq
                  omega
                have hsafe2 : ∀ a ∈ m, ∀ q, (Value.slice a.A a.n a.c).ownBlock = some q → (Value.slice A7 f0.length c7).ownBlock ≠ some q := fun a ha q hq e => by
                  have h1 := OS.out.base_le e
                  have h3 := (P5.out.y.ok a ha).1.lt hq
                  omega
                clear bx
                have PZ := Lib.hid (show PP wr hx hy N A n c way l A' c' m from ⟨PT.out.x.spoil OS.out hsafe KL.out, PT.out.y.spoil OS.out hsafe2 KL.out, P5.out.same⟩)
                have KZ := Lib.hid (((K9.out.mono (S' := fun b => foot hx A n c b ∨ b = hy) (fun _ _ h => h.elim)).trans KT.out (fun _ _ h => h.elim)).trans KL.out (fun b hb e => by have := OS.out.base_le e; omega))
                go_wp2_with fail
                go_meet
                exact ⟨hx, hy, hz, hu, rfl, rfl, rfl, rfl, Inv.step P5.out Z5.out ne1 ne2 AP.out b1 b2 B3.out hB5 KZ.out PZ.out (fun q hq => .inl hq), KF.out _ KZ.out⟩
        · as_aux_lemma =>
            obtain ⟨dv, hdv⟩ : ∃ dv, dv = doneB way (l.map info) o.name := ⟨_, rfl⟩
            have HDV := Lib.hid hdv
            clear hdv
            go_wp2_with (first
              | (go_at_call 25; refine (refDone_u Y7.out o.name).mono ?_
                 rintro e w9 ⟨rfl, A3, n3, c3, way3, m3, q9, hn9, hw9, hm9, k9⟩
                 rw [← P5.out.same, ← HDV.out]
                 rw [← P5.out.same, ← HDV.out] at hm9 hn9 hw9
                 have Q9 := Lib.hid q9
                 have HM9 := Lib.hid (And.intro hm9 (And.intro hn9 hw9))
                 have K9 := Lib.hid k9
                 clear q9 hm9 hn9 hw9 k9)
              | (go_at_call 13; refine (done_u P5.out.x o.name).mono ?_
                 rintro e w7 ⟨rfl, n2, way2, l2, q7, hn7, hw7, hl7, hr7, k7⟩
                 rw [← HDV.out]
                 rw [← HDV.out] at hl7 hn7 hw7
                 have Q7 := Lib.hid q7
                 have Y7 := Lib.hid (P5.out.yfoot k7)
                 have LM := Lib.hid (And.intro hl7 (And.intro hn7 (And.intro hw7 hr7)))
                 have K7 := Lib.hid k7
                 have hv1 := (OB.out _ (k7.mono (fun _ _ h => .inl h))).cell 1
                 simp at hv1
                 clear q7 hl7 hn7 hw7 hr7 k7))
            go_meet
            have hnn : n3 = n2 := by rw [HM9.out.2.1, LM.out.2.1]
            have hww : way3 = way2 := by rw [HM9.out.2.2, LM.out.2.2.1]
            have q9 := Q9.out
            rw [hnn, hww] at q9
            have kz : Keeps (fun b => foot hx A n c b ∨ b = hy) w5 w9 := (K7.out.mono (S' := fun b => foot hx A n c b ∨ b = hy) (fun _ _ h => .inl h)).trans K9.out (fun _ _ h => .inr h)
            have p9 : PP w9 hx hy N A n2 c way2 l2 A3 c3 m3 := ⟨Q7.out.keepq K9.out (fun k hk => by
              subst hk
              exact ⟨fun e => (Q7.out.box.ne_ Y7.out.box (by decide)) e.symm, fun e => Q7.out.row.blk_ne Y7.out.box (by decide) e, fun a ha e => (Q7.out.ok a ha).1.blk_ne Y7.out.box (by decide) e⟩), q9, by rw [LM.out.1, HM9.out.1]⟩
            exact ⟨hx, hy, hz, hu, rfl, rfl, rfl, rfl, Inv.step P5.out Z5.out ne1 ne2 AP.out b1 b2 B3.out hB5 kz p9 (fun q hq => .inl (LM.out.2.2.2 q hq)), KF.out _ kz⟩
        · as_aux_lemma =>
            go_wp2_with (first
              | (go_at_call 26; refine (refStop_u Y7.out).mono ?_
                 rintro e w9 ⟨rfl, q9, k9⟩
                 have Q9 := Lib.hid q9
                 have K9 := Lib.hid k9
                 clear q9 k9)
              | (go_at_call 12; refine (stop_any P5.out.x).mono ?_
                 rintro e w7 ⟨rfl, q7, k7⟩
                 have k7' : Keeps (foot hx A n c) w5 w7 := k7.mono (fun _ _ h => .inl h)
                 have Q7 := Lib.hid q7
                 have Y7 := Lib.hid (P5.out.yfoot k7')
                 have K7 := Lib.hid k7'
                 clear q7 k7 k7'))
            go_meet
            have kz : Keeps (fun b => foot hx A n c b ∨ b = hy) w5 w9 := (K7.out.mono (S' := fun b => foot hx A n c b ∨ b = hy) (fun _ _ h => .inl h)).trans K9.out (fun _ _ h => .inr h)
            have p9 : PP w9 hx hy N A n c false l A' c' m := ⟨Q7.out.keepq K9.out (fun k hk => by
              subst hk
              exact ⟨fun e => (Q7.out.box.ne_ Y7.out.box (by decide)) e.symm, fun e => Q7.out.row.blk_ne Y7.out.box (by decide) e, fun a ha e => (Q7.out.ok a ha).1.blk_ne Y7.out.box (by decide) e⟩), Q9.out, P5.out.same⟩
            exact ⟨hx, hy, hz, hu, rfl, rfl, rfl, rfl, Inv.step P5.out Z5.out ne1 ne2 AP.out b1 b2 B3.out hB5 kz p9 (fun q hq => .inl hq), KF.out _ kz⟩
        · as_aux_lemma =>
            go_wp2_with (first
              | (go_at_call 20; refine (refClone_any P7.out.y).mono ?_
                 rintro e w9 ⟨gy2, rfl, q9, hg9, k9⟩
                 have Q9 := Lib.hid q9
                 have K9 := Lib.hid k9
                 clear q9 k9)
              | (go_at_call 19; refine (clone_any P5.out.x).mono ?_
                 rintro e w7 ⟨gx2, A2, c2, rfl, q7, hg7, hr7, k7⟩
                 have P7 := Lib.hid (P5.out.keep k7)
                 have Q7 := Lib.hid q7
                 have HR7 := Lib.hid hr7
                 have K7 := Lib.hid k7
                 clear q7 k7 hr7))
            go_meet
            have kz : Keeps (fun _ => False) w5 w9 := K7.out.trans K9.out (fun _ _ h => h)
            exact ⟨gx2, gy2, hx, hy, rfl, rfl, rfl, rfl, Inv.clone P5.out hB5 kz (Q7.out.keep K9.out) Q9.out hg7 (Nat.le_trans K7.out.size hg9) HR7.out, KF.out _ (kz.mono (fun _ _ h => h.elim))⟩
      case rest =>
        obtain ⟨gx2, gy2, gz2, gw2, rfl, rfl, rfl, rfl, iv, kz⟩ := hcut
        obtain ⟨A, n, c, way, l, A', c', m, Az, nz, cz, wayz, lz, Aw, cw, mw, hp, hz5, ne1, ne2, ap, b1, b2, b3⟩ := iv
        have PA := Lib.hid hp
        have ZA := Lib.hid hz5
        have AP := Lib.hid ap
        have B3 := Lib.hid b3
        have KA := Lib.hid kz
        clear hp hz5 ap b3 kz
        go_wp2_with (first
          | (go_at_call 27; have K8' := K8; refine (like_any Z8.out.x Z8.out.y Z8.out.names).mono ?_
             rintro e w9 ⟨rfl, k9⟩
             have K9 := Lib.hid (K8.out.trans k9 (fun _ _ h => h))
             clear k9)
          | (go_at_call 27; refine (like_any PA.out.x PA.out.y PA.out.names).mono ?_
             rintro e w8 ⟨rfl, k8⟩
             have K8 := Lib.hid k8
             have Z8 := Lib.hid (ZA.out.keep k8)
             clear k8))
        exact ⟨⟨k + 1, gx2, gy2, gz2, gw2, rfl, rfl, rfl, rfl, by go_num, by omega, by omega, ⟨A, n, c, way, l, A', c', m, Az, nz, cz, wayz, lz, Aw, cw, mw, PA.out.keep K9.out, ZA.out.keep K9.out, ne1, ne2, AP.out, b1, b2, B3.out⟩, KA.out.trans K9.out (fun _ _ h => h.elim)⟩, by simp [intOf]; omega⟩
    · have K3 := Lib.hid hkk
      clear hiv hkk
      by_cases h1 : k < ns
      · have h2 : ¬ k < 100 := by omega
        go_wp2_with fail
        go_ret
        exact ⟨rfl, K3.out.mono (fun b hb h => by omega)⟩
      · by_cases h2 : k < 100
        · go_wp2_with fail
          go_ret
          exact ⟨rfl, K3.out.mono (fun b hb h => by omega)⟩
        · go_wp2_with fail
          go_ret
          exact ⟨rfl, K3.out.mono (fun b hb h => by omega)⟩
end Go.Proofs.Ytfidhnplaieacaa
