/- Things are set, dropped, and come due as the document says: walked. -/
import Derived.Test.YteeginfbonfhlaaPair
import Derived.Laws.StructEq
namespace Go.Proofs.Yteeginfbonfhlaa
open Go.RowKit Mem
theorem eq_due (d : DU) (W : World) : (Op.equal 34 (.agg #[.int .i64 d.at_, .string d.key, .int .i64 d.kind]) (.agg #[.int .i64 d.at_, .string d.key, .int .i64 d.kind])).run Try.prog W = .ok true W := by
  rw [show Op.equal 34 (.agg #[.int .i64 d.at_, .string d.key, .int .i64 d.kind]) (.agg #[.int .i64 d.at_, .string d.key, .int .i64 d.kind]) = Op.equalIn (9999 + 1) 34 (.agg #[.int .i64 d.at_, .string d.key, .int .i64 d.kind]) (.agg #[.int .i64 d.at_, .string d.key, .int .i64 d.kind]) from rfl]
  rw [run_equalIn_struct W 9999 34 _ _ (by kernel_rfl) (by kernel_rfl)]
  simp [Program.fieldsOf, Try.underlying34, Op.eqFields, go_sem, run_equalIn_int _ 9998 3 _ _ _ _ Try.underlying3]
theorem neq_due (d : DU) (W : World) : (binOp BinOp.neq 34 (.agg #[.int .i64 d.at_, .string d.key, .int .i64 d.kind]) (.agg #[.int .i64 d.at_, .string d.key, .int .i64 d.kind])).run Try.prog W = .ok (.bool false) W := by
  simp [go_sem, binOp, eq_due]
theorem setL_len2 {L : List DU} (hU : Unlike L) (c : Int) (s : ByteArray) (i t : Int) : (setL c L s i t).length ≤ L.length + 1 := by
  unfold setL
  split
  · omega
  · have := wo_len hU s i
    rw [List.length_append, List.length_singleton]
    omega
theorem dueL_len (c : Int) (L : List DU) : (dueL c L).length ≤ L.length := by
  unfold dueL
  cases dueR c L with
  | none => exact Nat.le_refl _
  | some x => exact wo_le L _ _
/-- Which of the eight. -/
def kindOf (n : Int) : Int := (if n < 0 then -(n + 1) else n) % 8
set_option maxHeartbeats 800000 in
theorem kind_any (n : Int) (hr : -9223372036854775808 ≤ n ∧ n ≤ 9223372036854775807) (w : World) : Calls Try.prog 18 #[.int .i64 n] w fun e w' => e = .returned (.int .i64 (kindOf n)) ∧ w' = w := by
  by_cases h : n < 0
  · obtain ⟨m, hm⟩ : ∃ m, m = -(n + 1) := ⟨_, rfl⟩
    have e : kindOf n = m % 8 := by unfold kindOf; rw [if_pos h, hm]
    rw [e]
    have hw : IntKind.i64.wrap (n + 1) = n + 1 := IntWalk.i64_in _ (by omega)
    have hw2 : IntKind.i64.wrap (-(n + 1)) = m := by rw [hm]; exact IntWalk.i64_in _ (by omega)
    have hw3 : -(n + 1) = m := hm.symm
    have h0 : 0 ≤ m := by omega
    have h1 : m ≤ 9223372036854775807 := by omega
    have h2 : ¬ m < 0 := by omega
    have hw4 : IntKind.i64.wrap m = m := IntWalk.i64_in _ (by omega)
    clear e hm
    go_enter Try.func18, Try.ntmps18
    go_wp2_with fail
    go_ret
    exact ⟨rfl, rfl⟩
  · have e : kindOf n = n % 8 := by unfold kindOf; rw [if_neg h]
    rw [e]
    clear e
    go_enter Try.func18, Try.ntmps18
    go_wp2_with fail
    go_ret
    exact ⟨rfl, rfl⟩
section
variable {w w' : World} {U U' V : Nat → Prop} {gx gy gz gw : Nat} {c c' c2 : Int} {L L' L2 : List DU} {N N' B : Nat}
theorem PT.more (h : PT w U gx gy c L N) (hN : N ≤ N') : PT w U gx gy c L N' := by
  obtain ⟨F, G, t, r, off, hU⟩ := h
  exact ⟨F, G, t.more hN, r, off, hU⟩
theorem likeP (h : PT w U gx gy c L N) (hN : N < 1000000) (hn : L.length ≤ 1000000) :
    Calls Try.prog 23 #[.pointer (some ⟨gx, 0, none⟩), .pointer (some ⟨gy, 0, none⟩)] w fun e w' => e = .returned (.bool true) ∧ PT w' U gx gy c L N ∧ Keeps U w w' := by
  obtain ⟨F, G, t, r, off, hU⟩ := h
  refine (like_any t r off hN hn).mono ?_
  rintro e w' ⟨he, t', r', k⟩
  exact ⟨he, ⟨F, G, t', r', off, hU⟩, k.mono (fun q _ h => (hU q).2 (.inl h))⟩
/-- Two pairs that lie apart. -/
def Inv (B : Nat) (w : World) (gx gy gz gw N : Nat) : Prop := ∃ (U V : Nat → Prop) (c : Int) (L : List DU) (c2 : Int) (L2 : List DU), PT w U gx gy c L N ∧ PT w V gz gw c2 L2 N ∧ Off U V ∧ Lies B U w ∧ Lies B V w ∧ L.length ≤ N ∧ L2.length ≤ N
theorem Inv.keep0 (h : Inv B w gx gy gz gw N) (K : Keeps (fun _ => False) w w') : Inv B w' gx gy gz gw N := by
  obtain ⟨U, V, c, L, c2, L2, p, z, off, lu, lv, l1, l2⟩ := h
  exact ⟨U, V, c, L, c2, L2, p.keep0 K, z.keep0 K, off, lu.keeps K, lv.keeps K, l1, l2⟩
theorem Inv.step (z : PT w V gz gw c2 L2 N) (off : Off U V) (lu : Lies B U w) (lv : Lies B V w) (hB : B ≤ w.heap.size) (hNN : N ≤ N') (l2 : L2.length ≤ N) (p' : PT w' U' gx gy c' L' N') (st : Step U U' w w') (l1 : L'.length ≤ N') : Inv B w' gx gy gz gw N' ∧ Keeps (fun q => B ≤ q) w w' :=
  ⟨⟨U', V, c', L', c2, L2, p', (z.keep st.keeps (fun q h1 h2 => off q h2 h1)).more hNN, off.step st (lv.mono (Nat.zero_le B)), lu.step st hB, lv.keeps st.keeps, l1, Nat.le_trans l2 hNN⟩, st.keeps.mono (fun q _ hq => (lu q hq).1)⟩
theorem Inv.clone (p : PT w U gx gy c L N) (lu : Lies B U w) (hB : B ≤ w.heap.size) (hNN : N ≤ N') (l1 : L.length ≤ N) (K : Keeps (fun _ => False) w w') (p' : PT w' U' gz gw c L N) (hn : ∀ q, U' q → w.heap.size ≤ q) : Inv B w' gz gw gx gy N' :=
  ⟨U', U, c, L, c, L, p'.more hNN, (p.keep0 K).more hNN, fun q h1 h2 => by have h3 := hn q h1; have h4 := (lu q h2).2; omega, fun q hq => ⟨Nat.le_trans hB (hn q hq), (p'.lies q hq).2⟩, lu.keeps K, Nat.le_trans l1 hNN, Nat.le_trans l1 hNN⟩
end
set_option maxRecDepth 100000 in
set_option maxHeartbeats 16000000 in
theorem plays_any (S : Option Addr) (ns cs : Nat) (os : List OT) (w : World) (hr : Reads opE w S ns os) (hok : ∀ o ∈ os, okO o) :
    Calls Try.prog 4 #[.slice S ns cs] w fun e w' => e = .returned (.bool true) ∧ Keeps (fun _ => False) w w' := by
  have HR := Lib.hid hr
  have OK := Lib.hid hok
  clear hr hok
  go_enter Try.func4, Try.ntmps4
  go_upto_region 4 with (first
    | (go_at_call 8; refine (new_any w1).mono ?_
       rintro e w2 ⟨gx, Fx, rfl, t2, hFx, k2⟩
       have X2 := Lib.hid t2
       have K2 := Lib.hid (K1.out.trans k2 (fun _ _ h => h))
       clear t2 k2)
    | (go_at_call 7; refine (shown_any w).mono ?_
       rintro e w1 ⟨rfl, k1⟩
       have K1 := Lib.hid k1
       clear k1))
  obtain ⟨w3, hw3⟩ : ∃ w3, w3 = w2.alloc (.cells #[.int .i64 0, .slice none 0 0] 42) := ⟨_, rfl⟩
  rw [← hw3]
  have k3 : Keeps (fun _ => False) w2 w3 := by rw [hw3]; exact (Keeps.refl _ w2).alloc _
  have r3 : RF w3 (rfoot w2.heap.size none) w2.heap.size 0 [] := ⟨none, 0, 0, ⟨by rw [hw3]; exact Blk.new w2 42 _ _ rfl, Own.nil _ _ _ _⟩, fun _ => Iff.rfl⟩
  have X3 := Lib.hid (X2.out.keep k3 (fun _ _ h => h))
  have R3 := Lib.hid r3
  have K3 := Lib.hid (K2.out.trans k3 (fun _ _ h => h))
  have OF3 := Lib.hid (show Off Fx (rfoot w2.heap.size none) from fun q h1 h2 => by
    have h3 := (X2.out.lies q h1).2
    rcases h2 with rfl | h2
    · omega
    · simp [Value.ownBlock] at h2)
  have hz1 := K1.out.size
  have hz2 := K2.out.size
  clear hw3 k3 r3
  go_upto_region 10 with (first
    | (go_at_call 17; refine (rClone_any R4.out (by simp)).mono ?_
       rintro e w5 ⟨gw, Gw, rfl, r5, hGw, k5⟩
       have p5 : PT w5 (fun q => Fx q ∨ rfoot w2.heap.size none q) gx w2.heap.size 0 [] 0 := ⟨Fx, _, X4.out.keep k5 (fun _ _ h => h), R4.out.keep0 k5, OF3.out, fun _ => Iff.rfl⟩
       have z5 : PT w5 (fun q => Fz q ∨ Gw q) gz gw 0 [] 0 := ⟨Fz, Gw, Z4.out.keep k5 (fun _ _ h => h), r5, fun q h1 h2 => by have h3 := (Z4.out.lies q h1).2; have h4 := hGw q h2; omega, fun _ => Iff.rfl⟩
       have hlt : ∀ q, Fx q ∨ rfoot w2.heap.size none q → w.heap.size ≤ q ∧ q < w3.heap.size := fun q hq => by
         rcases hq with hq | hq
         · exact ⟨Nat.le_trans hz1 (hFx q hq), (X3.out.lies q hq).2⟩
         · have h1 := (R3.out.lies q hq).2
           rcases hq with rfl | hq
           · exact ⟨hz2, h1⟩
           · simp [Value.ownBlock] at hq
       have hgt : ∀ q, Fz q ∨ Gw q → w3.heap.size ≤ q := fun q hq => by
         rcases hq with hq | hq
         · exact hFz q hq
         · have h1 := hGw q hq; have h2 := K4'.out.size; omega
       have K5 := Lib.hid (K4.out.trans k5 (fun _ _ h => h))
       have IV := Lib.hid (show Inv w.heap.size w5 gx w2.heap.size gz gw 0 from ⟨_, _, 0, [], 0, [], p5, z5, fun q h1 h2 => by have h3 := (hlt q h1).2; have h4 := hgt q h2; omega, fun q hq => ⟨(hlt q hq).1, (p5.lies q hq).2⟩, fun q hq => ⟨Nat.le_trans K3.out.size (hgt q hq), (z5.lies q hq).2⟩, Nat.le_refl _, Nat.le_refl _⟩)
       clear p5 z5 k5 r5 hlt hgt)
    | (go_at_call 16; refine (clone_any X3.out (by omega)).mono ?_
       rintro e w4 ⟨gz, Fz, rfl, z4, hFz, k4⟩
       have X4 := Lib.hid (X3.out.keep k4 (fun _ _ h => h))
       have R4 := Lib.hid (R3.out.keep0 k4)
       have Z4 := Lib.hid z4
       have K4' := Lib.hid k4
       have K4 := Lib.hid (K3.out.trans k4 (fun _ _ h => h))
       clear z4 k4))
  go_wp2_with fail
  go_loopw [4, 5, 6, 7, 8] (fun vx vy vz vw v8 wr => ∃ (k hx hy hz hu : Nat), vx = .pointer (some ⟨hx, 0, none⟩) ∧ vy = .pointer (some ⟨hy, 0, none⟩) ∧ vz = .pointer (some ⟨hz, 0, none⟩) ∧ vw = .pointer (some ⟨hu, 0, none⟩) ∧ v8 = .int .i64 k ∧ k ≤ ns ∧ k ≤ 150 ∧ Inv w.heap.size wr hx hy hz hu k ∧ Keeps (fun q => w.heap.size ≤ q) w wr) (fun _ _ _ _ v8 _ => ns - (intOf v8).toNat)
  case atStart => exact ⟨0, gx, w2.heap.size, gz, gw, rfl, rfl, rfl, rfl, rfl, Nat.zero_le _, Nat.zero_le _, IV.out, K5.out.mono (fun _ _ h => h.elim)⟩
  case round =>
    clear IV X2 X3 X4 R3 R4 Z4 OF3 K1 K2 K3 K4 K4' K5 hFx hFz hGw
    obtain ⟨k, hx, hy, hz, hu, rfl, rfl, rfl, rfl, rfl, hk1, hk2, hiv, hkk⟩ := hrel
    obtain ⟨wo, hwo⟩ : ∃ wo, wo = wr := ⟨_, rfl⟩
    subst hwo
    by_cases hin : k < ns ∧ k < 150
    · obtain ⟨hin1, hin2⟩ := hin
      have IV := Lib.hid hiv
      have K3 := Lib.hid hkk
      obtain ⟨o, ho⟩ : ∃ o, os[k]? = some o := ⟨_, List.getElem?_eq_getElem (by rw [HR.out.1]; exact hin1)⟩
      have hoo := OK.out o (List.mem_of_getElem? ho)
      obtain ⟨ad, hA, hc⟩ := (HR.out.keeps K3.out (fun ad hA h0 => by have := HR.out.lt h0 hA; omega)).at_ ho
      subst hA
      have q0 := hc 0 _ rfl
      have q1 := hc 1 _ rfl
      have q2 := hc 2 _ rfl
      have q3 := hc 3 _ rfl
      simp [opE] at q0 q1 q2 q3
      rw [← add_add, add_pos _ (by decide : 0 < 1)] at q1
      rw [← add_add, add_pos _ (by decide : 0 < 2)] at q2
      rw [← add_add, add_pos _ (by decide : 0 < 3)] at q3
      have el := elem45
      have HO := Lib.hid hoo
      clear hc ho hoo hiv hkk
      obtain ⟨kv, hkv⟩ : ∃ kv, kv = kindOf o.kind := ⟨_, rfl⟩
      have hkr : 0 ≤ kv ∧ kv ≤ 7 := by rw [hkv]; unfold kindOf; omega
      have HKV := Lib.hid hkv
      clear hkv
      obtain ⟨w5, hw5⟩ : ∃ w5, w5 = wo.alloc (.cells #[.int .i64 o.kind, .int .i64 o.what, .int .i64 o.num, .string o.key] 45) := ⟨_, rfl⟩
      have x5 : Blk w5 wo.heap.size 45 #[.int .i64 o.kind, .int .i64 o.what, .int .i64 o.num, .string o.key] := by rw [hw5]; exact Blk.new wo 45 _ _ rfl
      have k5 : Keeps (fun _ => False) wo w5 := by rw [hw5]; exact (Keeps.refl _ wo).alloc _
      have X5 := Lib.hid x5
      have K5 := Lib.hid (K3.out.trans k5 (fun _ _ h => h.elim))
      have HW5 := Lib.hid hw5
      have x0 := x5.cell 0
      have x1 := x5.cell 1
      have x2 := x5.cell 2
      have x3 := x5.cell 3
      simp at x0 x1 x2 x3
      obtain ⟨U, V, c, L, c2, L2, hp, hz5, off, lu, lv, l1, l2⟩ := IV.out
      have PU := Lib.hid (fun q hq => (hp.lies q hq).2 : ∀ q, U q → q < wo.heap.size)
      have P5 := Lib.hid (hp.keep0 k5)
      have Z5 := Lib.hid (hz5.keep0 k5)
      have OV := Lib.hid (And.intro off (And.intro (lu.keeps k5) (lv.keeps k5)))
      have hB5 : w.heap.size ≤ w5.heap.size := K5.out.size
      clear hw5 x5 k5 hp hz5 off lu lv
      go_upto_region 14 with fail
      rw [← HW5.out]
      go_upto_block 2 with (
        go_at_call 18; refine (kind_any o.kind HO.out.1 w5).mono ?_
        rintro e w4 ⟨rfl, hw4⟩
        rw [hw4, ← HKV.out]
        clear hw4)
      go_cut [4, 5, 6, 7] (fun vx vy vz vw wx => ∃ (a1 a2 a3 a4 : Nat), vx = .pointer (some ⟨a1, 0, none⟩) ∧ vy = .pointer (some ⟨a2, 0, none⟩) ∧ vz = .pointer (some ⟨a3, 0, none⟩) ∧ vw = .pointer (some ⟨a4, 0, none⟩) ∧ Inv w.heap.size wx a1 a2 a3 a4 (k + 1) ∧ Keeps (fun q => w.heap.size ≤ q) w wx)
      case first =>
        clear q0 q1 q2 q3
        have hN : k < 1000000 := by omega
        have hLn : L.length < 1000000 := by omega
        obtain ⟨F, G, t, r, ofg, hU⟩ := P5.out
        have T := Lib.hid t
        have R := Lib.hid r
        have OG := Lib.hid ofg
        have HU := Lib.hid hU
        have hclk := t.clk
        have hunl := t.unl
        have HUN := Lib.hid hunl
        clear t r ofg hU hunl
        rcases (show kv = 0 ∨ kv = 1 ∨ kv = 2 ∨ kv = 3 ∨ kv = 4 ∨ kv = 5 ∨ kv = 6 ∨ kv = 7 by omega) with h | h | h | h | h | h | h | h
        all_goals subst h
        · as_aux_lemma =>
            go_wp2_with (first
              | (go_at_call 19; refine (rSet_any R6.out hLn hclk o.key o.what o.num HO.out.2.2.1).mono ?_
                 rintro e w7 ⟨rfl, G7, r7, s7⟩
                 have S7 := Lib.hid s7
                 have R7 := Lib.hid r7
                 clear r7 s7)
              | (go_at_call 9; refine (set_any T.out hN HO.out.2.2.2 HO.out.2.1 o.num HO.out.2.2.1).mono ?_
                 rintro e w6 ⟨rfl, F6, t6, st6⟩
                 have s6 : Step F F6 w5 w6 := st6
                 have x6 := X5.out.keeps s6.keeps (fun e => by have := PU.out _ ((HU.out _).2 (.inl e)); omega)
                 have z1 := x6.cell 1
                 have z2 := x6.cell 2
                 have z3 := x6.cell 3
                 simp at z1 z2 z3
                 have S6 := Lib.hid s6
                 have T6 := Lib.hid t6
                 have R6 := Lib.hid (ref_far R.out OG.out s6)
                 clear s6 st6 x6 t6))
            go_meet
            obtain ⟨U', p', st⟩ := pair_step R.out OG.out HU.out S6.out (T6.out) S7.out R7.out
            obtain ⟨iv, kz⟩ := Inv.step Z5.out OV.out.1 OV.out.2.1 OV.out.2.2 hB5 (Nat.le_succ k) l2 p' st (by have := setL_len2 HUN.out c o.key o.what o.num; omega)
            exact ⟨hx, hy, hz, hu, rfl, rfl, rfl, rfl, iv, K5.out.trans kz (fun _ _ h => h)⟩
        · as_aux_lemma =>
            go_wp2_with (first
              | (go_at_call 19; refine (rSet_any R6.out hLn hclk o.key o.what o.num HO.out.2.2.1).mono ?_
                 rintro e w7 ⟨rfl, G7, r7, s7⟩
                 have S7 := Lib.hid s7
                 have R7 := Lib.hid r7
                 clear r7 s7)
              | (go_at_call 9; refine (set_any T.out hN HO.out.2.2.2 HO.out.2.1 o.num HO.out.2.2.1).mono ?_
                 rintro e w6 ⟨rfl, F6, t6, st6⟩
                 have s6 : Step F F6 w5 w6 := st6
                 have x6 := X5.out.keeps s6.keeps (fun e => by have := PU.out _ ((HU.out _).2 (.inl e)); omega)
                 have z1 := x6.cell 1
                 have z2 := x6.cell 2
                 have z3 := x6.cell 3
                 simp at z1 z2 z3
                 have S6 := Lib.hid s6
                 have T6 := Lib.hid t6
                 have R6 := Lib.hid (ref_far R.out OG.out s6)
                 clear s6 st6 x6 t6))
            go_meet
            obtain ⟨U', p', st⟩ := pair_step R.out OG.out HU.out S6.out (T6.out) S7.out R7.out
            obtain ⟨iv, kz⟩ := Inv.step Z5.out OV.out.1 OV.out.2.1 OV.out.2.2 hB5 (Nat.le_succ k) l2 p' st (by have := setL_len2 HUN.out c o.key o.what o.num; omega)
            exact ⟨hx, hy, hz, hu, rfl, rfl, rfl, rfl, iv, K5.out.trans kz (fun _ _ h => h)⟩
        · as_aux_lemma =>
            go_wp2_with (first
              | (go_at_call 19; refine (rSet_any R6.out hLn hclk o.key o.what o.num HO.out.2.2.1).mono ?_
                 rintro e w7 ⟨rfl, G7, r7, s7⟩
                 have S7 := Lib.hid s7
                 have R7 := Lib.hid r7
                 clear r7 s7)
              | (go_at_call 9; refine (set_any T.out hN HO.out.2.2.2 HO.out.2.1 o.num HO.out.2.2.1).mono ?_
                 rintro e w6 ⟨rfl, F6, t6, st6⟩
                 have s6 : Step F F6 w5 w6 := st6
                 have x6 := X5.out.keeps s6.keeps (fun e => by have := PU.out _ ((HU.out _).2 (.inl e)); omega)
                 have z1 := x6.cell 1
                 have z2 := x6.cell 2
                 have z3 := x6.cell 3
                 simp at z1 z2 z3
                 have S6 := Lib.hid s6
                 have T6 := Lib.hid t6
                 have R6 := Lib.hid (ref_far R.out OG.out s6)
                 clear s6 st6 x6 t6))
            go_meet
            obtain ⟨U', p', st⟩ := pair_step R.out OG.out HU.out S6.out (T6.out) S7.out R7.out
            obtain ⟨iv, kz⟩ := Inv.step Z5.out OV.out.1 OV.out.2.1 OV.out.2.2 hB5 (Nat.le_succ k) l2 p' st (by have := setL_len2 HUN.out c o.key o.what o.num; omega)
            exact ⟨hx, hy, hz, hu, rfl, rfl, rfl, rfl, iv, K5.out.trans kz (fun _ _ h => h)⟩
        · as_aux_lemma =>
            go_wp2_with (first
              | (go_at_call 20; refine (rDrop_any R6.out (by omega) HUN.out o.key o.what).mono ?_
                 rintro e w7 ⟨rfl, G7, r7, s7⟩
                 have S7 := Lib.hid s7
                 have R7 := Lib.hid r7
                 clear r7 s7)
              | (go_at_call 12; refine (drop_any T.out HO.out.2.2.2 HO.out.2.1).mono ?_
                 rintro e w6 ⟨rfl, t6, k6⟩
                 have s6 : Step F F w5 w6 := step_of_keeps k6 T.out.lies
                 have x6 := X5.out.keeps s6.keeps (fun e => by have := PU.out _ ((HU.out _).2 (.inl e)); omega)
                 have z1 := x6.cell 1
                 have z2 := x6.cell 2
                 have z3 := x6.cell 3
                 simp at z1 z2 z3
                 have S6 := Lib.hid s6
                 have T6 := Lib.hid t6
                 have R6 := Lib.hid (ref_far R.out OG.out s6)
                 clear s6 k6 x6 t6))
            go_meet
            obtain ⟨U', p', st⟩ := pair_step R.out OG.out HU.out S6.out (T6.out.more (Nat.le_succ k)) S7.out R7.out
            obtain ⟨iv, kz⟩ := Inv.step Z5.out OV.out.1 OV.out.2.1 OV.out.2.2 hB5 (Nat.le_succ k) l2 p' st (by have := wo_le L o.key o.what; omega)
            exact ⟨hx, hy, hz, hu, rfl, rfl, rfl, rfl, iv, K5.out.trans kz (fun _ _ h => h)⟩
        · as_aux_lemma =>
            go_wp2_with (first
              | (go_at_call 21; refine (rGo_any R6.out (by omega) o.num).mono ?_
                 rintro e w7 ⟨rfl, r7, k7⟩
                 have S7 := Lib.hid (step_of_keeps k7 R6.out.lies)
                 have R7 := Lib.hid r7
                 clear r7 k7)
              | (go_at_call 13; refine (Go_any T.out hN o.num).mono ?_
                 rintro e w6 ⟨rfl, t6, k6⟩
                 have s6 : Step F F w5 w6 := step_of_keeps k6 T.out.lies
                 have x6 := X5.out.keeps s6.keeps (fun e => by have := PU.out _ ((HU.out _).2 (.inl e)); omega)
                 have z1 := x6.cell 1
                 have z2 := x6.cell 2
                 have z3 := x6.cell 3
                 simp at z1 z2 z3
                 have S6 := Lib.hid s6
                 have T6 := Lib.hid t6
                 have R6 := Lib.hid (ref_far R.out OG.out s6)
                 clear s6 k6 x6 t6))
            go_meet
            obtain ⟨U', p', st⟩ := pair_step R.out OG.out HU.out S6.out (T6.out.more (Nat.le_succ k)) S7.out R7.out
            obtain ⟨iv, kz⟩ := Inv.step Z5.out OV.out.1 OV.out.2.1 OV.out.2.2 hB5 (Nat.le_succ k) l2 p' st (by omega)
            exact ⟨hx, hy, hz, hu, rfl, rfl, rfl, rfl, iv, K5.out.trans kz (fun _ _ h => h)⟩
        · as_aux_lemma =>
            obtain ⟨d0, A0, cp0, d1⟩ := R.out.cells
            have hon := HO.out.2.2.1
            obtain ⟨x, hx1⟩ : ∃ x, x = c + o.num.tmod 100 := ⟨_, rfl⟩
            have hw : IntKind.i64.wrap (c + o.num.tmod 100) = x := by
              rw [hx1]
              refine IntWalk.i64_in _ ?_
              have hm1 : -100 ≤ o.num.tmod 100 ∧ o.num.tmod 100 ≤ 100 := by
                have := Int.tmod_lt_of_pos o.num (by decide : (0:Int) < 100)
                have := Int.lt_tmod_of_pos o.num (by decide : (0:Int) < 100)
                omega
              omega
            clear hx1
            go_upto_region 31 with fail
            go_quiet (fail)
            obtain ⟨wq, hwq⟩ : ∃ wq, wq = w5.drewN nq := ⟨_, rfl⟩
            rw [← hwq]
            have kq : Keeps (fun _ => False) w5 wq := by rw [hwq]; exact (Keeps.refl _ w5).drewN _
            have t1 := T.out.keep kq (fun _ _ h => h)
            have r1 := R.out.keep0 kq
            have xx := X5.out.drewN nq
            rw [← hwq] at xx
            have zz := Z5.out.keep0 kq
            have lu1 := OV.out.2.1.keeps kq
            have lv1 := OV.out.2.2.keeps kq
            have kk1 := K5.out.trans kq (fun _ _ h => h.elim)
            have hBq : w.heap.size ≤ wq.heap.size := kk1.size
            have of1 := OV.out.1
            clear T R X5 Z5 OV K5 hB5
            have T := Lib.hid t1
            have R := Lib.hid r1
            have X5 := Lib.hid xx
            have Z5 := Lib.hid zz
            have OV := Lib.hid (And.intro of1 (And.intro lu1 lv1))
            have K5 := Lib.hid kk1
            have hB5 := hBq
            clear t1 r1 xx zz lu1 lv1 kk1 hBq of1 hw hwq kq d0 d1
            go_wp2_with (first
              | (go_at_call 21; refine (rGo_any R6.out (by omega) x).mono ?_
                 rintro e w7 ⟨rfl, r7, k7⟩
                 have S7 := Lib.hid (step_of_keeps k7 R6.out.lies)
                 have R7 := Lib.hid r7
                 clear r7 k7)
              | (go_at_call 13; refine (Go_any T.out hN x).mono ?_
                 rintro e w6 ⟨rfl, t6, k6⟩
                 have s6 : Step F F wq w6 := step_of_keeps k6 T.out.lies
                 have x6 := X5.out.keeps s6.keeps (fun e => by have := PU.out _ ((HU.out _).2 (.inl e)); omega)
                 have z1 := x6.cell 1
                 have z2 := x6.cell 2
                 have z3 := x6.cell 3
                 simp at z1 z2 z3
                 have S6 := Lib.hid s6
                 have T6 := Lib.hid t6
                 have R6 := Lib.hid (ref_far R.out OG.out s6)
                 clear s6 k6 x6 t6))
            go_meet
            obtain ⟨U', p', st⟩ := pair_step R.out OG.out HU.out S6.out (T6.out.more (Nat.le_succ k)) S7.out R7.out
            obtain ⟨iv, kz⟩ := Inv.step Z5.out OV.out.1 OV.out.2.1 OV.out.2.2 hB5 (Nat.le_succ k) l2 p' st (by omega)
            exact ⟨hx, hy, hz, hu, rfl, rfl, rfl, rfl, iv, K5.out.trans kz (fun _ _ h => h)⟩
        · as_aux_lemma =>
            obtain ⟨d, b, hf⟩ : ∃ (d : DU) (b : Bool), firstV (dueR c L) = .tuple #[.agg #[.int .i64 d.at_, .string d.key, .int .i64 d.kind], .bool b] := by
              cases dueR c L with
              | none => exact ⟨⟨0, ⟨#[]⟩, 0⟩, false, rfl⟩
              | some d => exact ⟨d, true, rfl⟩
            have HF := Lib.hid hf
            have nd := neq_due d
            clear hf
            go_upto_region 37 with (first
              | (go_at_call 22
                 obtain ⟨wa, hwa⟩ : ∃ wa, wa = w6.alloc (.cells #[.int .i64 d.at_, .string d.key, .int .i64 d.kind] 34) := ⟨_, rfl⟩
                 rw [← hwa]
                 have ka : Keeps (fun _ => False) w6 wa := by rw [hwa]; exact (Keeps.refl _ w6).alloc _
                 have ba : Blk wa w6.heap.size 34 #[.int .i64 d.at_, .string d.key, .int .i64 d.kind] := by rw [hwa]; exact Blk.new w6 34 _ _ rfl
                 have t8 := T6.out.keep ka (fun _ _ h => h)
                 have s8 : Step F F w5 wa := step_of_keeps (S6.out.keeps.trans ka (fun _ _ h => h.elim)) T.out.lies
                 refine (rDue_any (R6.out.keep0 ka) (by omega)).mono ?_
                 rintro e w7 ⟨he, G7, r7, s7⟩
                 rw [HF.out] at he
                 subst he
                 have T8 := Lib.hid t8
                 have S8 := Lib.hid s8
                 have XA := Lib.hid (ba.keeps s7.keeps (fun h => by have := (R6.out.lies _ h).2; omega))
                 have S7 := Lib.hid s7
                 have R7 := Lib.hid r7
                 clear r7 s7 ka ba hwa t8 s8)
              | (go_at_call 14; refine (due_any T.out hN).mono ?_
                 rintro e w6 ⟨he, t6, k6⟩
                 rw [HF.out] at he
                 subst he
                 have S6 := Lib.hid (step_of_keeps k6 T.out.lies)
                 have T6 := Lib.hid t6
                 have R6 := Lib.hid (ref_far R.out OG.out S6.out)
                 clear t6 k6))
            obtain ⟨w8, hw8⟩ : ∃ w8, w8 = w7.alloc (.cells #[.int .i64 d.at_, .string d.key, .int .i64 d.kind] 34) := ⟨_, rfl⟩
            rw [← hw8]
            have k8 : Keeps (fun _ => False) w7 w8 := by rw [hw8]; exact (Keeps.refl _ w7).alloc _
            have bb : Blk w8 w7.heap.size 34 #[.int .i64 d.at_, .string d.key, .int .i64 d.kind] := by rw [hw8]; exact Blk.new w7 34 _ _ rfl
            have ba := XA.out.keeps k8 (fun h => h)
            have a0 := ba.cell 0
            have a1 := ba.cell 1
            have a2 := ba.cell 2
            have e0 := bb.cell 0
            have e1 := bb.cell 1
            have e2 := bb.cell 2
            simp at a0 a1 a2 e0 e1 e2
            have r8 := R7.out.keep0 k8
            have s9 : Step G G7 wa w8 := ⟨S7.out.keeps.trans k8 (fun _ _ h => h.elim), fun q hq => ⟨(S7.out.foot q hq).1, Nat.lt_of_lt_of_le (S7.out.foot q hq).2 k8.size⟩⟩
            have S9 := Lib.hid s9
            have R8 := Lib.hid r8
            clear bb ba k8 hw8 s9 r8
            go_wp2_with fail
            go_meet
            obtain ⟨U', p', st⟩ := pair_step R.out OG.out HU.out S8.out (T8.out.more (Nat.le_succ k)) S9.out R8.out
            obtain ⟨iv, kz⟩ := Inv.step Z5.out OV.out.1 OV.out.2.1 OV.out.2.2 hB5 (Nat.le_succ k) l2 p' st (by have := dueL_len c L; omega)
            exact ⟨hx, hy, hz, hu, rfl, rfl, rfl, rfl, iv, K5.out.trans kz (fun _ _ h => h)⟩
        · as_aux_lemma =>
            go_wp2_with (first
              | (go_at_call 17; refine (rClone_any R6.out (by omega)).mono ?_
                 rintro e w7 ⟨g2, G2, rfl, r7, hG2, k7⟩
                 have T7 := Lib.hid (T6.out.keep k7 (fun _ _ h => h))
                 have R7 := Lib.hid r7
                 have K7 := Lib.hid (K6.out.trans k7 (fun _ _ h => h))
                 clear r7 k7)
              | (go_at_call 16; refine (clone_any T.out (by omega)).mono ?_
                 rintro e w6 ⟨g1, F1, rfl, t6, hF1, k6⟩
                 have T6 := Lib.hid t6
                 have R6 := Lib.hid (R.out.keep0 k6)
                 have K6 := Lib.hid k6
                 clear t6 k6))
            go_meet
            have p' : PT w7 (fun q => F1 q ∨ G2 q) g1 g2 c L k := ⟨F1, G2, T7.out, R7.out, fun q h1 h2 => by have h3 := (T6.out.lies q h1).2; have h4 := hG2 q h2; omega, fun _ => Iff.rfl⟩
            have hn : ∀ q, F1 q ∨ G2 q → w5.heap.size ≤ q := fun q h => by
              have h5 := K6.out.size
              rcases h with h | h
              · exact hF1 q h
              · have := hG2 q h; omega
            exact ⟨g1, g2, hx, hy, rfl, rfl, rfl, rfl, Inv.clone P5.out OV.out.2.1 hB5 (Nat.le_succ k) l1 K7.out p' hn, K5.out.trans K7.out (fun _ _ h => h.elim)⟩
      case rest =>
        obtain ⟨a1, a2, a3, a4, rfl, rfl, rfl, rfl, iv, kz⟩ := hcut
        obtain ⟨U2, V2, c3, L3, c4, L4, hp, hz6, off, lu, lv, l3, l4⟩ := iv
        have PA := Lib.hid hp
        have ZA := Lib.hid hz6
        have OV2 := Lib.hid (And.intro off (And.intro lu lv))
        have KA := Lib.hid kz
        have hN : k + 1 < 1000000 := by omega
        have h3n : L3.length ≤ 1000000 := by omega
        have h4n : L4.length ≤ 1000000 := by omega
        clear hp hz6 off lu lv kz
        go_wp2_with (first
          | (go_at_call 23; have K8' := K8; refine (likeP Z8.out hN h4n).mono ?_
             rintro e w9 ⟨rfl, z9, k9⟩
             have Z9 := Lib.hid z9
             have P9 := Lib.hid (P8.out.keep k9 (fun q h1 h2 => OV2.out.1 q h1 h2))
             have K9 := Lib.hid (K8.out.trans k9 (fun q _ h => (OV2.out.2.2 q h).1))
             clear k9 z9)
          | (go_at_call 23; refine (likeP PA.out hN h3n).mono ?_
             rintro e w8 ⟨rfl, p8, k8⟩
             have P8 := Lib.hid p8
             have Z8 := Lib.hid (ZA.out.keep k8 (fun q h1 h2 => OV2.out.1 q h2 h1))
             have K8 := Lib.hid (KA.out.trans k8 (fun q _ h => (OV2.out.2.1 q h).1))
             clear k8 p8))
        exact ⟨⟨k + 1, a1, a2, a3, a4, rfl, rfl, rfl, rfl, by go_num, by omega, by omega, ⟨U2, V2, c3, L3, c4, L4, P9.out, Z9.out, OV2.out.1, fun q hq => ⟨(OV2.out.2.1 q hq).1, (P9.out.lies q hq).2⟩, fun q hq => ⟨(OV2.out.2.2 q hq).1, (Z9.out.lies q hq).2⟩, l3, l4⟩, K9.out⟩, by simp [intOf]; omega⟩
    · have K3 := Lib.hid hkk
      clear hiv hkk
      by_cases h1 : k < ns
      · have h2 : ¬ k < 150 := by omega
        go_wp2_with fail
        go_ret
        exact ⟨rfl, K3.out.mono (fun b hb h => by omega)⟩
      · by_cases h2 : k < 150
        · go_wp2_with fail
          go_ret
          exact ⟨rfl, K3.out.mono (fun b hb h => by omega)⟩
        · go_wp2_with fail
          go_ret
          exact ⟨rfl, K3.out.mono (fun b hb h => by omega)⟩
end Go.Proofs.Yteeginfbonfhlaa
