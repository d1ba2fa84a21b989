/- The document's Feed, walked. -/
import Derived.Test.YtaccdbiajcnlaaaW3
namespace Go.Proofs.Ytaccdbiajcnlaaa
open Go.RowKit Mem
/-- What the document's Feed leaves. -/
def RefFed (g : Nat) (X : List Nat) (w w' : World) (vo : Value) : Prop :=
  ∃ (hs : List Sl) (A : Option Addr) (n c : Nat), Own hdr w' w.heap.size 22 vo hs ∧ hs.length = (parse X).1.length ∧ (∀ (i : Nat) (h : Sl) (f : List Nat), hs[i]? = some h → (parse X).1[i]? = some f → Own byte w' w.heap.size 5 (.slice h.A h.n h.c) f) ∧
    Blk w' g 42 #[.slice A n c] ∧ Reads byte w' A n (parse X).2.2 ∧ (∀ ad, A = some ad → 0 < n → w.heap.size ≤ ad.block) ∧ Keeps (fun k => k = g) w w'
/-- The round, as it stands. -/
structure RMid (g g1 : Nat) (X : List Nat) (w : World) (k : Nat) (vo : Value) (wr : World) (off : Nat) (fs : List (List Nat)) (hs : List Sl) (Ar : Option Addr) (cr : Nat) (c1 : Nat) : Prop where
  k : k = X.length - off
  offle : off ≤ X.length
  prs : parse X = (fs ++ (parse (X.drop off)).1, (parse (X.drop off)).2.1, (parse (X.drop off)).2.2)
  box : Blk wr g 42 #[.slice Ar (X.length - off) cr]
  ar : off < X.length → Ar = some ⟨g1, off, none⟩
  cap : X.length - off ≤ cr
  out : Own hdr wr w.heap.size 22 vo hs
  few : 3 * hs.length ≤ off
  row : off < X.length → Own byte wr w.heap.size 5 (.slice (some ⟨g1, 0, none⟩) X.length c1) X
  len : hs.length = fs.length
  each : ∀ (i : Nat) (h : Sl) (f : List Nat), hs[i]? = some h → fs[i]? = some f → Own byte wr w.heap.size 5 (.slice h.A h.n h.c) f
  keeps : Keeps (fun k => k = g) w wr
theorem RMid.reads {g g1 : Nat} {X : List Nat} {w : World} {k : Nat} {vo : Value} {wr : World} {off : Nat} {fs : List (List Nat)} {hs : List Sl} {Ar : Option Addr} {cr c1 : Nat} (m : RMid g g1 X w k vo wr off fs hs Ar cr c1) : Reads byte wr Ar (X.length - off) (X.drop off) := by
  rcases Nat.lt_or_ge off X.length with h | h
  · obtain ⟨A', c', e, hr, _⟩ := (m.row h).slice
    injection e with e1 e2 e3
    subst e1
    exact hr.drop m.offle (fun _ => by rw [m.ar h]; simp [byte, add_at])
  · rw [List.drop_eq_nil_of_le h, show X.length - off = 0 by omega]
    exact Reads.nil _ _ _
theorem RMid.fed {g g1 : Nat} {X : List Nat} {w : World} {k : Nat} {vo : Value} {wr w4 : World} {off : Nat} {fs : List (List Nat)} {hs : List Sl} {Ar A : Option Addr} {cr c1 n c : Nat} {er : Int} {L : List Nat} (m : RMid g g1 X w k vo wr off fs hs Ar cr c1)
    (hp : parse (X.drop off) = ([], er, L)) (K : Keeps (fun k => k = g) wr w4) (hb : Blk w4 g 42 #[.slice A n c]) (hr : Reads byte w4 A n L) (ha : ∀ ad, A = some ad → 0 < n → w.heap.size ≤ ad.block) : (parse X).2.1 = er ∧ RefFed g X w w4 vo := by
  have e := m.prs
  rw [hp] at e
  simp only [List.append_nil] at e
  refine ⟨by rw [e], hs, A, n, c, ?_, by rw [e]; exact m.len, ?_, hb, by rw [e]; exact hr, ha, m.keeps.trans K (fun b _ hb => hb)⟩
  · refine m.out.keeps K ?_
    rintro k hk rfl
    exact m.out.blk_ne m.box (by decide) hk
  · intro i h f hi hf
    rw [e] at hf
    refine (m.each i h f hi hf).keeps K ?_
    rintro k hk rfl
    exact (m.each i h f hi hf).blk_ne m.box (by decide) hk
theorem RMid.next {g g1 : Nat} {X : List Nat} {w : World} {k : Nat} {vo v4 : Value} {wr w2 w4 : World} {off nn cr' : Nat} {fs : List (List Nat)} {hs : List Sl} {Ar A3 A' : Option Addr} {cr c1 c3 : Nat} (m : RMid g g1 X w k vo wr off fs hs Ar cr c1)
    (hn : 0 < nn) (hnn : 2 + nn ≤ X.length - off) (hp : parse (X.drop off) = (((X.drop off).drop 2).take nn :: (parse ((X.drop off).drop (2 + nn))).1, (parse ((X.drop off).drop (2 + nn))).2.1, (parse ((X.drop off).drop (2 + nn))).2.2))
    (K2 : Keeps (fun _ => False) wr w2) (own3 : Own byte w2 w.heap.size 5 (.slice A3 nn c3) (((X.drop off).drop 2).take nn)) (own4 : Own hdr w4 w.heap.size 22 v4 (hs ++ [⟨A3, nn, c3⟩])) (gr : w2.grownBy w4 vo.ownBlock)
    (hA : off + (2 + nn) < X.length → A' = some ⟨g1, off + (2 + nn), none⟩) (hcr : X.length - (off + (2 + nn)) ≤ cr') :
    RMid g g1 X w (X.length - (off + (2 + nn))) v4 (w4.setCell ⟨g, 0, none⟩ (.slice A' (X.length - off - (2 + nn)) cr')) (off + (2 + nn)) (fs ++ [((X.drop off).drop 2).take nn]) (hs ++ [⟨A3, nn, c3⟩]) A' cr' c1 := by
  have K4 : Keeps (fun k => vo.ownBlock = some k) wr w4 := (K2.mono (fun _ _ h => h.elim)).grown gr (fun k hk _ => hk)
  have hbx : Blk w4 g 42 #[.slice Ar (X.length - off) cr] := m.box.keeps K4 (fun e => m.out.blk_ne m.box (by decide) e)
  have hne : ∀ (E : Value) (l : List Nat), Own byte wr w.heap.size 5 E l → Own byte (w4.setCell ⟨g, 0, none⟩ (.slice A' (X.length - off - (2 + nn)) cr')) w.heap.size 5 E l := by
    intro E l o
    refine (o.keeps K4 (fun k hk hk' => m.out.own_ne o (by decide) k hk' hk)).setCell _ _ (fun k hk => ?_)
    rintro rfl
    exact o.blk_ne m.box (by decide) hk
  refine ⟨rfl, by omega, ?_, ?_, hA, hcr, ?_, ?_, ?_, ?_, ?_, ?_⟩
  · rw [m.prs, hp, List.drop_drop, List.drop_drop]
    simp
  · have := hbx.set 0 (.slice A' (X.length - off - (2 + nn)) cr')
    rw [show X.length - (off + (2 + nn)) = X.length - off - (2 + nn) by omega]
    exact this
  · refine own4.setCell _ _ (fun k hk => ?_)
    rintro rfl
    exact own4.blk_ne hbx (by decide) hk
  · have := m.few
    simp
    omega
  · intro h
    exact hne _ _ (m.row (by omega))
  · simp [m.len]
  · intro i h f hi hf
    rcases Nat.lt_or_ge i hs.length with hl | hl
    · rw [List.getElem?_append_left hl] at hi
      rw [List.getElem?_append_left (by have := m.len; omega)] at hf
      exact hne _ _ (m.each i h f hi hf)
    · rw [List.getElem?_append_right hl] at hi
      rw [List.getElem?_append_right (by have := m.len; omega)] at hf
      have e0 : i - hs.length = 0 := by
        rcases Nat.eq_zero_or_pos (i - hs.length) with h0 | h0
        · exact h0
        · rw [List.getElem?_eq_none (by simp; omega)] at hi; cases hi
      have e1 : i - fs.length = 0 := by have := m.len; omega
      rw [e0] at hi
      rw [e1] at hf
      simp only [List.getElem?_cons_zero, Option.some.injEq] at hi hf
      subst hi hf
      have o4 : Own byte w4 w.heap.size 5 (.slice A3 nn c3) (((X.drop off).drop 2).take nn) := by
        refine own3.grown gr (fun k hk e => ?_)
        exact (m.out.keeps K2 (fun _ _ h => h)).own_ne own3 (by decide) k e.symm hk
      refine o4.setCell _ _ (fun k hk => ?_)
      rintro rfl
      exact o4.blk_ne hbx (by decide) hk
  · refine Keeps.setCell (m.keeps.trans K4 (fun b hb hk => ?_)) _ _ (fun _ => rfl)
    have := m.out.base_le hk
    omega
theorem two_num {x y : Nat} (hx : x < 256) (hy : y < 256) : IntKind.i64.wrap (IntKind.i64.wrap (256 * (x : Int)) + (y : Int)) = ((256 * x + y : Nat) : Int) := by
  rw [show IntKind.i64.wrap (256 * (x : Int)) = 256 * (x : Int) from IntWalk.i64_in _ (by omega), IntWalk.i64_in _ (by omega)]
  omega
set_option maxRecDepth 100000 in
set_option maxHeartbeats 1600000 in
theorem ref_any (g : Nat) (H Y : List Nat) (A A' : Option Addr) (n c n' c' : Nat) (w : World) (hg : Blk w g 42 #[.slice A' n' c']) (hv : Reads byte w A' n' H) (hy : Reads byte w A n Y) (hH : ∀ x ∈ H, x < 256) (hY : ∀ x ∈ Y, x < 256) (hl : n' + n ≤ 5000000) :
    Calls Try.prog 17 #[.pointer (some ⟨g, 0, none⟩), .slice A n c] w fun e w' => ∃ vo, e = .returned (.tuple #[vo, .int .i64 (parse (H ++ Y)).2.1]) ∧ RefFed g (H ++ Y) w w' vo := by
  have hc := hg.cell 0
  have hf := hg.frozen 0
  have hgl := hg.lt
  simp at hc
  have hX : ∀ x ∈ H ++ Y, x < 256 := by
    intro x hx
    rcases List.mem_append.1 hx with h | h
    · exact hH x h
    · exact hY x h
  have hN : (H ++ Y).length = n' + n := by rw [List.length_append, hv.1, hy.1]
  have hHn : H.length = n' := hv.1
  obtain ⟨X, hXX⟩ : ∃ X, X = H ++ Y := ⟨_, rfl⟩
  rw [← hXX] at hX hN ⊢
  have HXX := Lib.hid hXX
  have HN := Lib.hid hN
  have HX := Lib.hid hX
  have HG := Lib.hid hg
  have HV := Lib.hid hv
  have HY := Lib.hid hy
  have HHN := Lib.hid hHn
  clear hg hv hy hH hY hX hXX hN hHn
  go_enter Try.func17, Try.ntmps17
  go_wp2_with (first
    | (at_builtin; refine wp_append elem5 (by rfl) (.tmp 9) (.tmp 13) (by rfl) w.heap.size (.slice (some ⟨w.heap.size, 0, none⟩) 0 0) [] H A' n' c' rfl rfl (own_empty _ _ _ _ _ rfl (Nat.le_refl _)) (HV.out.alloc _) (by simp; omega) (by simp [maxLen]; omega) (by simp) ?_
       intro v1 w1 own1 gr1 at1
       rw [List.nil_append] at own1
       have k1 : Keeps (fun _ => False) w w1 := (Keeps.grown (S := fun k => k = w.heap.size) ((Keeps.refl _ w).alloc _) gr1 (fun k hk _ => by simpa [Value.ownBlock] using hk.symm)).mono (fun b hb e => by omega)
       have hg1 := HG.out.keeps k1 (fun h => h)
       have hc1 := hg1.cell 0
       have hf1 := hg1.frozen 0
       simp at hc1
       obtain ⟨A1, c1, hv1, _, _⟩ := own1.slice
       rw [HHN.out] at hv1
       rw [hv1]
       rw [hv1] at own1
       have OWN1 := Lib.hid own1
       have G1 := Lib.hid hg1
       have K1 := Lib.hid k1
       clear own1 gr1 at1 k1 hg1 hv1)
    | (at_builtin; refine wp_append elem5 (by rfl) (.tmp 14) (.tmp 15) (by rfl) w.heap.size (.slice A1 n' c1) H Y A n c rfl rfl OWN1.out (HY.out.keeps K1.out (fun _ _ _ h => h)) (by rw [HHN.out]; omega) (by rw [HHN.out]; simp [maxLen]; omega) K1.out.size ?_
       intro v2 w2 own2 gr2 at2
       rw [← HXX.out] at own2
       have k2 : Keeps (fun _ => False) w w2 := (Keeps.grown (S := fun k => w.heap.size ≤ k) (K1.out.mono (fun _ _ h => h.elim)) gr2 (fun k hk _ => OWN1.out.base_le hk)).mono (fun b hb e => by omega)
       have hg2 := HG.out.keeps k2 (fun h => h)
       have hc2 := hg2.cell 0
       have hf2 := hg2.frozen 0
       simp at hc2
       obtain ⟨A2, c2, hv2, _, hle2⟩ := own2.slice
       rw [hv2]
       rw [hv2] at own2
       have OWN2 := Lib.hid own2
       have G2 := Lib.hid hg2
       have K2 := Lib.hid k2
       clear own2 gr2 at2 k2 hg2 hv2 hc1 hf1))
  obtain ⟨g1, hA2⟩ : ∃ g1, 0 < X.length → A2 = some ⟨g1, 0, none⟩ := by
    rcases Nat.eq_zero_or_pos X.length with h | h
    · exact ⟨0, fun h' => by omega⟩
    · obtain ⟨g1, _, e, _⟩ := OWN2.out.form h
      injection e with e
      exact ⟨g1, fun _ => e⟩
  have HA2 := Lib.hid hA2
  clear hA2 hc hf
  go_loopg [6] (X.length) (fun k vo wr => ∃ off fs hs Ar cr, RMid g g1 X w k vo wr off fs hs Ar cr c2)
  case atStart =>
    have hne : ∀ k, (Value.slice A2 X.length c2).ownBlock = some k → k ≠ g := by
      rintro k hk rfl
      exact OWN2.out.blk_ne G2.out (by decide) hk
    refine ⟨0, [], [], A2, c2, ⟨rfl, Nat.zero_le _, rfl, ?_, HA2.out, hle2, ?_, Nat.le_refl _, ?_, rfl, fun i h f hi => by simp at hi, ?_⟩⟩
    · exact (G2.out.set 0 _).alloc _
    · exact own_empty _ _ _ _ _ (by simp) K2.out.size
    · intro h
      have e := HA2.out h
      rw [← e]
      exact (OWN2.out.setCell ⟨g, 0, none⟩ _ hne).alloc _
    · exact (Keeps.setCell (S := fun k => k = g) (K2.out.mono (fun _ _ h => h.elim)) ⟨g, 0, none⟩ _ (fun _ => rfl)).alloc _
  case round =>
    obtain ⟨off, fs, hs, Ar, cr, mid⟩ := hrel
    have hR := mid.reads
    obtain ⟨R, hRR⟩ : ∃ R, R = X.drop off := ⟨_, rfl⟩
    rw [← hRR] at hR
    have hlR := hR.1
    obtain ⟨m, hm⟩ : ∃ m, m = X.length - off := ⟨_, rfl⟩
    rw [← hm] at hR hlR
    have hRl : ∀ x ∈ R, x < 256 := fun x hx => HX.out x (List.mem_of_mem_drop (by rw [hRR] at hx; exact hx))
    have hbox := mid.box
    rw [← hm] at hbox
    have hcap := mid.cap
    rw [← hm] at hcap
    have hNN : m ≤ 5000000 := by rw [hm]; have := HN.out; omega
    have hk := mid.k
    obtain ⟨Ao, co, hu6, hro, _⟩ := mid.out.slice
    subst hu6
    have MID := Lib.hid mid
    have HRR := Lib.hid hRR
    have HM := Lib.hid hm
    have HK := Lib.hid hk
    clear mid hRR hm hk hro
    have hcb := hbox.cell 0
    have hfb := hbox.frozen 0
    simp at hcb
    have B := Lib.hid (And.intro hbox hR)
    by_cases h2 : m < 2
    · have hpr : parse R = ([], 0, R) := parse_short (by omega)
      have F := Lib.hid (MID.out.fed (er := 0) (L := R) (by rw [← HRR.out]; exact hpr) (Keeps.refl _ wr) hbox hR (fun ad e h0 => by
        have e' := MID.out.ar (by have := HM.out; omega)
        rw [e] at e'
        injection e' with e'
        rw [e']
        exact (MID.out.row (by have := HM.out; omega)).base_le rfl))
      clear hpr hbox hR hRl
      go_wp2_with fail
      go_ret2
      refine ⟨_, ?_, F.out.2⟩
      rw [F.out.1]
      rfl
    · obtain ⟨x0, x1⟩ : nth R 0 < 256 ∧ nth R 1 < 256 := ⟨nth_lt hRl 0, nth_lt hRl 1⟩
      have hAr := MID.out.ar (by have := HM.out; omega)
      subst hAr
      obtain ⟨a, e, c0⟩ := hR.byteAt (show 0 < m by omega)
      injection e with e
      subst e
      obtain ⟨a', e', c1'⟩ := hR.byteAt (show 1 < m by omega)
      injection e' with e'
      subst e'
      rw [add_zero'] at c0
      rw [add_pos _ (by decide)] at c1'
      have hn : num2 R = 256 * nth R 0 + nth R 1 := rfl
      have y1 : IntKind.i64.wrap (256 * ((nth R 0 : Nat) : Int)) = 256 * ((nth R 0 : Nat) : Int) := IntWalk.i64_in _ (by omega)
      have y2 : IntKind.i64.wrap (256 * ((nth R 0 : Nat) : Int) + ((nth R 1 : Nat) : Int)) = ((num2 R : Nat) : Int) := by rw [hn, IntWalk.i64_in _ (by omega)]; omega
      have y0 : IntKind.i64.wrap ((nth R 0 : Nat) : Int) = ((nth R 0 : Nat) : Int) := IntWalk.i64_in _ (by omega)
      have y3 : IntKind.i64.wrap ((nth R 1 : Nat) : Int) = ((nth R 1 : Nat) : Int) := IntWalk.i64_in _ (by omega)
      have hnl : num2 R < 65536 := by omega
      have i3 : 0 < m := by omega
      have i4 : 1 < m := by omega
      have HRL := Lib.hid hRl
      have HNm := Lib.hid hn
      clear hn hRl hbox hR
      go_wp2_with fail
      go_quiet (fail)
      clear y0 y1 y2 y3 c0 c1'
      have hb2 : Blk (wr.drewN nq) g 42 #[.slice (some ⟨g1, off, none⟩) m cr] := B.out.1.drewN nq
      have hr2 : Reads byte (wr.drewN nq) (some ⟨g1, off, none⟩) m R := B.out.2.drewN nq
      have hk2 : Keeps (fun _ => False) wr (wr.drewN nq) := (Keeps.refl _ wr).drewN nq
      generalize hw2 : wr.drewN nq = W at hb2 hr2 hk2 ⊢
      have hc2 := hb2.cell 0
      have hf2 := hb2.frozen 0
      simp at hc2
      have HW := Lib.hid hw2
      clear hw2 hcb hfb
      have B2 := Lib.hid (And.intro hb2 hr2)
      have K3 := Lib.hid hk2
      clear hb2 hr2 hk2
      by_cases hbad : num2 R = 0 ∨ 512 < num2 R
      · have hpr := parse_bad (l := R) (by omega) hbad
        have F := Lib.hid (MID.out.fed (A := none) (n := 0) (c := 0) (er := 60) (L := []) (w4 := W.setCell ⟨g, 0, none⟩ (.slice none 0 0)) (by rw [← HRR.out]; exact hpr) (Keeps.setCell (K3.out.mono (fun _ _ h => h.elim)) _ _ (fun _ => rfl)) (B2.out.1.set 0 _) (Reads.nil _ _ _) (fun ad e => by cases e))
        clear hpr
        rcases hbad with h0 | h0
        all_goals
          go_wp2_with fail
          go_ret2
          refine ⟨_, ?_, F.out.2⟩
          rw [F.out.1]
          rfl
      · by_cases hp : m < 2 + num2 R
        · have hpr := parse_part (l := R) (by omega) hbad (by omega)
          have F := Lib.hid (MID.out.fed (er := 0) (L := R) (by rw [← HRR.out]; exact hpr) (K3.out.mono (fun _ _ h => h.elim)) B2.out.1 B2.out.2 (fun ad e h0 => by
            injection e with e'
            rw [← e']
            exact (MID.out.row (by have := HM.out; omega)).base_le rfl))
          clear hpr
          go_wp2_with fail
          go_ret2
          refine ⟨_, ?_, F.out.2⟩
          rw [F.out.1]
          rfl
        · have hpr := parse_more (l := R) (by omega) hbad (by omega)
          have HPR := Lib.hid hpr
          clear hpr
          have hfr : Reads byte W (some ⟨g1, off + 2, none⟩) (2 + num2 R - 2) ((R.drop 2).take (num2 R)) := by
            rw [show 2 + num2 R - 2 = num2 R by omega]
            exact (B2.out.2.drop (k := 2) (by omega) (A' := some ⟨g1, off + 2, none⟩) (fun _ => by simp [byte, add_off])).take (by omega)
          have HFR := Lib.hid hfr
          clear hfr
          have hfew := MID.out.few
          have hofl := MID.out.offle
          have hxl : X.length ≤ 5000000 := by have := HN.out; omega
          have hn0 : 0 < num2 R := by omega
          have hgs : w.heap.size ≤ W.heap.size := Nat.le_trans MID.out.keeps.size K3.out.size
          have hn512 : num2 R ≤ 512 := by omega
          have hcr2 : ¬ cr = 2 := by omega
          have hgW := B2.out.1.lt
          have hlf : ((R.drop 2).take (num2 R)).length = num2 R := by have := HFR.out.1; omega
          have HLF := Lib.hid hlf
          clear hlf
          go_wp2_with (first
            | (at_builtin; refine wp_append elem5 (by rfl) (.tmp 61) (.tmp 68) (by rfl) w.heap.size (.slice (some ⟨W.heap.size, 0, none⟩) 0 0) [] _ _ _ _ rfl rfl (own_empty _ _ _ _ _ rfl hgs) (HFR.out.alloc _) (by simp; omega) (by simp [maxLen]; omega) (by simp; omega) ?_
               intro v3 w3 own3 gr3 at3
               rw [List.nil_append] at own3
               obtain ⟨A3, c3, hv3, _, _⟩ := own3.slice
               rw [HLF.out] at hv3
               rw [hv3]
               rw [hv3] at own3
               have k3 : Keeps (fun _ => False) wr w3 := (Keeps.grown (S := fun k => k = W.heap.size) ((K3.out.mono (fun _ _ h => h.elim)).alloc _) gr3 (fun k hk _ => by simpa [Value.ownBlock] using hk.symm)).mono (fun b hb e => by have := K3.out.size; omega)
               have hg3 := MID.out.box.keeps k3 (fun h => h)
               rw [← HM.out] at hg3
               have hc3 := hg3.cell 0
               have hf3 := hg3.frozen 0
               simp at hc3
               have OWN3 := Lib.hid own3
               have KK3 := Lib.hid k3
               clear own3 gr3 at3 k3 hg3 hv3)
            | (at_builtin; refine wp_append elem22 (by rfl) (.tmp 60) (.tmp 70) (by rfl) w.heap.size (.slice Ao hs.length co) hs [⟨A3, num2 R, c3⟩] (some ⟨w3.heap.size, 0, none⟩) 1 1 rfl rfl ((MID.out.out.keeps KK3.out (fun _ _ h => h)).alloc _) ((Blk.new w3 22 _ _ rfl).reads [_] rfl rfl) (by omega) (by simp only [maxLen]; omega) (by have := KK3.out.size; have := MID.out.keeps.size; simp; omega) ?_
               intro v4 w4 own4 gr4 at4
               have hb4 := ((MID.out.box.keeps KK3.out (fun h => h)).alloc (.cells #[.slice A3 (num2 R) c3] 22)).grown gr4 (fun e => MID.out.out.blk_ne MID.out.box (by decide) e.symm)
               rw [← HM.out] at hb4
               have hf4 := hb4.frozen 0
               have hc4 := hb4.cell 0
               simp at hc4
               have hgw4 := hb4.lt
               have OWN4 := Lib.hid own4
               have GR4 := Lib.hid gr4
               clear own4 gr4 at4 hb4))
          all_goals
            have hm := HM.out
            have NX := fun A' cr' hA hcr => MID.out.next (A' := A') (cr' := cr') (nn := num2 R) hn0 (by omega) (by rw [← HRR.out]; exact HPR.out) (KK3.out.alloc (.cells #[.slice A3 (num2 R) c3] 22)) (by rw [← HRR.out]; exact OWN3.out.alloc _) OWN4.out GR4.out hA hcr
            go_roundg (X.length - (off + (2 + num2 R)))
            case measure => have := HK.out; omega
            case rel =>
              rw [hm]
              refine ⟨_, _, _, _, _, NX _ _ ?_ ?_⟩
              · intro h'
                first | omega | rfl
              · omega
end Go.Proofs.Ytaccdbiajcnlaaa
