/- LinkFeeds, walked. -/
import Derived.Test.YtaccdbiajcnlaaaHolds
import Derived.Test.YtaccdbiajcnlaaaRef
import Derived.Test.YtaccdbiajcnlaaaGrow
namespace Go.Proofs.Ytaccdbiajcnlaaa
open Go.RowKit Mem
/-- A Feed, with all that it leaves. -/
theorem feed_all (g : Nat) (A' : Option Addr) (n' c' : Nat) (H Y : List Nat) (base : Nat) (A : Option Addr) (n c : Nat) (w : World) (hg : Blk w g 47 #[.slice A' n' c']) (hv : Own byte w base 5 (.slice A' n' c') H) (hy : Reads byte w A n Y) (hH : ∀ x ∈ H, x < 256) (hY : ∀ x ∈ Y, x < 256)
    (hb : base ≤ w.heap.size) (hl : H.length + n ≤ 5000000) :
    Calls Try.prog 13 #[.pointer (some ⟨g, 0, none⟩), .slice A n c] w fun e w' => ∃ Ao no co hs A2 n2 c2 A1 c1, e = .returned (.tuple #[.slice Ao no co, .int .i64 (parse (H ++ Y)).2.1]) ∧ no = (parse (H ++ Y)).1.length ∧ n2 = (parse (H ++ Y)).2.2.length ∧
      Own hdr w' w.heap.size 22 (.slice Ao no co) hs ∧ Own byte w' base 5 (.slice A1 (H ++ Y).length c1) (H ++ Y) ∧ Pieces A1 (H ++ Y) hs (parse (H ++ Y)).1 ∧ Blk w' g 47 #[.slice A2 n2 c2] ∧ Own byte w' w.heap.size 5 (.slice A2 n2 c2) (parse (H ++ Y)).2.2 ∧
      Apart (.slice A2 n2 c2) (.slice A1 (H ++ Y).length c1) ∧ (∀ k, (Value.slice A1 (H ++ Y).length c1).ownBlock = some k → w.heap.size ≤ k ∨ (Value.slice A' n' c').ownBlock = some k) ∧ Keeps (fun k => k = g ∨ (Value.slice A' n' c').ownBlock = some k) w w' := by
  refine (feed_any g _ H Y base A n c w hg hv hy hH hY hb hl).mono ?_
  rintro e w2 ⟨vo, rfl, hs, v1, A1, c1, o1, o2, o3, o4, o5, o6, o7, o8⟩
  obtain ⟨Ao, co, ho, hro⟩ := Own.val o1 (n := (parse (H ++ Y)).1.length) o3.1
  obtain ⟨A2, c2, hv1, hr1⟩ := Own.val o5 rfl
  subst ho hv1
  refine ⟨Ao, _, co, hs, A2, _, c2, A1, c1, rfl, rfl, rfl, o1, o2, o3, o4, o5, o6, fun k hk => ?_, o8⟩
  rcases o7 with h7 | h7
  · right; rw [← h7]; exact hk
  · left; rw [h7] at hk; injection hk with hk; omega
/-- The round, as it stands. -/
structure FMid (gx gy base : Nat) (w wr : World) (H : List Nat) (Ax : Option Addr) (nx cx : Nat) (Ay : Option Addr) (ny cy : Nat) : Prop where
  box : Blk wr gx 47 #[.slice Ax nx cx]
  row : Own byte wr base 5 (.slice Ax nx cx) H
  small : ∀ x ∈ H, x < 256
  few : H.length ≤ 513
  y : Blk wr gy 42 #[.slice Ay ny cy]
  ry : Reads byte wr Ay ny H
  fy : ∀ ad, Ay = some ad → 0 < ny → base ≤ ad.block ∧ (Value.slice Ax nx cx).ownBlock ≠ some ad.block
  below : Below w.heap.size w wr
  sz : base ≤ wr.heap.size
/-- What is fed is kept by what goes on beside it. -/
theorem FMid.reset {gx gy base : Nat} {w wr : World} {H : List Nat} {Ax : Option Addr} {nx cx : Nat} {Ay : Option Addr} {ny cy : Nat} (m : FMid gx gy base w wr H Ax nx cx Ay ny cy) (hw : w.heap.size ≤ gx) (hw' : w.heap.size ≤ gy) :
    FMid gx gy base w ((wr.setCell ⟨gx, 0, none⟩ (.slice none 0 0)).setCell ⟨gy, 0, none⟩ (.slice none 0 0)) [] none 0 0 none 0 0 := by
  have hne := m.box.ne_ m.y (by decide)
  refine ⟨((m.box.set 0 _).far (p := ⟨gy, 0, none⟩) hne _), Own.nil _ _ _ _, by simp, by simp, ((m.y.far (p := ⟨gx, 0, none⟩) (fun h => hne h.symm) _).set 0 _), Reads.nil _ _ _, (fun ad h => nomatch h), ?_, by simpa using m.sz⟩
  exact Below.keep m.below (S := fun b => b = gx ∨ b = gy) (((Keeps.refl _ wr).setCell _ _ (fun _ => .inl rfl)).setCell _ _ (fun _ => .inr rfl)) m.below.size (fun b hb h => by omega)
set_option maxRecDepth 100000 in
set_option maxHeartbeats 3200000 in
theorem feeds_any (fs : List (List Nat)) (hs : List Sl) (A : Option Addr) (n c : Nat) (rs : Int) (w : World) (hl : Lines w A n hs fs) (hb : total fs + n ≤ 1048576) :
    Calls Try.prog 8 #[.slice A n c, .int .i64 rs] w fun e w' => e = .returned (.bool true) ∧ Below w.heap.size w w' := by
  have hln : fs.length = n := by have := hl.heads.1; have := hl.len; omega
  have HLN := Lib.hid hln
  have HL := Lib.hid hl
  clear hln hl
  go_enter Try.func8, Try.ntmps8
  go_wp2_with (first
    | (go_at_call 9; refine (shown_any w).mono ?_
       rintro e w1 ⟨rfl, hb1⟩
       have B1 := Lib.hid hb1
       clear hb1)
    | (go_at_call 12; refine (new_any _).mono ?_
       rintro e w1' ⟨rfl, rfl⟩))
  have hg := B1.out.size
  go_loopw [8] (fun i wr => ∃ (k : Nat) (H : List Nat) (Ax : Option Addr) (nx cx : Nat) (Ay : Option Addr) (ny cy : Nat), k ≤ n ∧ i = .int .i64 k ∧ FMid w1.heap.size (w1.heap.size + 1) (w1.heap.size + 2) w wr H Ax nx cx Ay ny cy) (fun i _ => n - (intOf i).toNat)
  case atStart =>
    refine ⟨0, [], none, 0, 0, none, 0, 0, Nat.zero_le _, rfl, ⟨(Blk.new w1 47 _ _ rfl).alloc _, Own.nil _ _ _ _, by simp, by simp, Blk.new _ 42 _ _ (by simp), Reads.nil _ _ _, (fun ad h => nomatch h), ?_, by simp⟩⟩
    exact Below.keep B1.out (((Keeps.refl (fun _ => False) w1).alloc _).alloc _) hg (fun _ _ h => h)
  case round =>
    obtain ⟨k, H, Ax, nx, cx, Ay, ny, cy, hk, rfl, mid⟩ := hrel
    by_cases hlt : k < n
    · obtain ⟨ad, a, f, rfl, hf, ha, hc, hr, hfs⟩ := HL.out.at_ hlt
      have htl := total_take_le fs (k + 1)
      have htk := total_take_succ hf
      have hfl := hr.1
      have hff : f.length ≤ 1048576 := by omega
      have hcw : wr.cell? (ad.add k) = some (.slice a.A a.n a.c) := (mid.below.cell (World.block_lt_of_cell? _ _ hc)).trans hc
      have hgx := mid.box.lt
      have hgy := mid.y.lt
      have MID0 := Lib.hid mid
      have HC := Lib.hid hc
      have HR := Lib.hid hr
      have HFS := Lib.hid hfs
      have HFL := Lib.hid hfl
      clear mid hc hr hfs hfl hf ha htl htk
      by_cases hrs : (k : Int) = rs
      · subst hrs
        have RS := Lib.hid (reset_any w1.heap.size (.slice Ax nx cx) wr MID0.out.box)
        have hcx := MID0.out.y.cell 0
        have hfy := MID0.out.y.frozen 0
        simp at hcx
        have hcg : (wr.setCell ⟨w1.heap.size, 0, none⟩ (.slice none 0 0)).cell? ⟨w1.heap.size + 1, 0, none⟩ = some (.slice Ay ny cy) := by
          have := (MID0.out.y.far (p := ⟨w1.heap.size, 0, none⟩) (by simp) (.slice none 0 0)).cell 0
          simpa using this
        have hfg : (wr.setCell ⟨w1.heap.size, 0, none⟩ (.slice none 0 0)).frozen? ⟨w1.heap.size + 1, 0, none⟩ = false := (MID0.out.y.far (p := ⟨w1.heap.size, 0, none⟩) (by simp) (.slice none 0 0)).frozen 0
        have mid' := MID0.out.reset (by omega) (by omega)
        obtain ⟨w0, hw0⟩ : ∃ w0, w0 = (wr.setCell ⟨w1.heap.size, 0, none⟩ (.slice none 0 0)).setCell ⟨w1.heap.size + 1, 0, none⟩ (.slice none 0 0) := ⟨_, rfl⟩
        rw [← hw0] at mid'
        have hz0 : w0.heap.size = wr.heap.size := by rw [hw0]; simp
        obtain ⟨H1, Ax1, nx1, cx1, Ay1, ny1, cy1, mid1⟩ : ∃ H1 Ax1 nx1 cx1 Ay1 ny1 cy1, FMid w1.heap.size (w1.heap.size + 1) (w1.heap.size + 2) w w0 H1 Ax1 nx1 cx1 Ay1 ny1 cy1 := ⟨_, _, _, _, _, _, _, mid'⟩
        have MID := Lib.hid mid1
        have HW0 := Lib.hid hw0
        have HZ0 := Lib.hid hz0
        clear mid' mid1 hw0 hz0
        have MID' := MID.out
        have hsmX : ∀ x ∈ H1 ++ f, x < 256 := by
          intro x hx
          rcases List.mem_append.1 hx with h | h
          · exact MID'.small x h
          · exact HFS.out x h
        have hcnt := parse_count (H1 ++ f)
        rw [List.length_append] at hcnt
        have hps := parse_small hsmX
        have hfew := MID'.few
        have hbase := MID'.sz
        have hanb : a.n ≤ 1048576 := by have := HFL.out; omega
        have hny : ny1 = H1.length := MID'.ry.1.symm
        have XS := Lib.hid hsmX
        have CNT := Lib.hid hcnt
        have PS := Lib.hid hps
        have HNY := Lib.hid hny
        clear MID' hsmX hcnt hps hny
        obtain ⟨er, her⟩ : ∃ er, er = (parse (H1 ++ f)).2.1 := ⟨_, rfl⟩
        obtain ⟨gs, hgs⟩ : ∃ gs, gs = (parse (H1 ++ f)).1 := ⟨_, rfl⟩
        obtain ⟨R, hR⟩ : ∃ R, R = (parse (H1 ++ f)).2.2 := ⟨_, rfl⟩
        have hgsl : gs.length ≤ 2000000 := by rw [hgs]; have := CNT.out; omega
        have GL := Lib.hid hgsl
        clear hgsl
        obtain ⟨X, hX⟩ : ∃ X, X = H1 ++ f := ⟨_, rfl⟩
        have hXl : X.length = H1.length + f.length := by rw [hX, List.length_append]
        rw [← hX] at her hgs hR
        have ER := Lib.hid her
        have GS := Lib.hid hgs
        have RR := Lib.hid hR
        have HX := Lib.hid hX
        have XL := Lib.hid hXl
        clear her hgs hR hX hXl
        have hcz : (((wr.setCell ⟨w1.heap.size, 0, none⟩ (.slice none 0 0)).setCell ⟨w1.heap.size + 1, 0, none⟩ (.slice none 0 0)).alloc (.cells #[] 5)).cell? (ad.add k) = some (.slice a.A a.n a.c) := by
          have := (((MID.out.below).trans ((Keeps.refl (fun _ => False) w0).alloc (.cells #[] 5) |>.below MID.out.below.size (fun _ _ h => h))).cell (World.block_lt_of_cell? _ _ HC.out)).trans HC.out
          rw [HW0.out] at this
          exact this
        go_wp2_with (first
          | (go_at_call 13; refine (feed_all w1.heap.size Ax1 nx1 cx1 H1 f (w1.heap.size + 2) A3 a.n c3 w3 BX3.out RW3.out R3.out MID.out.small HFS.out (by omega) (by have := HFL.out; omega)).mono ?_
             rintro e w4 ⟨Ao, no, co, ho, A2, n2, c2, A1, c1, rfl, hno, hn2, own4, row4, pcs, box4, held4, apr, how, hk4⟩
             rw [← HX.out] at hno hn2 row4 pcs held4 apr how ⊢
             rw [← GS.out] at hno pcs
             rw [← RR.out] at hn2 held4
             rw [← ER.out]
             have hz4 := hk4.size
             have own77 : Own byte w4 w0.heap.size 5 (.slice A3 a.n c3) f := OWN3.out.keeps hk4 (fun b hb h => by
               have := OWN3.out.base_le hb
               rcases h with h | h
               · have := HZ0.out; omega
               · have := MID.out.row.lt h; omega)
             have y4 := Y3.out.keeps hk4 (fun h => by
               rcases h with h | h
               · omega
               · exact MID.out.row.blk_ne MID.out.y (by decide) h)
             have ry4 := RY3.out.keeps hk4 (fun ad e hn h => by
               have := MID.out.fy ad e hn
               rcases h with h | h
               · omega
               · exact this.2 h)
             have b4 := Below.keep B3.out hk4 (by have := B3.out.size; omega) (fun b hb h => by
               rcases h with h | h
               · omega
               · have := MID.out.row.base_le h; omega)
             have NO := Lib.hid hno
             have N2 := Lib.hid hn2
             have OWN4 := Lib.hid own4
             have ROW4 := Lib.hid row4
             have PCS := Lib.hid pcs
             have BOX4 := Lib.hid box4
             have HELD4 := Lib.hid held4
             have APR := Lib.hid apr
             have HOW := Lib.hid how
             have OWN77 := Lib.hid own77
             have Y4 := Lib.hid y4
             have RY4 := Lib.hid ry4
             have B4 := Lib.hid b4
             clear hno hn2 own4 row4 pcs box4 held4 apr how hk4 own77 y4 ry4 b4)
          | (go_at_call 16; refine RS.out.mono ?_
             rintro e w2 ⟨rfl, rfl⟩)
          | (at_builtin; rw [← HW0.out]; refine wp_append elem5 (by rfl) (.tmp 42) (.tmp 46) (by rfl) w0.heap.size (.slice (some ⟨w0.heap.size, 0, none⟩) 0 0) [] f a.A a.n a.c (by first | rfl | (rw [HZ0.out]; rfl)) rfl (own_empty _ _ _ _ _ rfl (Nat.le_refl _)) ((HR.out.below MID.out.below).alloc _) (by have := HFL.out; simp; omega) (by have := HFL.out; simp [maxLen]; omega) (by simp) ?_
             intro v3 w3 own3 gr3 at3
             rw [List.nil_append] at own3
             obtain ⟨A3, c3, hv3, r3⟩ := Own.val own3 HFL.out
             rw [hv3]
             rw [hv3] at own3
             have k3 := app_empty w0 w0.heap.size rfl gr3
             have hz3 := k3.size
             have bx3 := MID.out.box.keeps k3 (fun h => h)
             have rw3 := MID.out.row.keeps k3 (fun _ _ h => h)
             have y3 := MID.out.y.keeps k3 (fun h => h)
             have ry3 := MID.out.ry.keeps k3 (fun _ _ _ h => h)
             have b3 := Below.keep MID.out.below k3 MID.out.below.size (fun _ _ h => h)
             have OWN3 := Lib.hid own3
             have R3 := Lib.hid r3
             have BX3 := Lib.hid bx3
             have RW3 := Lib.hid rw3
             have Y3 := Lib.hid y3
             have RY3 := Lib.hid ry3
             have B3 := Lib.hid b3
             clear own3 gr3 at3 hv3 r3 k3 bx3 rw3 y3 ry3 b3))
        go_loopw [12] (fun v wr => ∃ (i : Nat) (f' : List Nat), i ≤ a.n ∧ v = .int .i64 i ∧ Own byte wr w0.heap.size 5 (.slice A3 a.n c3) f' ∧ Keeps (fun b => (Value.slice A3 a.n c3).ownBlock = some b) w4 wr) (fun v _ => a.n - (intOf v).toNat)
        case atStart => exact ⟨0, f, Nat.zero_le _, rfl, OWN77.out, Keeps.refl _ _⟩
        case round =>
          obtain ⟨i, f', hi, rfl, o77, k77⟩ := hrel
          by_cases hin : i < a.n
          · obtain ⟨g3, c3', hv3, hb3, hl3, _⟩ := o77.form (by rw [o77.len_eq rfl]; omega)
            injection hv3 with hA3 hx3 hc3
            subst hA3
            obtain ⟨x, hx, hcx⟩ := o77.byte_at hin
            have hfx := o77.frozen i
            have st := o77.byte_set hin 77
            have kst := k77.setCell ⟨g3, i, none⟩ (.int .u8 77) (fun _ => rfl)
            have ST := Lib.hid st
            have KST := Lib.hid kst
            clear o77 k77 hx st kst hc3 hx3
            go_wp2_with fail
            exact ⟨⟨i + 1, _, by omega, by go_num, ST.out, KST.out⟩, by simp [intOf]; omega⟩
          · obtain ⟨w5, hw5⟩ : ∃ w5, w5 = wr := ⟨_, rfl⟩
            subst hw5
            have y5 := Y4.out.keeps k77 (fun h => OWN77.out.blk_ne Y4.out (by decide) h)
            have ry5 := RY4.out.keeps k77 (fun ad e hn h => by
              have := MID.out.ry.lt hn e
              have := OWN77.out.base_le h
              omega)
            have o5 := OWN4.out.keeps k77 (fun b hb h => OWN77.out.own_ne OWN4.out (by decide) b h hb)
            have row5 := ROW4.out.keeps k77 (fun b hb h => by
              have h1 := OWN3.out.lt h
              have h2 := OWN3.out.base_le h
              rcases HOW.out b hb with h3 | h3
              · omega
              · have := MID.out.row.lt h3; omega)
            have box5 := BOX4.out.keeps k77 (fun h => OWN77.out.blk_ne BOX4.out (by decide) h)
            have held5 := HELD4.out.keeps k77 (fun b hb h => by
              have h1 := OWN3.out.lt h
              have := HELD4.out.base_le hb
              omega)
            have hz5 := k77.size
            have b5 := Below.keep B4.out k77 (by have := B4.out.size; omega) (fun b hb h => by
              have := OWN77.out.base_le h; have := MID.out.below.size; omega)
            have hcw5 : w5.cell? (ad.add k) = some (.slice a.A a.n a.c) := (b5.cell (World.block_lt_of_cell? _ _ HC.out)).trans HC.out
            have R5 := Lib.hid (HR.out.below b5)
            have Y5 := Lib.hid y5
            have RY5 := Lib.hid ry5
            have O5 := Lib.hid o5
            have ROW5 := Lib.hid row5
            have BOX5 := Lib.hid box5
            have HELD5 := Lib.hid held5
            have B5 := Lib.hid b5
            clear o77 k77 y5 ry5 o5 row5 box5 held5 b5
            go_wp2_with (first
              | (go_at_call 17; refine (ref_any (w1.heap.size + 1) H1 f a.A Ay1 a.n a.c ny1 cy1 w5 Y5.out RY5.out R5.out MID.out.small HFS.out (by have := HNY.out; have := HFL.out; omega)).mono ?_
                 rintro e w6 ⟨vo, rfl, hs6, A6, n6, c6, o6, l6, e6, y6, r6, fr6, k6⟩
                 rw [← HX.out] at l6 e6 r6 ⊢
                 rw [← GS.out] at l6 e6
                 rw [← RR.out] at r6
                 rw [← ER.out]
                 obtain ⟨Ao6, co6, hv6, rd6⟩ := Own.val o6 l6
                 subst hv6
                 obtain rfl : n6 = n2 := by rw [N2.out]; exact r6.1.symm
                 have oa := O5.out.keeps k6 (fun b hb h => by subst h; exact O5.out.blk_ne Y5.out (by decide) hb)
                 have rowa := ROW5.out.keeps k6 (fun b hb h => by subst h; exact ROW5.out.blk_ne Y5.out (by decide) hb)
                 have boxa := BOX5.out.keeps k6 (fun h => by omega)
                 have helda := HELD5.out.keeps k6 (fun b hb h => by subst h; exact HELD5.out.blk_ne Y5.out (by decide) hb)
                 obtain ⟨_, _, ea, ra, _⟩ := oa.slice
                 injection ea with ea1 ea2 ea3
                 rw [← ea1, ← ea2] at ra
                 have hz6 := k6.size
                 have hgl : gs.length = no := NO.out.symm
                 have sm := PS.out.1
                 rw [← HX.out, ← GS.out] at sm
                 have hsame := same_any ho hs6 gs gs Ao Ao6 no gs.length co co6 w6 ⟨ra, PCS.out.1, fun i h f hi hf => Fed.reads PCS.out rowa hi hf, sm⟩ ⟨rd6, l6, fun i h f hi hf => (by obtain ⟨_, _, e, hr, _⟩ := (e6 i h f hi hf).slice; injection e with e1 e2 e3; rw [← e1, ← e2] at hr; exact hr), sm⟩ (by have := GL.out; have := NO.out; omega)
                 simp only [decide_true] at hsame
                 have b6 := Below.keep B5.out k6 (by have := B5.out.size; omega) (fun b hb h => by omega)
                 have SAME := Lib.hid hsame
                 have OA := Lib.hid oa
                 have ROWA := Lib.hid rowa
                 have BOXA := Lib.hid boxa
                 have HELDA := Lib.hid helda
                 have Y6 := Lib.hid y6
                 have R6 := Lib.hid r6
                 have FR6 := Lib.hid fr6
                 have B6 := Lib.hid b6
                 clear o6 l6 e6 y6 r6 fr6 k6 rd6 oa rowa boxa helda ra ea1 ea2 ea3 hgl sm hsame b6)
              | (go_at_call 14; refine SAME.out.mono ?_
                 rintro e w7 ⟨q, rfl, hw7⟩
                 have bx7 : Blk w7 w1.heap.size 47 #[.slice A2 n6 c2] := by rw [hw7]; exact BOXA.out.drewN q
                 have y7 : Blk w7 (w1.heap.size + 1) 42 #[.slice A6 n6 c6] := by rw [hw7]; exact Y6.out.drewN q
                 have oa7 : Own hdr w7 w3.heap.size 22 (.slice Ao no co) ho := by rw [hw7]; exact OA.out.drewN q
                 have rowa7 : Own byte w7 (w1.heap.size + 2) 5 (.slice A1 X.length c1) X := by rw [hw7]; exact ROWA.out.drewN q
                 have hel7 : Own byte w7 w3.heap.size 5 (.slice A2 n6 c2) R := by rw [hw7]; exact HELDA.out.drewN q
                 have r7 : Reads byte w7 A6 n6 R := by rw [hw7]; exact R6.out.drewN q
                 have b7 : Below w.heap.size w w7 := by rw [hw7]; exact Below.keep B6.out ((Keeps.refl (fun _ => False) _).drewN q) B6.out.size (fun _ _ h => h)
                 have HH := Lib.hid (fun q => held_any w1.heap.size n6 c2 A2 (w7.drewN q) (bx7.drewN q))
                 have hcy7 := y7.cell 0
                 simp at hcy7
                 have hz7 : w6.heap.size = w7.heap.size := by rw [hw7]; rfl
                 have BX7 := Lib.hid bx7
                 have Y7 := Lib.hid y7
                 have OA7 := Lib.hid oa7
                 have ROW7 := Lib.hid rowa7
                 have HEL7 := Lib.hid hel7
                 have R7 := Lib.hid r7
                 have B7 := Lib.hid b7
                 have HZ7 := Lib.hid hz7
                 clear bx7 y7 oa7 rowa7 hel7 r7 b7 hz7 hw7))
            go_quiet ((go_at_call 15; exact Calls.quiet_of_same (HH.out _)))
            go_wp2_with fail
            go_loopw [16] (fun v wr => ∃ (j : Nat) (ho' : List Sl) (X' : List Nat), j ≤ no ∧ v = .int .i64 j ∧ Own hdr wr w3.heap.size 22 (.slice Ao no co) ho' ∧ ho'.drop j = ho.drop j ∧ Own byte wr (w1.heap.size + 2) 5 (.slice A1 X.length c1) X' ∧ Keeps (fun b => (Value.slice Ao no co).ownBlock = some b ∨ (Value.slice A1 X.length c1).ownBlock = some b) w7 wr) (fun v _ => no - (intOf v).toNat)
            case atStart => exact ⟨0, ho, X, Nat.zero_le _, rfl, OA7.out.drewN _, rfl, ROW7.out.drewN _, (Keeps.refl _ _).drewN _⟩
            case round =>
              obtain ⟨j, ho', X', hj, rfl, oo, hdr', rw', kk⟩ := hrel
              by_cases hjn : j < no
              · have hlo : ho.length = no := OA7.out.len_eq rfl
                have hlo' : ho'.length = no := oo.len_eq rfl
                have hlx' : X'.length = X.length := rw'.len_eq rfl
                obtain ⟨h, hh⟩ : ∃ h, ho[j]? = some h := ⟨_, List.getElem?_eq_getElem (by omega)⟩
                have hh' : ho'[j]? = some h := by
                  have := congrArg (fun l => l[0]?) hdr'
                  simp only [List.getElem?_drop, Nat.add_zero] at this
                  rw [this, hh]
                have hgl : gs.length = no := NO.out.symm
                obtain ⟨p, hp⟩ : ∃ p, gs[j]? = some p := ⟨_, List.getElem?_eq_getElem (by omega)⟩
                obtain ⟨o, hA, hn, hc, h0, hol, hpt⟩ := PCS.out.2 j h p hh hp
                clear hpt
                obtain ⟨hAA, hnn, hcc⟩ := h
                simp only at hA hn hc
                obtain ⟨bo, co', hvo, hbo, hbl, _⟩ := oo.form (by omega)
                injection hvo with hAo hxo hco
                obtain ⟨b1, c1', hv1, hb1, hb1l, _⟩ := rw'.form (by omega)
                injection hv1 with hA1 hx1 hc1
                subst hAo hA1 hc hn
                simp only [Option.map_some, add_at] at hA
                subst hA
                have hce : wr.cell? ⟨bo, j, none⟩ = some (.slice (some ⟨b1, o, none⟩) p.length p.length) := by
                  have := oo.at_ hh' (j := 0) rfl
                  simpa [hdr] using this
                have hpl : p.length ≤ 4000000 := by have := XL.out; omega
                have hno' : no ≤ 2000000 := by have := GL.out; omega
                have OO := Lib.hid oo
                have HDR := Lib.hid hdr'
                have RW := Lib.hid rw'
                have KK := Lib.hid kk
                have HH' := Lib.hid hh'
                have HCE := Lib.hid hce
                clear oo hdr' rw' kk hh' hh hp hlo hlo' hlx' hgl hco hc1 hxo hx1
                go_wp2_with fail
                go_loopw [17] (fun v wr => ∃ (i : Nat) (X'' : List Nat), i ≤ p.length ∧ v = .int .i64 i ∧ Own hdr wr w3.heap.size 22 (.slice (some ⟨bo, 0, none⟩) no co) ho' ∧ Own byte wr (w1.heap.size + 2) 5 (.slice (some ⟨b1, 0, none⟩) X.length c1) X'' ∧ Keeps (fun b => (Value.slice (some ⟨bo, 0, none⟩) no co).ownBlock = some b ∨ (Value.slice (some ⟨b1, 0, none⟩) X.length c1).ownBlock = some b) w7 wr) (fun v _ => p.length - (intOf v).toNat)
                case atStart => exact ⟨0, X', Nat.zero_le _, rfl, OO.out, RW.out, KK.out⟩
                case round =>
                  obtain ⟨i, X'', hi, rfl, oo, rw', kk⟩ := hrel
                  have hce : wr.cell? ⟨bo, j, none⟩ = some (.slice (some ⟨b1, o, none⟩) p.length p.length) := by
                    have := oo.at_ HH'.out (j := 0) rfl
                    simpa [hdr] using this
                  by_cases hip : i < p.length
                  · obtain ⟨x, hx, hcx⟩ := rw'.byte_at (i := o + i) (by omega)
                    have hfx := rw'.frozen (o + i)
                    have st := rw'.byte_set (i := o + i) (by omega) 99
                    have oo' := oo.setCell ⟨b1, o + i, none⟩ (.int .u8 99) (fun b hb h => by
                      subst h
                      exact oo.own_ne rw' (by decide) _ hb rfl)
                    have kst := kk.setCell ⟨b1, o + i, none⟩ (.int .u8 99) (fun _ => .inr rfl)
                    have ST := Lib.hid st
                    have KST := Lib.hid kst
                    have OO' := Lib.hid oo'
                    clear oo rw' kk hx st kst oo'
                    go_wp2_with fail
                    exact ⟨⟨i + 1, _, by omega, by go_num, OO'.out, ST.out, KST.out⟩, by simp [intOf]; omega⟩
                  · have hlx' : X''.length = X.length := rw'.len_eq rfl
                    obtain ⟨_, _, er, rr, _⟩ := rw'.slice
                    injection er with er1 er2 er3
                    rw [← er1, hlx'] at rr
                    have rp := (rr.drop (k := o) (by omega) (A' := some ⟨b1, o, none⟩) (fun _ => by simp [byte, add_at])).take (k := p.length) (by omega)
                    have OO2 := Lib.hid oo
                    have RW2 := Lib.hid rw'
                    have KK2 := Lib.hid kk
                    have RP2 := Lib.hid rp
                    clear oo rw' kk rr rp er1 er2 er3 hlx'
                    go_wp2_with (first
                      | (at_builtin; refine wp_append_full elem5 (by rfl) (.tmp 118) (.tmp 119) (by rfl) ((X''.drop o).take p.length) [98] (some ⟨b1, o, none⟩) p.length p.length (some ⟨wr.heap.size, 0, none⟩) 1 1 rfl rfl (RP2.out.alloc _) ((Blk.new wr 5 #[.int .u8 98] _ rfl).reads [98] rfl rfl) (by simp) (by omega) (by omega) (by omega) (by simp only [maxLen]; omega) ?_
                         intro v9 w9 own9 gr9
                         obtain ⟨A9, c9, hv9, _⟩ := Own.val own9 rfl
                         have k9 : Keeps (fun b => (Value.slice (some ⟨bo, 0, none⟩) no co).ownBlock = some b ∨ (Value.slice (some ⟨b1, 0, none⟩) X.length c1).ownBlock = some b) w7 w9 := (KK2.out.alloc _).grown gr9 (fun b hb => by cases hb)
                         have kn : Keeps (fun _ => False) wr w9 := ((Keeps.refl (fun _ => False) wr).alloc _).grown gr9 (fun b hb => by cases hb)
                         have oo9 := OO2.out.keeps kn (fun _ _ h => h)
                         have rw9 := RW2.out.keeps kn (fun _ _ h => h)
                         have hf9 := oo9.frozen j
                         have hc9 : w9.cell? ⟨bo, j, none⟩ = some (.slice (some ⟨b1, o, none⟩) p.length p.length) := by
                           have := oo9.at_ HH'.out (j := 0) rfl
                           simpa [hdr] using this
                         have st9 := oo9.store (j := 0) (y := ⟨A9, ((X''.drop o).take p.length ++ [98]).length, c9⟩) (u := .slice A9 ((X''.drop o).take p.length ++ [98]).length c9) HH'.out (by decide) rfl
                         rw [show j * hdr.size + 0 = j from Nat.mul_one j] at st9
                         have rws := rw9.setCell ⟨bo, j, none⟩ (.slice A9 ((X''.drop o).take p.length ++ [98]).length c9) (fun b hb h => by
                           subst h
                           exact oo9.own_ne rw9 (by decide) _ rfl hb)
                         have ks := k9.setCell ⟨bo, j, none⟩ (.slice A9 ((X''.drop o).take p.length ++ [98]).length c9) (fun _ => .inl rfl)
                         rw [hv9]
                         obtain ⟨m9, hm9⟩ : ∃ m9, m9 = ((X''.drop o).take p.length ++ [98]).length := ⟨_, rfl⟩
                         rw [← hm9] at st9 rws ks ⊢
                         have STN := Lib.hid st9
                         have RWN := Lib.hid rws
                         have KSN := Lib.hid ks
                         clear own9 gr9 hv9 k9 kn oo9 rw9 st9 rws ks hm9))
                    refine ⟨⟨j + 1, _, X'', by omega, by go_num, STN.out, ?_, RWN.out, KSN.out⟩, by simp [intOf]; omega⟩
                    rw [List.drop_set_of_lt (by omega), ← List.drop_drop, HDR.out, List.drop_drop]
              · have fin : FMid w1.heap.size (w1.heap.size + 1) (w1.heap.size + 2) w wr R A2 n6 c2 A6 n6 c6 := by
                  have ne1 : ∀ b, b < w3.heap.size → (Value.slice Ao no co).ownBlock ≠ some b := fun b hb h => by
                    have := OA7.out.base_le h; omega
                  refine ⟨BX7.out.keeps kk (fun h => ?_), ?_, ?_, ?_, Y7.out.keeps kk (fun h => ?_), R7.out.keeps kk (fun ad e hn h => ?_), fun ad e hn => ?_, ?_, ?_⟩
                  · rcases h with h | h
                    · exact OA7.out.blk_ne BX7.out (by decide) h
                    · exact ROW7.out.blk_ne BX7.out (by decide) h
                  · refine (HEL7.out.keeps kk (fun b hb h => ?_)).rebase _ (fun b hb => by have := HEL7.out.base_le hb; omega)
                    rcases h with h | h
                    · exact OA7.out.own_ne HEL7.out (by decide) b h hb
                    · have := APR.out b; exact this hb h
                  · have := PS.out.2
                    rw [← HX.out, ← RR.out] at this
                    exact this
                  · have h1 := CNT.out.2.1
                    rw [← HX.out, ← RR.out] at h1
                    exact h1
                  · rcases h with h | h
                    · exact OA7.out.blk_ne Y7.out (by decide) h
                    · exact ROW7.out.blk_ne Y7.out (by decide) h
                  · have h1 := FR6.out ad e hn
                    rcases h with h | h
                    · have := O5.out.lt h; omega
                    · have := ROW5.out.lt h; omega
                  · have h1 := FR6.out ad e hn
                    refine ⟨by omega, fun h => ?_⟩
                    have := HELD5.out.lt h
                    omega
                  · exact Below.keep B7.out kk B7.out.size (fun b hb h => by
                      have hbs := B1.out.size
                      rcases h with h | h
                      · have := OA7.out.base_le h; omega
                      · have := ROW7.out.base_le h; omega)
                  · have := kk.size; have := HZ7.out; omega
                have FIN := Lib.hid fin
                clear fin oo hdr' rw' kk
                go_wp2_with fail
                exact ⟨⟨k + 1, R, A2, n6, c2, A6, n6, c6, by omega, by go_num, FIN.out⟩, by simp [intOf]; omega⟩
      · have hrs' : ((k : Int) == rs) = false := by simpa using hrs
        obtain ⟨w0, hw0⟩ : ∃ w0, w0 = wr := ⟨_, rfl⟩
        subst hw0
        have mid1 := MID0.out
        have hz0 : w0.heap.size = w0.heap.size := rfl
        have MID := Lib.hid mid1
        have HZ0 := Lib.hid hz0
        clear mid1 hz0
        obtain ⟨H1, hH1⟩ : ∃ H1, H = H1 := ⟨_, rfl⟩
        obtain ⟨Ax1, hAx1⟩ : ∃ Ax1, Ax = Ax1 := ⟨_, rfl⟩
        obtain ⟨nx1, hnx1⟩ : ∃ nx1, nx = nx1 := ⟨_, rfl⟩
        obtain ⟨cx1, hcx1⟩ : ∃ cx1, cx = cx1 := ⟨_, rfl⟩
        obtain ⟨Ay1, hAy1⟩ : ∃ Ay1, Ay = Ay1 := ⟨_, rfl⟩
        obtain ⟨ny1, hny1⟩ : ∃ ny1, ny = ny1 := ⟨_, rfl⟩
        obtain ⟨cy1, hcy1⟩ : ∃ cy1, cy = cy1 := ⟨_, rfl⟩
        rw [hH1, hAx1, hnx1, hcx1, hAy1, hny1, hcy1] at MID
        clear hH1 hAx1 hnx1 hcx1 hAy1 hny1 hcy1
        have MID' := MID.out
        have hsmX : ∀ x ∈ H1 ++ f, x < 256 := by
          intro x hx
          rcases List.mem_append.1 hx with h | h
          · exact MID'.small x h
          · exact HFS.out x h
        have hcnt := parse_count (H1 ++ f)
        rw [List.length_append] at hcnt
        have hps := parse_small hsmX
        have hfew := MID'.few
        have hbase := MID'.sz
        have hanb : a.n ≤ 1048576 := by have := HFL.out; omega
        have hny : ny1 = H1.length := MID'.ry.1.symm
        have XS := Lib.hid hsmX
        have CNT := Lib.hid hcnt
        have PS := Lib.hid hps
        have HNY := Lib.hid hny
        clear MID' hsmX hcnt hps hny
        obtain ⟨er, her⟩ : ∃ er, er = (parse (H1 ++ f)).2.1 := ⟨_, rfl⟩
        obtain ⟨gs, hgs⟩ : ∃ gs, gs = (parse (H1 ++ f)).1 := ⟨_, rfl⟩
        obtain ⟨R, hR⟩ : ∃ R, R = (parse (H1 ++ f)).2.2 := ⟨_, rfl⟩
        have hgsl : gs.length ≤ 2000000 := by rw [hgs]; have := CNT.out; omega
        have GL := Lib.hid hgsl
        clear hgsl
        obtain ⟨X, hX⟩ : ∃ X, X = H1 ++ f := ⟨_, rfl⟩
        have hXl : X.length = H1.length + f.length := by rw [hX, List.length_append]
        rw [← hX] at her hgs hR
        have ER := Lib.hid her
        have GS := Lib.hid hgs
        have RR := Lib.hid hR
        have HX := Lib.hid hX
        have XL := Lib.hid hXl
        clear her hgs hR hX hXl
        have hcz : (w0.alloc (.cells #[] 5)).cell? (ad.add k) = some (.slice a.A a.n a.c) := by
          have := (((MID.out.below).trans ((Keeps.refl (fun _ => False) w0).alloc (.cells #[] 5) |>.below MID.out.below.size (fun _ _ h => h))).cell (World.block_lt_of_cell? _ _ HC.out)).trans HC.out
          exact this
        go_wp2_with (first
          | (go_at_call 13; refine (feed_all w1.heap.size Ax1 nx1 cx1 H1 f (w1.heap.size + 2) A3 a.n c3 w3 BX3.out RW3.out R3.out MID.out.small HFS.out (by omega) (by have := HFL.out; omega)).mono ?_
             rintro e w4 ⟨Ao, no, co, ho, A2, n2, c2, A1, c1, rfl, hno, hn2, own4, row4, pcs, box4, held4, apr, how, hk4⟩
             rw [← HX.out] at hno hn2 row4 pcs held4 apr how ⊢
             rw [← GS.out] at hno pcs
             rw [← RR.out] at hn2 held4
             rw [← ER.out]
             have hz4 := hk4.size
             have own77 : Own byte w4 w0.heap.size 5 (.slice A3 a.n c3) f := OWN3.out.keeps hk4 (fun b hb h => by
               have := OWN3.out.base_le hb
               rcases h with h | h
               · have := HZ0.out; omega
               · have := MID.out.row.lt h; omega)
             have y4 := Y3.out.keeps hk4 (fun h => by
               rcases h with h | h
               · omega
               · exact MID.out.row.blk_ne MID.out.y (by decide) h)
             have ry4 := RY3.out.keeps hk4 (fun ad e hn h => by
               have := MID.out.fy ad e hn
               rcases h with h | h
               · omega
               · exact this.2 h)
             have b4 := Below.keep B3.out hk4 (by have := B3.out.size; omega) (fun b hb h => by
               rcases h with h | h
               · omega
               · have := MID.out.row.base_le h; omega)
             have NO := Lib.hid hno
             have N2 := Lib.hid hn2
             have OWN4 := Lib.hid own4
             have ROW4 := Lib.hid row4
             have PCS := Lib.hid pcs
             have BOX4 := Lib.hid box4
             have HELD4 := Lib.hid held4
             have APR := Lib.hid apr
             have HOW := Lib.hid how
             have OWN77 := Lib.hid own77
             have Y4 := Lib.hid y4
             have RY4 := Lib.hid ry4
             have B4 := Lib.hid b4
             clear hno hn2 own4 row4 pcs box4 held4 apr how hk4 own77 y4 ry4 b4)
          | (go_at_call 16; refine RS.out.mono ?_
             rintro e w2 ⟨rfl, rfl⟩)
          | (at_builtin; refine wp_append elem5 (by rfl) (.tmp 42) (.tmp 46) (by rfl) w0.heap.size (.slice (some ⟨w0.heap.size, 0, none⟩) 0 0) [] f a.A a.n a.c (by first | rfl | (rw [HZ0.out]; rfl)) rfl (own_empty _ _ _ _ _ rfl (Nat.le_refl _)) ((HR.out.below MID.out.below).alloc _) (by have := HFL.out; simp; omega) (by have := HFL.out; simp [maxLen]; omega) (by simp) ?_
             intro v3 w3 own3 gr3 at3
             rw [List.nil_append] at own3
             obtain ⟨A3, c3, hv3, r3⟩ := Own.val own3 HFL.out
             rw [hv3]
             rw [hv3] at own3
             have k3 := app_empty w0 w0.heap.size rfl gr3
             have hz3 := k3.size
             have bx3 := MID.out.box.keeps k3 (fun h => h)
             have rw3 := MID.out.row.keeps k3 (fun _ _ h => h)
             have y3 := MID.out.y.keeps k3 (fun h => h)
             have ry3 := MID.out.ry.keeps k3 (fun _ _ _ h => h)
             have b3 := Below.keep MID.out.below k3 MID.out.below.size (fun _ _ h => h)
             have OWN3 := Lib.hid own3
             have R3 := Lib.hid r3
             have BX3 := Lib.hid bx3
             have RW3 := Lib.hid rw3
             have Y3 := Lib.hid y3
             have RY3 := Lib.hid ry3
             have B3 := Lib.hid b3
             clear own3 gr3 at3 hv3 r3 k3 bx3 rw3 y3 ry3 b3))
        go_loopw [12] (fun v wr => ∃ (i : Nat) (f' : List Nat), i ≤ a.n ∧ v = .int .i64 i ∧ Own byte wr w0.heap.size 5 (.slice A3 a.n c3) f' ∧ Keeps (fun b => (Value.slice A3 a.n c3).ownBlock = some b) w4 wr) (fun v _ => a.n - (intOf v).toNat)
        case atStart => exact ⟨0, f, Nat.zero_le _, rfl, OWN77.out, Keeps.refl _ _⟩
        case round =>
          obtain ⟨i, f', hi, rfl, o77, k77⟩ := hrel
          by_cases hin : i < a.n
          · obtain ⟨g3, c3', hv3, hb3, hl3, _⟩ := o77.form (by rw [o77.len_eq rfl]; omega)
            injection hv3 with hA3 hx3 hc3
            subst hA3
            obtain ⟨x, hx, hcx⟩ := o77.byte_at hin
            have hfx := o77.frozen i
            have st := o77.byte_set hin 77
            have kst := k77.setCell ⟨g3, i, none⟩ (.int .u8 77) (fun _ => rfl)
            have ST := Lib.hid st
            have KST := Lib.hid kst
            clear o77 k77 hx st kst hc3 hx3
            go_wp2_with fail
            exact ⟨⟨i + 1, _, by omega, by go_num, ST.out, KST.out⟩, by simp [intOf]; omega⟩
          · obtain ⟨w5, hw5⟩ : ∃ w5, w5 = wr := ⟨_, rfl⟩
            subst hw5
            have y5 := Y4.out.keeps k77 (fun h => OWN77.out.blk_ne Y4.out (by decide) h)
            have ry5 := RY4.out.keeps k77 (fun ad e hn h => by
              have := MID.out.ry.lt hn e
              have := OWN77.out.base_le h
              omega)
            have o5 := OWN4.out.keeps k77 (fun b hb h => OWN77.out.own_ne OWN4.out (by decide) b h hb)
            have row5 := ROW4.out.keeps k77 (fun b hb h => by
              have h1 := OWN3.out.lt h
              have h2 := OWN3.out.base_le h
              rcases HOW.out b hb with h3 | h3
              · omega
              · have := MID.out.row.lt h3; omega)
            have box5 := BOX4.out.keeps k77 (fun h => OWN77.out.blk_ne BOX4.out (by decide) h)
            have held5 := HELD4.out.keeps k77 (fun b hb h => by
              have h1 := OWN3.out.lt h
              have := HELD4.out.base_le hb
              omega)
            have hz5 := k77.size
            have b5 := Below.keep B4.out k77 (by have := B4.out.size; omega) (fun b hb h => by
              have := OWN77.out.base_le h; have := MID.out.below.size; omega)
            have hcw5 : w5.cell? (ad.add k) = some (.slice a.A a.n a.c) := (b5.cell (World.block_lt_of_cell? _ _ HC.out)).trans HC.out
            have R5 := Lib.hid (HR.out.below b5)
            have Y5 := Lib.hid y5
            have RY5 := Lib.hid ry5
            have O5 := Lib.hid o5
            have ROW5 := Lib.hid row5
            have BOX5 := Lib.hid box5
            have HELD5 := Lib.hid held5
            have B5 := Lib.hid b5
            clear o77 k77 y5 ry5 o5 row5 box5 held5 b5
            go_wp2_with (first
              | (go_at_call 17; refine (ref_any (w1.heap.size + 1) H1 f a.A Ay1 a.n a.c ny1 cy1 w5 Y5.out RY5.out R5.out MID.out.small HFS.out (by have := HNY.out; have := HFL.out; omega)).mono ?_
                 rintro e w6 ⟨vo, rfl, hs6, A6, n6, c6, o6, l6, e6, y6, r6, fr6, k6⟩
                 rw [← HX.out] at l6 e6 r6 ⊢
                 rw [← GS.out] at l6 e6
                 rw [← RR.out] at r6
                 rw [← ER.out]
                 obtain ⟨Ao6, co6, hv6, rd6⟩ := Own.val o6 l6
                 subst hv6
                 obtain rfl : n6 = n2 := by rw [N2.out]; exact r6.1.symm
                 have oa := O5.out.keeps k6 (fun b hb h => by subst h; exact O5.out.blk_ne Y5.out (by decide) hb)
                 have rowa := ROW5.out.keeps k6 (fun b hb h => by subst h; exact ROW5.out.blk_ne Y5.out (by decide) hb)
                 have boxa := BOX5.out.keeps k6 (fun h => by omega)
                 have helda := HELD5.out.keeps k6 (fun b hb h => by subst h; exact HELD5.out.blk_ne Y5.out (by decide) hb)
                 obtain ⟨_, _, ea, ra, _⟩ := oa.slice
                 injection ea with ea1 ea2 ea3
                 rw [← ea1, ← ea2] at ra
                 have hz6 := k6.size
                 have hgl : gs.length = no := NO.out.symm
                 have sm := PS.out.1
                 rw [← HX.out, ← GS.out] at sm
                 have hsame := same_any ho hs6 gs gs Ao Ao6 no gs.length co co6 w6 ⟨ra, PCS.out.1, fun i h f hi hf => Fed.reads PCS.out rowa hi hf, sm⟩ ⟨rd6, l6, fun i h f hi hf => (by obtain ⟨_, _, e, hr, _⟩ := (e6 i h f hi hf).slice; injection e with e1 e2 e3; rw [← e1, ← e2] at hr; exact hr), sm⟩ (by have := GL.out; have := NO.out; omega)
                 simp only [decide_true] at hsame
                 have b6 := Below.keep B5.out k6 (by have := B5.out.size; omega) (fun b hb h => by omega)
                 have SAME := Lib.hid hsame
                 have OA := Lib.hid oa
                 have ROWA := Lib.hid rowa
                 have BOXA := Lib.hid boxa
                 have HELDA := Lib.hid helda
                 have Y6 := Lib.hid y6
                 have R6 := Lib.hid r6
                 have FR6 := Lib.hid fr6
                 have B6 := Lib.hid b6
                 clear o6 l6 e6 y6 r6 fr6 k6 rd6 oa rowa boxa helda ra ea1 ea2 ea3 hgl sm hsame b6)
              | (go_at_call 14; refine SAME.out.mono ?_
                 rintro e w7 ⟨q, rfl, hw7⟩
                 have bx7 : Blk w7 w1.heap.size 47 #[.slice A2 n6 c2] := by rw [hw7]; exact BOXA.out.drewN q
                 have y7 : Blk w7 (w1.heap.size + 1) 42 #[.slice A6 n6 c6] := by rw [hw7]; exact Y6.out.drewN q
                 have oa7 : Own hdr w7 w3.heap.size 22 (.slice Ao no co) ho := by rw [hw7]; exact OA.out.drewN q
                 have rowa7 : Own byte w7 (w1.heap.size + 2) 5 (.slice A1 X.length c1) X := by rw [hw7]; exact ROWA.out.drewN q
                 have hel7 : Own byte w7 w3.heap.size 5 (.slice A2 n6 c2) R := by rw [hw7]; exact HELDA.out.drewN q
                 have r7 : Reads byte w7 A6 n6 R := by rw [hw7]; exact R6.out.drewN q
                 have b7 : Below w.heap.size w w7 := by rw [hw7]; exact Below.keep B6.out ((Keeps.refl (fun _ => False) _).drewN q) B6.out.size (fun _ _ h => h)
                 have HH := Lib.hid (fun q => held_any w1.heap.size n6 c2 A2 (w7.drewN q) (bx7.drewN q))
                 have hcy7 := y7.cell 0
                 simp at hcy7
                 have hz7 : w6.heap.size = w7.heap.size := by rw [hw7]; rfl
                 have BX7 := Lib.hid bx7
                 have Y7 := Lib.hid y7
                 have OA7 := Lib.hid oa7
                 have ROW7 := Lib.hid rowa7
                 have HEL7 := Lib.hid hel7
                 have R7 := Lib.hid r7
                 have B7 := Lib.hid b7
                 have HZ7 := Lib.hid hz7
                 clear bx7 y7 oa7 rowa7 hel7 r7 b7 hz7 hw7))
            go_quiet ((go_at_call 15; exact Calls.quiet_of_same (HH.out _)))
            go_wp2_with fail
            go_loopw [16] (fun v wr => ∃ (j : Nat) (ho' : List Sl) (X' : List Nat), j ≤ no ∧ v = .int .i64 j ∧ Own hdr wr w3.heap.size 22 (.slice Ao no co) ho' ∧ ho'.drop j = ho.drop j ∧ Own byte wr (w1.heap.size + 2) 5 (.slice A1 X.length c1) X' ∧ Keeps (fun b => (Value.slice Ao no co).ownBlock = some b ∨ (Value.slice A1 X.length c1).ownBlock = some b) w7 wr) (fun v _ => no - (intOf v).toNat)
            case atStart => exact ⟨0, ho, X, Nat.zero_le _, rfl, OA7.out.drewN _, rfl, ROW7.out.drewN _, (Keeps.refl _ _).drewN _⟩
            case round =>
              obtain ⟨j, ho', X', hj, rfl, oo, hdr', rw', kk⟩ := hrel
              by_cases hjn : j < no
              · have hlo : ho.length = no := OA7.out.len_eq rfl
                have hlo' : ho'.length = no := oo.len_eq rfl
                have hlx' : X'.length = X.length := rw'.len_eq rfl
                obtain ⟨h, hh⟩ : ∃ h, ho[j]? = some h := ⟨_, List.getElem?_eq_getElem (by omega)⟩
                have hh' : ho'[j]? = some h := by
                  have := congrArg (fun l => l[0]?) hdr'
                  simp only [List.getElem?_drop, Nat.add_zero] at this
                  rw [this, hh]
                have hgl : gs.length = no := NO.out.symm
                obtain ⟨p, hp⟩ : ∃ p, gs[j]? = some p := ⟨_, List.getElem?_eq_getElem (by omega)⟩
                obtain ⟨o, hA, hn, hc, h0, hol, hpt⟩ := PCS.out.2 j h p hh hp
                clear hpt
                obtain ⟨hAA, hnn, hcc⟩ := h
                simp only at hA hn hc
                obtain ⟨bo, co', hvo, hbo, hbl, _⟩ := oo.form (by omega)
                injection hvo with hAo hxo hco
                obtain ⟨b1, c1', hv1, hb1, hb1l, _⟩ := rw'.form (by omega)
                injection hv1 with hA1 hx1 hc1
                subst hAo hA1 hc hn
                simp only [Option.map_some, add_at] at hA
                subst hA
                have hce : wr.cell? ⟨bo, j, none⟩ = some (.slice (some ⟨b1, o, none⟩) p.length p.length) := by
                  have := oo.at_ hh' (j := 0) rfl
                  simpa [hdr] using this
                have hpl : p.length ≤ 4000000 := by have := XL.out; omega
                have hno' : no ≤ 2000000 := by have := GL.out; omega
                have OO := Lib.hid oo
                have HDR := Lib.hid hdr'
                have RW := Lib.hid rw'
                have KK := Lib.hid kk
                have HH' := Lib.hid hh'
                have HCE := Lib.hid hce
                clear oo hdr' rw' kk hh' hh hp hlo hlo' hlx' hgl hco hc1 hxo hx1
                go_wp2_with fail
                go_loopw [17] (fun v wr => ∃ (i : Nat) (X'' : List Nat), i ≤ p.length ∧ v = .int .i64 i ∧ Own hdr wr w3.heap.size 22 (.slice (some ⟨bo, 0, none⟩) no co) ho' ∧ Own byte wr (w1.heap.size + 2) 5 (.slice (some ⟨b1, 0, none⟩) X.length c1) X'' ∧ Keeps (fun b => (Value.slice (some ⟨bo, 0, none⟩) no co).ownBlock = some b ∨ (Value.slice (some ⟨b1, 0, none⟩) X.length c1).ownBlock = some b) w7 wr) (fun v _ => p.length - (intOf v).toNat)
                case atStart => exact ⟨0, X', Nat.zero_le _, rfl, OO.out, RW.out, KK.out⟩
                case round =>
                  obtain ⟨i, X'', hi, rfl, oo, rw', kk⟩ := hrel
                  have hce : wr.cell? ⟨bo, j, none⟩ = some (.slice (some ⟨b1, o, none⟩) p.length p.length) := by
                    have := oo.at_ HH'.out (j := 0) rfl
                    simpa [hdr] using this
                  by_cases hip : i < p.length
                  · obtain ⟨x, hx, hcx⟩ := rw'.byte_at (i := o + i) (by omega)
                    have hfx := rw'.frozen (o + i)
                    have st := rw'.byte_set (i := o + i) (by omega) 99
                    have oo' := oo.setCell ⟨b1, o + i, none⟩ (.int .u8 99) (fun b hb h => by
                      subst h
                      exact oo.own_ne rw' (by decide) _ hb rfl)
                    have kst := kk.setCell ⟨b1, o + i, none⟩ (.int .u8 99) (fun _ => .inr rfl)
                    have ST := Lib.hid st
                    have KST := Lib.hid kst
                    have OO' := Lib.hid oo'
                    clear oo rw' kk hx st kst oo'
                    go_wp2_with fail
                    exact ⟨⟨i + 1, _, by omega, by go_num, OO'.out, ST.out, KST.out⟩, by simp [intOf]; omega⟩
                  · have hlx' : X''.length = X.length := rw'.len_eq rfl
                    obtain ⟨_, _, er, rr, _⟩ := rw'.slice
                    injection er with er1 er2 er3
                    rw [← er1, hlx'] at rr
                    have rp := (rr.drop (k := o) (by omega) (A' := some ⟨b1, o, none⟩) (fun _ => by simp [byte, add_at])).take (k := p.length) (by omega)
                    have OO2 := Lib.hid oo
                    have RW2 := Lib.hid rw'
                    have KK2 := Lib.hid kk
                    have RP2 := Lib.hid rp
                    clear oo rw' kk rr rp er1 er2 er3 hlx'
                    go_wp2_with (first
                      | (at_builtin; refine wp_append_full elem5 (by rfl) (.tmp 118) (.tmp 119) (by rfl) ((X''.drop o).take p.length) [98] (some ⟨b1, o, none⟩) p.length p.length (some ⟨wr.heap.size, 0, none⟩) 1 1 rfl rfl (RP2.out.alloc _) ((Blk.new wr 5 #[.int .u8 98] _ rfl).reads [98] rfl rfl) (by simp) (by omega) (by omega) (by omega) (by simp only [maxLen]; omega) ?_
                         intro v9 w9 own9 gr9
                         obtain ⟨A9, c9, hv9, _⟩ := Own.val own9 rfl
                         have k9 : Keeps (fun b => (Value.slice (some ⟨bo, 0, none⟩) no co).ownBlock = some b ∨ (Value.slice (some ⟨b1, 0, none⟩) X.length c1).ownBlock = some b) w7 w9 := (KK2.out.alloc _).grown gr9 (fun b hb => by cases hb)
                         have kn : Keeps (fun _ => False) wr w9 := ((Keeps.refl (fun _ => False) wr).alloc _).grown gr9 (fun b hb => by cases hb)
                         have oo9 := OO2.out.keeps kn (fun _ _ h => h)
                         have rw9 := RW2.out.keeps kn (fun _ _ h => h)
                         have hf9 := oo9.frozen j
                         have hc9 : w9.cell? ⟨bo, j, none⟩ = some (.slice (some ⟨b1, o, none⟩) p.length p.length) := by
                           have := oo9.at_ HH'.out (j := 0) rfl
                           simpa [hdr] using this
                         have st9 := oo9.store (j := 0) (y := ⟨A9, ((X''.drop o).take p.length ++ [98]).length, c9⟩) (u := .slice A9 ((X''.drop o).take p.length ++ [98]).length c9) HH'.out (by decide) rfl
                         rw [show j * hdr.size + 0 = j from Nat.mul_one j] at st9
                         have rws := rw9.setCell ⟨bo, j, none⟩ (.slice A9 ((X''.drop o).take p.length ++ [98]).length c9) (fun b hb h => by
                           subst h
                           exact oo9.own_ne rw9 (by decide) _ rfl hb)
                         have ks := k9.setCell ⟨bo, j, none⟩ (.slice A9 ((X''.drop o).take p.length ++ [98]).length c9) (fun _ => .inl rfl)
                         rw [hv9]
                         obtain ⟨m9, hm9⟩ : ∃ m9, m9 = ((X''.drop o).take p.length ++ [98]).length := ⟨_, rfl⟩
                         rw [← hm9] at st9 rws ks ⊢
                         have STN := Lib.hid st9
                         have RWN := Lib.hid rws
                         have KSN := Lib.hid ks
                         clear own9 gr9 hv9 k9 kn oo9 rw9 st9 rws ks hm9))
                    refine ⟨⟨j + 1, _, X'', by omega, by go_num, STN.out, ?_, RWN.out, KSN.out⟩, by simp [intOf]; omega⟩
                    rw [List.drop_set_of_lt (by omega), ← List.drop_drop, HDR.out, List.drop_drop]
              · have fin : FMid w1.heap.size (w1.heap.size + 1) (w1.heap.size + 2) w wr R A2 n6 c2 A6 n6 c6 := by
                  have ne1 : ∀ b, b < w3.heap.size → (Value.slice Ao no co).ownBlock ≠ some b := fun b hb h => by
                    have := OA7.out.base_le h; omega
                  refine ⟨BX7.out.keeps kk (fun h => ?_), ?_, ?_, ?_, Y7.out.keeps kk (fun h => ?_), R7.out.keeps kk (fun ad e hn h => ?_), fun ad e hn => ?_, ?_, ?_⟩
                  · rcases h with h | h
                    · exact OA7.out.blk_ne BX7.out (by decide) h
                    · exact ROW7.out.blk_ne BX7.out (by decide) h
                  · refine (HEL7.out.keeps kk (fun b hb h => ?_)).rebase _ (fun b hb => by have := HEL7.out.base_le hb; omega)
                    rcases h with h | h
                    · exact OA7.out.own_ne HEL7.out (by decide) b h hb
                    · have := APR.out b; exact this hb h
                  · have := PS.out.2
                    rw [← HX.out, ← RR.out] at this
                    exact this
                  · have h1 := CNT.out.2.1
                    rw [← HX.out, ← RR.out] at h1
                    exact h1
                  · rcases h with h | h
                    · exact OA7.out.blk_ne Y7.out (by decide) h
                    · exact ROW7.out.blk_ne Y7.out (by decide) h
                  · have h1 := FR6.out ad e hn
                    rcases h with h | h
                    · have := O5.out.lt h; omega
                    · have := ROW5.out.lt h; omega
                  · have h1 := FR6.out ad e hn
                    refine ⟨by omega, fun h => ?_⟩
                    have := HELD5.out.lt h
                    omega
                  · exact Below.keep B7.out kk B7.out.size (fun b hb h => by
                      have hbs := B1.out.size
                      rcases h with h | h
                      · have := OA7.out.base_le h; omega
                      · have := ROW7.out.base_le h; omega)
                  · have := kk.size; have := HZ7.out; omega
                have FIN := Lib.hid fin
                clear fin oo hdr' rw' kk
                go_wp2_with fail
                exact ⟨⟨k + 1, R, A2, n6, c2, A6, n6, c6, by omega, by go_num, FIN.out⟩, by simp [intOf]; omega⟩
    · have BEL := Lib.hid mid.below
      clear mid
      go_wp2_with fail
      go_ret
      exact ⟨rfl, BEL.out⟩
end Go.Proofs.Ytaccdbiajcnlaaa
