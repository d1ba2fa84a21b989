/- The link's Feed, walked: what it tells is what the bytes that it held, and those that came, parse to. -/
import Derived.Test.YtaccdbiajcnlaaaW1
import Derived.Deep.LoopGhost
import Derived.Outline
namespace Go.Proofs.Ytaccdbiajcnlaaa
open Go.RowKit Mem
/-- A slice's header: where, how long, how much room. -/
structure Sl where
  A : Option Addr
  n : Nat
  c : Nat
def hdr : Enc Sl where
  enc := fun h => [.slice h.A h.n h.c]
  size := 1
  len := fun _ => rfl
  one := fun x u h => by simp at h; subst h; rfl
  pos := by decide
theorem elem5 : Elem Try.prog 22 5 byte 1 := Elem.of Try.underlying22 (z := .int .u8 0) (by kernel_rfl) rfl
theorem elem22 : Elem Try.prog 28 22 hdr 24 := Elem.of Try.underlying28 (z := .slice none 0 0) (by kernel_rfl) rfl
/-- These headers show these frames, each a piece of the bytes X that begin at A. -/
def Pieces (A : Option Addr) (X : List Nat) (hs : List Sl) (fs : List (List Nat)) : Prop :=
  hs.length = fs.length ∧ ∀ (i : Nat) (h : Sl) (f : List Nat), hs[i]? = some h → fs[i]? = some f → ∃ o, h.A = A.map (·.add o) ∧ h.n = f.length ∧ h.c = f.length ∧ 0 < f.length ∧ o + f.length ≤ X.length ∧ f = (X.drop o).take f.length
/-- How long the slice in this cell is. -/
def cellLen : Option Value → Nat
  | some (.slice _ n _) => n
  | _ => 0
/-- What a Feed leaves: the frames' headers in a row of their own, their bytes in the row that held what waited and what came; what waits now in a row of its own. -/
def Fed (g base : Nat) (v : Value) (H Y : List Nat) (w w' : World) (vo : Value) : Prop :=
  ∃ (hs : List Sl) (v' : Value) (A1 : Option Addr) (c1 : Nat), Own hdr w' w.heap.size 22 vo hs ∧ Own byte w' base 5 (.slice A1 (H ++ Y).length c1) (H ++ Y) ∧ Pieces A1 (H ++ Y) hs (parse (H ++ Y)).1 ∧
    Blk w' g 47 #[v'] ∧ Own byte w' w.heap.size 5 v' (parse (H ++ Y)).2.2 ∧ (∀ k, v'.ownBlock = some k → (Value.slice A1 (H ++ Y).length c1).ownBlock ≠ some k) ∧
    ((Value.slice A1 (H ++ Y).length c1).ownBlock = v.ownBlock ∨ (Value.slice A1 (H ++ Y).length c1).ownBlock = some w.heap.size) ∧ Keeps (fun k => k = g ∨ v.ownBlock = some k) w w'
/-- The round of Feed, as it stands: so much has been told. -/
structure Mid (g base B1 : Nat) (X : List Nat) (S : Nat → Prop) (A1 : Option Addr) (c1 : Nat) (w : World) (k : Nat) (vo : Value) (wr : World) (off : Nat) (fs : List (List Nat)) (hs : List Sl) (Ar : Option Addr) (cr : Nat) : Prop where
  k : k = X.length - off
  offle : off ≤ X.length
  prs : parse X = (fs ++ (parse (X.drop off)).1, (parse (X.drop off)).2.1, (parse (X.drop off)).2.2)
  box : Blk wr B1 22 #[.slice Ar (X.length - off) cr]
  ar : off < X.length → Ar = A1.map (·.add off)
  cap : X.length - off ≤ cr
  out : Own hdr wr (B1 + 1) 22 vo hs
  few : 3 * hs.length ≤ off
  row : Own byte wr base 5 (.slice A1 X.length c1) X
  pieces : Pieces A1 X hs fs
  held : Blk wr g 47 #[.slice none 0 0]
  keeps : Keeps S w wr
theorem Mid.fed {g base B1 : Nat} {X H Y : List Nat} {v vo v' : Value} {A1 Ar : Option Addr} {c1 cr k off : Nat} {w wr w4 : World} {fs : List (List Nat)} {hs : List Sl} {er : Int} {L : List Nat} (m : Mid g base B1 X (fun k => k = g ∨ v.ownBlock = some k) A1 c1 w k vo wr off fs hs Ar cr) (hX : X = H ++ Y)
    (hp : Go.Proofs.Ytaccdbiajcnlaaa.parse (X.drop off) = ([], er, L)) (hB : w.heap.size ≤ B1) (ha : (Value.slice A1 X.length c1).ownBlock = v.ownBlock ∨ (Value.slice A1 X.length c1).ownBlock = some w.heap.size)
    (K : Keeps (fun k => k = g) wr w4) (hg : Blk w4 g 47 #[v']) (hv : Own byte w4 wr.heap.size 5 v' L) : (Go.Proofs.Ytaccdbiajcnlaaa.parse (H ++ Y)).2.1 = er ∧ Fed g base v H Y w w4 vo := by
  subst hX
  have e := m.prs
  rw [hp] at e
  simp only [List.append_nil] at e
  refine ⟨by rw [e], hs, v', A1, c1, ?_, ?_, ?_, hg, ?_, ?_, ha, ?_⟩
  · refine (m.out.keeps K ?_).rebase _ (fun k hk => by have := m.out.base_le hk; omega)
    rintro k hk rfl
    exact m.out.blk_ne m.held (by decide) hk
  · refine m.row.keeps K ?_
    rintro k hk rfl
    exact m.row.blk_ne m.held (by decide) hk
  · rw [e]; exact m.pieces
  · rw [e]; exact hv.rebase _ (fun k hk => by have := hv.base_le hk; have := m.keeps.size; omega)
  · intro k hk hk'
    have := hv.base_le hk
    have := m.row.lt hk'
    omega
  · exact m.keeps.trans K (fun b _ hb => .inl hb)
theorem Pieces.more {A : Option Addr} {X : List Nat} {hs : List Sl} {fs : List (List Nat)} (h : Pieces A X hs fs) {o n : Nat} (hn : 0 < n) (ho : o + n ≤ X.length) :
    Pieces A X (hs ++ [⟨A.map (·.add o), n, n⟩]) (fs ++ [(X.drop o).take n]) := by
  have hl : ((X.drop o).take n).length = n := by rw [List.length_take, List.length_drop]; omega
  refine ⟨by simp [h.1], fun i a f ha hf => ?_⟩
  rcases Nat.lt_or_ge i hs.length with hi | hi
  · rw [List.getElem?_append_left hi] at ha
    rw [List.getElem?_append_left (by have := h.1; omega)] at hf
    exact h.2 i a f ha hf
  · rw [List.getElem?_append_right hi] at ha
    rw [List.getElem?_append_right (by have := h.1; omega)] at hf
    have e0 : i - hs.length = 0 := by
      rcases Nat.eq_zero_or_pos (i - hs.length) with h0 | h0
      · exact h0
      · rw [List.getElem?_eq_none (by simp; omega)] at ha; cases ha
    have e1 : i - fs.length = 0 := by have := h.1; omega
    rw [e0] at ha
    rw [e1] at hf
    simp only [List.getElem?_cons_zero, Option.some.injEq] at ha hf
    subst ha hf
    exact ⟨o, rfl, hl.symm, hl.symm, by omega, by omega, by rw [hl]⟩
theorem Mid.next {g base B1 : Nat} {X : List Nat} {v vo v4 : Value} {g1 : Nat} {A' : Option Addr} {c1 cr cr' k off nn : Nat} {w wr w2 w4 : World} {fs : List (List Nat)} {hs : List Sl} (hgB : g < B1) (hg1B : g1 ≠ B1)
    (m : Mid g base B1 X (fun k => k = g ∨ v.ownBlock = some k) (some ⟨g1, 0, none⟩) c1 w k vo wr off fs hs (some ⟨g1, off, none⟩) cr)
    (hn : 0 < nn) (hnn : 2 + nn ≤ X.length - off) (hp : Go.Proofs.Ytaccdbiajcnlaaa.parse (X.drop off) = (((X.drop off).drop 2).take nn :: (Go.Proofs.Ytaccdbiajcnlaaa.parse ((X.drop off).drop (2 + nn))).1, (Go.Proofs.Ytaccdbiajcnlaaa.parse ((X.drop off).drop (2 + nn))).2.1, (Go.Proofs.Ytaccdbiajcnlaaa.parse ((X.drop off).drop (2 + nn))).2.2))
    (hB : w.heap.size ≤ B1) (K2 : Keeps (fun _ => False) wr w2) (own : Own hdr w4 (B1 + 1) 22 v4 (hs ++ [⟨some ⟨g1, off + 2, none⟩, nn, nn⟩])) (gr : w2.grownBy w4 vo.ownBlock)
    (hA : off + (2 + nn) < X.length → A' = some ⟨g1, off + (2 + nn), none⟩) (hcr : X.length - (off + (2 + nn)) ≤ cr') :
    Mid g base B1 X (fun k => k = g ∨ v.ownBlock = some k) (some ⟨g1, 0, none⟩) c1 w (X.length - (off + (2 + nn))) v4 (w4.setCell ⟨B1, 0, none⟩ (.slice A' (X.length - off - (2 + nn)) cr')) (off + (2 + nn)) (fs ++ [(X.drop (off + 2)).take nn]) (hs ++ [⟨some ⟨g1, off + 2, none⟩, nn, nn⟩]) A' cr' := by
  have hob : ∀ k, vo.ownBlock = some k → B1 + 1 ≤ k := fun k hk => m.out.base_le hk
  have K4 : Keeps (fun k => vo.ownBlock = some k) wr w4 := (K2.mono (fun _ _ h => h.elim)).grown gr (fun k hk _ => hk)
  have hbx : Blk w4 B1 22 #[.slice (some ⟨g1, off, none⟩) (X.length - off) cr] := m.box.keeps K4 (fun e => by have := hob _ e; omega)
  have hsz : B1 < w4.heap.size := hbx.lt
  refine ⟨rfl, by omega, ?_, ?_, ?_, hcr, ?_, ?_, ?_, ?_, ?_, ?_⟩
  · rw [m.prs, hp, List.drop_drop, List.drop_drop]
    simp
  · have := hbx.set 0 (.slice A' (X.length - off - (2 + nn)) cr')
    rw [show X.length - (off + (2 + nn)) = X.length - off - (2 + nn) by omega]
    exact this
  · intro h
    rw [hA h]
    simp [add_at]
  · refine own.setCell _ _ (fun k hk => ?_)
    have := own.base_le hk
    show k ≠ B1
    omega
  · have := m.few
    simp
    omega
  · refine (m.row.keeps K4 ?_).setCell _ _ (fun k hk => ?_)
    · intro k hk hk'
      exact m.out.own_ne m.row (by decide) k hk' hk
    · have : g1 = k := by simpa [Value.ownBlock] using hk
      show k ≠ B1
      omega
  · have := m.pieces.more (o := off + 2) (n := nn) hn (by omega)
    simpa [add_at] using this
  · refine (m.held.keeps K4 (fun e => ?_)).far (show g ≠ B1 by omega) _
    exact m.out.blk_ne m.held (by decide) e
  · refine Keeps.setCell (m.keeps.trans K4 (fun b hb hk => ?_)) _ _ (fun hb => ?_)
    · have := hob _ hk; omega
    · have : B1 < w.heap.size := hb
      omega
theorem own_empty {α : Type} (E : Enc α) (w : World) (e : TypeId) (base H : Nat) (hH : w.heap.size = H) (hb : base ≤ H) : Own E (w.alloc (.cells #[] e)) base e (.slice (some ⟨H, 0, none⟩) 0 0) [] :=
  Own.new w base e #[] [] rfl H hH hb 0 rfl (Nat.zero_le _)
set_option maxRecDepth 100000 in
set_option maxHeartbeats 1600000 in
theorem feed_any (g : Nat) (v : Value) (H Y : List Nat) (base : Nat) (A : Option Addr) (n c : Nat) (w : World) (hg : Blk w g 47 #[v]) (hv : Own byte w base 5 v H) (hy : Reads byte w A n Y) (hH : ∀ x ∈ H, x < 256) (hY : ∀ x ∈ Y, x < 256)
    (hb : base ≤ w.heap.size) (hl : H.length + n ≤ 5000000) :
    Calls Try.prog 13 #[.pointer (some ⟨g, 0, none⟩), .slice A n c] w fun e w' => ∃ vo, e = .returned (.tuple #[vo, .int .i64 (parse (H ++ Y)).2.1]) ∧ Fed g base v H Y w w' vo := by
  have hc := hg.cell 0
  have hf := hg.frozen 0
  simp at hc
  have hX : ∀ x ∈ H ++ Y, x < 256 := by
    intro x hx
    rcases List.mem_append.1 hx with h | h
    · exact hH x h
    · exact hY x h
  have HX := Lib.hid hX
  have HG := Lib.hid hg
  have HV := Lib.hid hv
  have HY := Lib.hid hy
  clear hg hv hy hH hY hX
  go_enter Try.func13, Try.ntmps13
  go_wp2_with (at_builtin; refine wp_append elem5 (by rfl) (.tmp 14) (.tmp 15) (by rfl) base v H Y A n c rfl rfl HV.out HY.out (by omega) (by simp only [maxLen]; omega) hb ?_
               intro v1 w1 own1 gr1 at1
               obtain ⟨A1, c1, hv1, hR1, hle1⟩ := own1.slice
               rw [hv1]
               rw [hv1] at own1 at1
               have hN : (H ++ Y).length = H.length + n := by rw [List.length_append, HY.out.1]
               have OWN1 := Lib.hid own1
               have HV1 := Lib.hid hv1
               have HN := Lib.hid hN
               clear hv1 hR1 hN
               have GR1 := Lib.hid gr1
               have AT1 := Lib.hid at1
               clear own1 gr1 at1
               have hne : some g ≠ v.ownBlock := fun e => HV.out.blk_ne HG.out (by decide) e.symm
               have hg1 := HG.out.grown GR1.out hne
               have hc1 := hg1.cell 0
               have hf1 := hg1.frozen 0
               simp at hc1
               have HG1 := Lib.hid hg1
               have hglt := hg1.lt
               clear hg1 hne hc hf)
  obtain ⟨X, hXX⟩ : ∃ X, X = H ++ Y := ⟨_, rfl⟩
  rw [← hXX] at HX OWN1 AT1 HN
  rw [← hXX] at hle1
  have HXX := Lib.hid hXX
  clear hXX
  go_loopg [7] (X.length) (fun k vo wr => ∃ off fs hs Ar cr, Mid g base w1.heap.size X (fun k => k = g ∨ v.ownBlock = some k) A1 c1 w k vo wr off fs hs Ar cr)
  case atStart =>
    have e1 : Keeps (fun k => k = g ∨ v.ownBlock = some k) w w1 := (Keeps.refl _ w).grown GR1.out (fun k hk _ => .inr hk)
    have hne1 : ∀ k, (Value.slice A1 X.length c1).ownBlock = some k → k ≠ g := by
      rintro k hk rfl
      exact OWN1.out.blk_ne HG1.out (by decide) hk
    refine ⟨0, [], [], A1, c1, ⟨rfl, Nat.zero_le _, rfl, ?_, ?_, hle1, Own.nil _ _ _ _, Nat.le_refl _, ?_, ⟨rfl, fun i h f hi => by simp at hi⟩, ?_, ?_⟩⟩
    · rw [show H.length + Y.length = X.length - 0 by rw [HXX.out]; simp]
      exact Blk.new _ 22 _ _ (by simp)
    · intro _
      cases A1 with
      | none => rfl
      | some a => simp [add_zero']
    · exact (OWN1.out.setCell ⟨g, 0, none⟩ _ hne1).alloc _
    · exact (HG1.out.set 0 _).alloc _
    · exact ((e1.setCell ⟨g, 0, none⟩ _ (fun _ => .inl rfl)).alloc _)
  case round =>
    obtain ⟨off, fs, hs, Ar, cr, mid⟩ := hrel
    have hR : Reads byte wr Ar (X.length - off) (X.drop off) := by
      obtain ⟨A', c', e, hr, _⟩ := mid.row.slice
      injection e with e1 e2 e3
      subst e1
      exact hr.drop mid.offle (fun h => by rw [mid.ar h]; simp [byte])
    obtain ⟨R, hRR⟩ : ∃ R, R = X.drop off := ⟨_, rfl⟩
    rw [← hRR] at hR
    have hlR := hR.1
    obtain ⟨m, hm⟩ : ∃ m, m = X.length - off := ⟨_, rfl⟩
    rw [← hm] at hR hlR
    have hRl : ∀ x ∈ R, x < 256 := fun x hx => HX.out x (List.mem_of_mem_drop (by rw [hRR] at hx; exact hx))
    have hbox := mid.box
    rw [← hm] at hbox
    have hcap := mid.cap
    rw [← hm] at hcap
    have hNN : m ≤ 5000000 := by rw [hm]; have := HN.out; omega
    have hk := mid.k
    have MID := Lib.hid mid
    have HRR := Lib.hid hRR
    have HM := Lib.hid hm
    have HK := Lib.hid hk
    clear mid hRR hm hk
    have B := Lib.hid (And.intro hbox hR)
    by_cases hok : m < 2 ∨ ¬ (num2 R = 0 ∨ 512 < num2 R) ∧ m < 2 + num2 R
    · have hpr : parse R = ([], 0, R) := by
        rcases hok with h | ⟨h, h'⟩
        · exact parse_short (by omega)
        · by_cases h2 : R.length < 2
          · exact parse_short h2
          · exact parse_part h2 h (by omega)
      have hcl : ∃ nn : Nat, Calls Try.prog 19 #[.pointer (some ⟨w1.heap.size, 0, none⟩)] wr fun e w' => ∃ q, e = .returned (.tuple #[.int .i64 nn, .bool false]) ∧ w' = wr.drewN q := by
        by_cases h : m < 2
        · exact ⟨0, (whole_short _ _ _ _ wr hbox h).mono (fun e w' ⟨h1, h2⟩ => ⟨0, h1, by rw [h2]; rfl⟩)⟩
        · rcases hok with h' | ⟨h', h''⟩
          · omega
          · refine ⟨num2 R, (whole_long _ _ _ _ R wr hbox hR hRl (by omega) (by omega)).mono (fun e w' ⟨q, h1, h2⟩ => ⟨q, ?_, h2⟩)⟩
            rw [h1]
            have e1 : (decide (num2 R = 0 ∨ 512 < num2 R) || decide (2 + num2 R ≤ m)) = false := by simp; omega
            rw [e1]
      obtain ⟨nn, hcl⟩ := hcl
      clear hbox hR hok
      have HPR := Lib.hid hpr
      have HRL := Lib.hid hRl
      have HCL := Lib.hid hcl
      clear hpr hRl hcl
      go_wp2_with (first
        | (go_at_call 19; refine HCL.out.mono ?_
           rintro e w2 ⟨q, rfl, hw2⟩
           have hb2 : Blk w2 w1.heap.size 22 #[.slice Ar m cr] := by rw [hw2]; exact B.out.1.drewN q
           have hg2 : Blk w2 g 47 #[.slice none 0 0] := by rw [hw2]; exact MID.out.held.drewN q
           have hr2 : Reads byte w2 Ar m R := by rw [hw2]; exact B.out.2.drewN q
           have hr3 : Reads byte (w2.alloc (.cells #[] 5)) Ar m R := hr2.alloc _
           have R2 := Lib.hid hr2
           have R3 := Lib.hid hr3
           have hc2 := hb2.cell 0
           have hd2 := hg2.cell 0
           have hf2 := hg2.frozen 0
           have hl2 := hg2.lt
           have hl3 := hb2.lt
           simp at hc2 hd2
           have W2 := Lib.hid hw2
           have G2 := Lib.hid hg2
           clear hw2 hg2 hb2 hr2 hr3)
        | (at_builtin; refine wp_append elem5 (by rfl) (.tmp 30) (.tmp 31) (by rfl) w2.heap.size (.slice (some ⟨w2.heap.size, 0, none⟩) 0 0) [] R Ar m cr rfl rfl (own_empty _ _ _ _ _ rfl (Nat.le_refl _)) R3.out (by simp; omega) (by simp [maxLen]; omega) (by simp) ?_
           intro v3 w3 own3 gr3 at3
           rw [List.nil_append] at own3
           obtain ⟨A3, c3, hv3, _, _⟩ := own3.slice
           rw [hlR] at hv3
           rw [hv3]
           rw [hv3] at own3
           clear hv3
           have hg3 := (G2.out.alloc (.cells #[] 5)).grown gr3 (by simp [Value.ownBlock]; omega)
           have hf3 := hg3.frozen 0
           have hd3 := hg3.cell 0
           simp at hd3
           have OWN3 := Lib.hid own3
           have GR3 := Lib.hid gr3
           have G3 := Lib.hid hg3
           clear own3 gr3 at3 hg3))
      have K : Keeps (fun k => k = g) wr (w3.setCell ⟨g, 0, none⟩ (.slice A3 m c3)) := by
        refine Keeps.setCell (Keeps.mono (Keeps.grown (S := fun k => k = w2.heap.size) (Keeps.alloc ?_ (.cells #[] 5)) GR3.out ?_) ?_) ⟨g, 0, none⟩ _ (fun _ => rfl)
        · rw [W2.out]; exact (Keeps.refl _ wr).drewN q
        · rintro k hk -
          have : w2.heap.size = k := by simpa [Value.ownBlock] using hk
          exact this.symm
        · rintro b hb rfl
          have e : w2.heap.size = wr.heap.size := by rw [W2.out]; rfl
          omega
      have e2 : w2.heap.size = wr.heap.size := by rw [W2.out]; rfl
      have F := MID.out.fed (v' := .slice A3 m c3) (L := R) HXX.out (by rw [← HRR.out]; exact HPR.out) GR1.out.size AT1.out K (G3.out.set 0 _) (by rw [← e2]; exact OWN3.out.setCell ⟨g, 0, none⟩ _ (fun k hk => by have := OWN3.out.base_le hk; show k ≠ g; omega))
      go_ret2
      refine ⟨u7, ?_, F.2⟩
      rw [F.1]
      rfl
    · have h2 : 2 ≤ m := by omega
      have hcl : Calls Try.prog 19 #[.pointer (some ⟨w1.heap.size, 0, none⟩)] wr fun e w' => ∃ q, e = .returned (.tuple #[.int .i64 (num2 R), .bool true]) ∧ w' = wr.drewN q := by
        refine (whole_long _ _ _ _ R wr hbox hR hRl (by omega) (by omega)).mono (fun e w' ⟨q, h1, h2⟩ => ⟨q, ?_, h2⟩)
        rw [h1]
        have e1 : (decide (num2 R = 0 ∨ 512 < num2 R) || decide (2 + num2 R ≤ m)) = true := by simp; omega
        rw [e1]
      obtain ⟨g1, cc, hf, hgb, hgl, _⟩ := MID.out.row.form (show 0 < X.length by have := HM.out; omega)
      have hAr := MID.out.ar (by have := HM.out; omega)
      injection hf with hf _ hf2
      subst hf2
      subst hf
      simp only [Option.map_some, add_at] at hAr
      obtain ⟨Ao, co, hu7, hro, _⟩ := MID.out.out.slice
      subst hu7
      subst hAr
      have HCL := Lib.hid hcl
      have HRL := Lib.hid hRl
      have HRO := Lib.hid hro
      clear hbox hR hcl hRl hro
      by_cases hbad : num2 R = 0 ∨ 512 < num2 R
      · have hpr := parse_bad (l := R) (by omega) hbad
        have HPR := Lib.hid hpr
        clear hpr
        have hmn := fun w => may_no (num2 R) (by omega) w
        have MN := Lib.hid hmn
        clear hmn hok
        go_wp2_with (first
          | (go_at_call 19; refine HCL.out.mono ?_
             rintro e w2 ⟨q, rfl, hw2⟩
             have W2 := Lib.hid hw2
             clear hw2)
          | (go_at_call 18; refine (MN.out _).mono ?_
             rintro e w3 ⟨rfl, hw3⟩
             subst hw3))
        have F := MID.out.fed (v' := .slice none 0 0) (L := []) (er := 60) HXX.out (by rw [← HRR.out]; exact HPR.out) GR1.out.size AT1.out (w4 := w3) (by rw [W2.out]; exact (Keeps.refl _ wr).drewN q) (by rw [W2.out]; exact MID.out.held.drewN q) (Own.nil _ _ _ _)
        go_ret2
        refine ⟨.slice Ao hs.length co, ?_, F.2⟩
        rw [F.1]
        rfl
      · have hpr := parse_more (l := R) (by omega) hbad (by omega)
        have HPR := Lib.hid hpr
        clear hpr
        have hmn := fun w => may_yes (num2 R) (by omega) (by omega) w
        have MN := Lib.hid hmn
        clear hmn
        have hnn : (2 : Nat) + num2 R ≤ m := by omega
        have hfew := MID.out.few
        have hofl := MID.out.offle
        have hxl : X.length ≤ 5000000 := by have := HN.out; omega
        have hn0 : 0 < num2 R := by omega
        have hkeep : ∀ q, Keeps (fun k => False) wr ((wr.drewN q).alloc (.cells #[.slice (some ⟨g1, off + 2, none⟩) (num2 R) (num2 R)] 22)) := fun q => ((Keeps.refl _ wr).drewN q).alloc _
        have KEEP := Lib.hid hkeep
        clear hkeep
        go_wp2_with (first
          | (go_at_call 19; refine HCL.out.mono ?_
             rintro e w2 ⟨q, rfl, hw2⟩
             have hb2 : Blk w2 w1.heap.size 22 #[.slice (some ⟨g1, off, none⟩) m cr] := by rw [hw2]; exact B.out.1.drewN q
             have hc2 := hb2.cell 0
             have hf2 := hb2.frozen 0
             have hl3 := hb2.lt
             have hk2 := KEEP.out q
             rw [← hw2] at hk2
             have K2 := Lib.hid hk2
             simp at hc2
             have W2 := Lib.hid hw2
             have B2 := Lib.hid hb2
             clear hw2 hb2 hk2)
          | (go_at_call 18; refine (MN.out _).mono ?_
             rintro e w3 ⟨rfl, rfl⟩)
          | (at_builtin; refine wp_append elem22 (by rfl) (.tmp 41) (.tmp 48) (by rfl) (w1.heap.size + 1) (.slice Ao hs.length co) hs [⟨some ⟨g1, off + 2, none⟩, num2 R, num2 R⟩] (some ⟨w3.heap.size, 0, none⟩) 1 1 rfl rfl (MID.out.out.keeps K2.out (fun _ _ h => h)) ((Blk.new w3 22 _ _ rfl).reads [_] rfl rfl) (by omega) (by simp only [maxLen]; omega) (by simp; omega) ?_
             intro v4 w4 own4 gr4 at4
             have hb4 := (B2.out.alloc (.cells #[.slice (some ⟨g1, off + 2, none⟩) (num2 R) (num2 R)] 22)).grown gr4 (fun e => by have := MID.out.out.base_le e.symm; omega)
             have hf4 := hb4.frozen 0
             have hc4 := hb4.cell 0
             simp at hc4
             have OWN4 := Lib.hid own4
             have GR4 := Lib.hid gr4
             have B4 := Lib.hid hb4
             clear own4 gr4 at4 hb4))
        all_goals
          have hm := HM.out
          have NX := fun A' cr' hA hcr => MID.out.next (A' := A') (cr' := cr') (nn := num2 R) hglt (fun e => MID.out.row.blk_ne MID.out.box (by decide) (by rw [← e]; rfl)) hn0 (by omega) (by rw [← HRR.out]; exact HPR.out) GR1.out.size K2.out OWN4.out GR4.out hA hcr
          go_roundg (X.length - (off + (2 + num2 R)))
          case measure => have := HK.out; omega
          case rel =>
            rw [hm]
            refine ⟨_, _, _, _, _, NX _ _ ?_ ?_⟩
            · intro h'
              first | omega | rfl
            · omega
end Go.Proofs.Ytaccdbiajcnlaaa
