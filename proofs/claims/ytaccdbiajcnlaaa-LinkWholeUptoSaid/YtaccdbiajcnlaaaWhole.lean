/- LinkWhole, walked. -/
import Derived.Test.YtaccdbiajcnlaaaHolds
import Derived.Test.YtaccdbiajcnlaaaOpen
import Derived.Test.YtaccdbiajcnlaaaPacks
namespace Go.Proofs.Ytaccdbiajcnlaaa
open Go.RowKit Mem
theorem num2_packed (f r : List Nat) (_h : f.length ≤ 512) : num2 (packed f ++ r) = f.length := by
  show 256 * (f.length / 256) + f.length % 256 = f.length
  omega
/-- Frames on a line are told as they were. -/
theorem parse_lined (fs : List (List Nat)) (h : ∀ f ∈ fs, mayF f) : parse (lined fs) = (fs, 0, []) := by
  induction fs with
  | nil => exact parse_short (by simp [lined])
  | cons f fs ih =>
    have hf := h f (by simp)
    unfold mayF at hf
    have e : lined (f :: fs) = packed f ++ lined fs := rfl
    have hl : (packed f).length = 2 + f.length := by unfold packed; simp; omega
    rw [e, parse_more (by rw [List.length_append]; omega) (by rw [num2_packed _ _ hf.2]; omega) (by rw [num2_packed _ _ hf.2, List.length_append]; omega), num2_packed _ _ hf.2]
    have hd : (packed f ++ lined fs).drop (2 + f.length) = lined fs := by rw [← hl, List.drop_left]
    have ht : ((packed f ++ lined fs).drop 2).take f.length = f := by
      show (f ++ lined fs).take f.length = f
      rw [List.take_left]
    rw [hd, ht, ih (fun g hg => h g (by simp [hg]))]
theorem parse_err_append (a b : List Nat) : (parse a).2.1 = 60 → (parse (a ++ b)).2.1 = 60 := by
  induction hn : a.length using Nat.strongRecOn generalizing a with
  | _ n ih =>
    intro he
    by_cases h1 : a.length < 2
    · rw [parse_short h1] at he; cases he
    · have e1 := num2_append (a := a) (b := b) (by omega)
      by_cases h2 : num2 a = 0 ∨ 512 < num2 a
      · rw [parse_bad (by rw [List.length_append]; omega) (by rw [e1]; exact h2)]
      · by_cases h3 : a.length < 2 + num2 a
        · rw [parse_part h1 h2 h3] at he; cases he
        · rw [parse_more h1 h2 h3] at he
          rw [parse_more (by rw [List.length_append]; omega) (by rw [e1]; exact h2) (by rw [e1, List.length_append]; omega), e1]
          have hd : (a ++ b).drop (2 + num2 a) = a.drop (2 + num2 a) ++ b := by rw [List.drop_append_of_le_length (by omega)]
          rw [hd]
          exact ih _ (by rw [List.length_drop]; omega) (a.drop (2 + num2 a)) rfl he
/-- A piece of what was packed has no length that is wrong. -/
theorem parse_prefix (fs : List (List Nat)) (h : ∀ f ∈ fs, mayF f) {a b : List Nat} (e : lined fs = a ++ b) : (parse a).2.1 = 0 := by
  rcases parse_err a with h1 | h1
  · exact h1
  · have := parse_err_append a b h1.1
    rw [← e, parse_lined fs h] at this
    cases this
/-- The lines that may be frames. -/
def good (fs : List (List Nat)) : List (List Nat) := fs.filter fun f => decide (mayF f)
theorem good_may (fs : List (List Nat)) : ∀ f ∈ good fs, mayF f := by
  intro f hf
  have := (List.mem_filter.1 hf).2
  simpa using this
theorem good_succ {fs : List (List Nat)} {k : Nat} {f : List Nat} (h : fs[k]? = some f) : good (fs.take (k + 1)) = if mayF f then good (fs.take k) ++ [f] else good (fs.take k) := by
  unfold good
  rw [List.take_add_one, h, List.filter_append]
  by_cases hm : mayF f
  · simp [hm]
  · simp [hm]
theorem good_total (fs : List (List Nat)) : total (good fs) + (good fs).length ≤ total fs + fs.length := by
  induction fs with
  | nil => simp [good, total]
  | cons f fs ih =>
    unfold good at ih ⊢
    by_cases hm : mayF f
    · rw [List.filter_cons_of_pos (by simpa using hm), total_cons, total_cons, List.length_cons, List.length_cons]; omega
    · rw [List.filter_cons_of_neg (by simpa using hm), total_cons, List.length_cons]; omega
/-- The first loop's round, as it stands. -/
structure WMid (g : Nat) (G : List (List Nat)) (w wr : World) (v7 v8 : Value) (hsg : List Sl) : Prop where
  all : Own byte wr (g + 1) 5 v7 (lined G)
  want : Own hdr wr (g + 1) 22 v8 hsg
  len : hsg.length = G.length
  each : ∀ (i : Nat) (h : Sl) (f : List Nat), hsg[i]? = some h → G[i]? = some f → Reads byte w h.A h.n f
  box : Blk wr g 47 #[.slice none 0 0]
  below : Below w.heap.size w wr
/-- The second loop's round, as it stands: so many bytes were fed. -/
structure GMid (g base : Nat) (F : Nat → Prop) (ALL : List Nat) (A7 : Option Addr) (c7 : Nat) (hsg : List Sl) (v8 : Value) (w wr : World) (p : Nat) (hso : List Sl) (Aa : Option Addr) (ca : Nat) (Ao : Option Addr) (no co : Nat) (Ah : Option Addr) (nh ch : Nat) : Prop where
  ple : p ≤ ALL.length
  all : Own byte wr base 5 (.slice A7 ALL.length c7) ALL
  ar : p < ALL.length → Aa = A7.map (·.add p)
  cap : ALL.length - p ≤ ca
  want : Own hdr wr base 22 v8 hsg
  got : Own hdr wr base 22 (.slice Ao no co) hso
  len : hso.length = (parse (ALL.take p)).1.length
  each : ∀ (i : Nat) (h : Sl) (f : List Nat), hso[i]? = some h → (parse (ALL.take p)).1[i]? = some f → Reads byte wr h.A h.n f ∧ ∀ ad, h.A = some ad → 0 < h.n → F ad.block
  foot : ∀ b, F b → b ≠ g ∧ (Value.slice Ah nh ch).ownBlock ≠ some b ∧ (Value.slice Ao no co).ownBlock ≠ some b ∧ b < wr.heap.size
  box : Blk wr g 47 #[.slice Ah nh ch]
  row : Own byte wr base 5 (.slice Ah nh ch) (parse (ALL.take p)).2.2
  ap : Apart (.slice A7 ALL.length c7) (.slice Ah nh ch)
  aw : Apart v8 (.slice Ao no co)
  below : Below w.heap.size w wr
  wsz : w.heap.size ≤ g
  bsz : base = g + 1
theorem GMid.next {g base : Nat} {F F4 : Nat → Prop} {ALL : List Nat} {A7 : Option Addr} {c7 : Nat} {hsg hso hs4 : List Sl} {v8 v5 : Value} {w wr w4 w5 : World} {p q : Nat} {Aa Aa' : Option Addr} {ca ca' : Nat} {Ao Ao4 : Option Addr} {no co no4 : Nat} {Ah A4 : Option Addr} {nh ch n4 c4 : Nat} {Ao5 : Option Addr} {no5 co5 : Nat}
    (m : GMid g base F ALL A7 c7 hsg v8 w wr p hso Aa ca Ao no co Ah nh ch) (hq : p + q ≤ ALL.length) (he : (parse (ALL.take p)).2.1 = 0)
    (li : LinesIn F4 w4 Ao4 no4 hs4 (parse ((parse (ALL.take p)).2.2 ++ (ALL.drop p).take q)).1) (bl : Blk w4 g 47 #[.slice A4 n4 c4])
    (ow : Own byte w4 wr.heap.size 5 (.slice A4 n4 c4) (parse ((parse (ALL.take p)).2.2 ++ (ALL.drop p).take q)).2.2)
    (hF : ∀ k, F4 k → k ≠ g ∧ (Value.slice A4 n4 c4).ownBlock ≠ some k ∧ k < w4.heap.size ∧ (wr.heap.size ≤ k ∨ (Value.slice Ah nh ch).ownBlock = some k)) (hk4 : Keeps (fun k => k = g ∨ (Value.slice Ah nh ch).ownBlock = some k) wr w4)
    (own5 : Own hdr w5 base 22 v5 (hso ++ hs4)) (gr5 : w4.grownBy w5 (Value.slice Ao no co).ownBlock) (at5 : v5.ownBlock = (Value.slice Ao no co).ownBlock ∨ v5.ownBlock = some w4.heap.size) (hv5 : v5 = .slice Ao5 no5 co5)
    (har : p + q < ALL.length → Aa' = A7.map (·.add (p + q))) (hca : ALL.length - (p + q) ≤ ca') :
    GMid g base (fun b => F b ∨ F4 b) ALL A7 c7 hsg v8 w w5 (p + q) (hso ++ hs4) Aa' ca' Ao5 no5 co5 A4 n4 c4 := by
  have hps := parse_append (ALL.take p) ((ALL.drop p).take q) he
  have htk : ALL.take p ++ (ALL.drop p).take q = ALL.take (p + q) := by rw [List.take_add]
  rw [htk] at hps
  have hgl := m.box.lt
  have hz4 := hk4.size
  have hz5 := gr5.size
  -- what each is kept by
  have k5 : Keeps (fun b => (Value.slice Ao no co).ownBlock = some b) w4 w5 := (Keeps.refl _ w4).grown gr5 (fun b hb _ => hb)
  have hbe := m.bsz
  subst hv5
  have got4 : Own hdr w4 base 22 (.slice Ao no co) hso := m.got.keeps hk4 (fun b hb h => by
    rcases h with h | h
    · subst h; exact m.got.blk_ne m.box (by decide) hb
    · exact m.got.own_ne m.row (by decide) b hb h)
  have want4 : Own hdr w4 base 22 v8 hsg := m.want.keeps hk4 (fun b hb h => by
    rcases h with h | h
    · subst h; exact m.want.blk_ne m.box (by decide) hb
    · exact m.want.own_ne m.row (by decide) b hb h)
  have all4 : Own byte w4 base 5 (.slice A7 ALL.length c7) ALL := m.all.keeps hk4 (fun b hb h => by
    rcases h with h | h
    · subst h; exact m.all.blk_ne m.box (by decide) hb
    · exact m.ap b hb h)
  have hF5 : ∀ b, F b → (Value.slice Ao no co).ownBlock ≠ some b := fun b hb => (m.foot b hb).2.2.1
  have hF45 : ∀ b, F4 b → (Value.slice Ao no co).ownBlock ≠ some b := fun b hb h => by
    rcases (hF b hb).2.2.2 with h' | h'
    · have := m.got.lt h; omega
    · exact m.got.own_ne m.row (by decide) b h h'
  refine ⟨hq, ?_, har, hca, ?_, own5, ?_, ?_, ?_, ?_, ?_, ?_, ?_, ?_, m.wsz, m.bsz⟩
  · exact all4.keeps k5 (fun b hb h => all4.own_ne got4 (by decide) b hb h)
  · exact want4.keeps k5 (fun b hb h => m.aw b hb h)
  · rw [hps, List.length_append, List.length_append, m.len, li.lines.len]
  · intro i h f hi hf
    rw [hps] at hf
    rcases Nat.lt_or_ge i hso.length with hl | hl
    · rw [List.getElem?_append_left hl] at hi
      rw [List.getElem?_append_left (by rw [← m.len]; exact hl)] at hf
      obtain ⟨h1, h2⟩ := m.each i h f hi hf
      refine ⟨(h1.keeps hk4 (fun ad e hn hS => ?_)).keeps k5 (fun ad e hn hS => hF5 _ (h2 ad e hn) hS), fun ad e hn => .inl (h2 ad e hn)⟩
      have := m.foot _ (h2 ad e hn)
      rcases hS with hS | hS
      · exact this.1 hS
      · exact this.2.1 hS
    · rw [List.getElem?_append_right hl] at hi
      rw [List.getElem?_append_right (by rw [← m.len]; exact hl), ← m.len] at hf
      refine ⟨(li.lines.each _ h f hi hf).keeps k5 (fun ad e hn hS => hF45 _ (li.eachIn h (List.mem_of_getElem? hi) ad e hn) hS), fun ad e hn => .inr (li.eachIn h (List.mem_of_getElem? hi) ad e hn)⟩
  · intro b hb
    rcases hb with hb | hb
    · have h := m.foot b hb
      refine ⟨h.1, fun hS => ?_, fun hS => ?_, by omega⟩
      · have := ow.base_le hS; omega
      · rcases at5 with e | e
        · rw [e] at hS; exact h.2.2.1 hS
        · rw [e] at hS; injection hS with hS; omega
    · have h := hF b hb
      refine ⟨h.1, h.2.1, fun hS => ?_, by omega⟩
      rcases at5 with e | e
      · rw [e] at hS; exact hF45 b hb hS
      · rw [e] at hS; injection hS with hS; omega
  · exact bl.keeps k5 (fun h => got4.blk_ne bl (by decide) h)
  · rw [hps]
    refine (ow.keeps k5 (fun b hb h => ow.own_ne got4 (by decide) b hb h)).rebase base (fun b hb => ?_)
    have h1 := ow.base_le hb
    omega
  · intro b h1 h2
    have := m.all.lt h1
    have := ow.base_le h2
    omega
  · intro b h1 h2
    have := m.want.lt h1
    rcases at5 with e | e
    · rw [e] at h2; exact m.aw b h1 h2
    · rw [e] at h2; injection h2 with h2; omega
  · exact Below.keep (Below.keep m.below hk4 m.below.size (fun b hb h => by
      have := m.wsz
      have := m.bsz
      rcases h with h | h
      · omega
      · have := m.row.base_le h; omega)) k5 (by have := m.below.size; omega) (fun b hb h => by
      have := m.wsz
      have := m.bsz
      have := m.got.base_le h; omega)
set_option maxRecDepth 100000 in
set_option maxHeartbeats 3200000 in
theorem whole_any (fs : List (List Nat)) (hs : List Sl) (A : Option Addr) (n c : Nat) (Z : List Int) (A1 : Option Addr) (n1 c1 : Nat) (w : World) (hl : Lines w A n hs fs) (hz : Reads (num .i64) w A1 n1 Z) (hb : total fs + n + n1 ≤ 1048576) :
    Calls Try.prog 4 #[.slice A n c, .slice A1 n1 c1] w fun e w' => e = .returned (.bool true) ∧ Below w.heap.size w w' := by
  have hln : fs.length = n := by have := hl.heads.1; have := hl.len; omega
  have HLN := Lib.hid hln
  have HL := Lib.hid hl
  have HZ := Lib.hid hz
  clear hln hl hz
  go_enter Try.func4, Try.ntmps4
  go_wp2_with (first
    | (go_at_call 9; refine (shown_any w).mono ?_
       rintro e w1 ⟨rfl, hb1⟩
       have B1 := Lib.hid hb1
       clear hb1)
    | (go_at_call 12; refine (new_any _).mono ?_
       rintro e w1' ⟨rfl, rfl⟩))
  have hg := B1.out.size
  go_loopw [9, 7, 8] (fun i v7 v8 wr => ∃ (k : Nat) (hsg : List Sl), k ≤ n ∧ i = .int .i64 k ∧ WMid w1.heap.size (good (fs.take k)) w wr v7 v8 hsg) (fun i _ _ _ => n - (intOf i).toNat)
  case atStart =>
    refine ⟨0, [], Nat.zero_le _, rfl, ⟨?_, ?_, rfl, fun i h f hi => by simp at hi, ?_, ?_⟩⟩
    · exact (own_empty byte (w1.alloc (.cells #[.slice none 0 0] 47)) 5 (w1.heap.size + 1) (w1.heap.size + 1) (by simp) (Nat.le_refl _)).alloc _
    · exact own_empty hdr _ 22 (w1.heap.size + 1) (w1.heap.size + 1 + 1) (by simp) (by omega)
    · exact (((Blk.new w1 47 _ _ rfl).alloc _).alloc _)
    · exact Below.keep B1.out ((((Keeps.refl (fun _ => False) w1).alloc _).alloc _).alloc _) hg (fun _ _ h => h)
  case round =>
    obtain ⟨k, hsg, hk, rfl, mid⟩ := hrel
    by_cases hlt : k < n
    · obtain ⟨m1, m2, m3, m4, m5, m6⟩ := mid
      obtain ⟨ad, a, f, rfl, hf, ha, hc, hr, hfs⟩ := HL.out.at_ hlt
      have hgs := good_succ hf
      have hgt := good_total (fs.take k)
      have htl := total_take_le fs (k + 1)
      have htk := total_take_succ hf
      have hlt2 : (fs.take k).length ≤ n := by rw [List.length_take, HLN.out]; omega
      have hll := lined_len (good (fs.take k))
      obtain ⟨G, hG⟩ : ∃ G, G = good (fs.take k) := ⟨_, rfl⟩
      rw [← hG] at m1 m3 m4 hgs hgt hll
      obtain ⟨A7, c7, hv7, r7⟩ := Own.val m1 rfl
      obtain ⟨A8, c8, hv8, r8⟩ := Own.val m2 rfl
      subst hv7 hv8
      have hcw : wr.cell? (ad.add k) = some (.slice a.A a.n a.c) := (m6.cell (World.block_lt_of_cell? _ _ hc)).trans hc
      have hfl := hr.1
      have hLl : (lined G).length ≤ 4000000 := by omega
      have hGl : hsg.length ≤ 1048576 := by omega
      have hff : f.length ≤ 1048576 := by omega
      have M1 := Lib.hid m1
      have M2 := Lib.hid m2
      have M3 := Lib.hid m3
      have M4 := Lib.hid m4
      have M5 := Lib.hid m5
      have M6 := Lib.hid m6
      have HC := Lib.hid hc
      have HR := Lib.hid hr
      have HFL := Lib.hid hfl
      have HGS := Lib.hid hgs
      have HG := Lib.hid hG
      have hwz := m6.size
      have hgr := m5.lt
      clear m1 m2 m3 m4 m5 m6 hf ha hc hr hfs hfl hgs hgt htl htk hlt2 hll hG r7 r8
      by_cases hm : mayF f
      · have hpk : packs f = packed f ∧ packE f = 0 := ⟨if_pos hm, if_pos hm⟩
        have hm' := hm
        unfold mayF at hm'
        rw [HFL.out] at hm'
        have hpl : (packed f).length ≤ 514 := by unfold packed; unfold mayF at hm; simp; omega
        have HPK := Lib.hid hpk
        have HM := Lib.hid hm
        have HPL := Lib.hid hpl
        clear hpk hm hpl
        obtain ⟨hm1, hm2⟩ := hm'
        have d512 : decide ((a.n : Int) ≤ 512) = true := by simp; omega
        go_wp2_with (first
          | (go_at_call 10; refine (pack_any f a.A a.n a.c wr (HR.out.below M6.out)).mono ?_
             rintro e w4 ⟨v, rfl, ho4, hb4⟩
             rw [HPK.out.1] at ho4
             rw [HPK.out.2]
             obtain ⟨A4, c4, hv4, hr4⟩ := Own.val ho4 rfl
             subst hv4
             have t4 := Below.keep M6.out (Keeps.of_below hb4) hwz (fun _ _ h => h)
             have hcw4 : w4.cell? (ad.add k) = some (.slice a.A a.n a.c) := (t4.cell (World.block_lt_of_cell? _ _ HC.out)).trans HC.out
             have hz4 := hb4.size
             have O4 := Lib.hid (M1.out.below hb4)
             have W4 := Lib.hid (M2.out.below hb4)
             have G4 := Lib.hid (M5.out.keeps (Keeps.of_below hb4) (fun h => h))
             have R4 := Lib.hid hr4
             have T4 := Lib.hid t4
             clear ho4 hr4 hb4 t4)
          | (at_builtin; refine wp_append elem5 (by rfl) (.tmp 61) (.tmp 62) (by rfl) (w1.heap.size + 1) (.slice A7 (lined G).length c7) (lined G) (packed f) A4 (packed f).length c4 rfl rfl O4.out R4.out (by have := HPL.out; omega) (by have := HPL.out; simp only [maxLen]; omega) (by omega) ?_
             intro v5 w5 own5 gr5 at5
             obtain ⟨A5, c5, hv5, _⟩ := Own.val own5 (n := (lined G).length + (packed f).length) List.length_append
             rw [hv5]
             rw [hv5] at own5
             have k5 : Keeps (fun b => (Value.slice A7 (lined G).length c7).ownBlock = some b) w4 w5 := (Keeps.refl _ w4).grown gr5 (fun b hb _ => hb)
             have t5 := Below.keep T4.out k5 T4.out.size (fun b hb h => by have := O4.out.base_le h; omega)
             have hcw5 : w5.cell? (ad.add k) = some (.slice a.A a.n a.c) := (t5.cell (World.block_lt_of_cell? _ _ HC.out)).trans HC.out
             have w5' := W4.out.keeps k5 (fun b hb h => O4.out.own_ne W4.out (by decide) b h hb)
             have g5 := G4.out.keeps k5 (fun h => O4.out.blk_ne G4.out (by decide) h)
             have hz5 := k5.size
             have O5 := Lib.hid own5
             have W5 := Lib.hid w5'
             have G5 := Lib.hid g5
             have T5 := Lib.hid t5
             clear own5 gr5 at5 hv5 k5 t5 w5' g5)
          | (at_builtin; refine wp_append elem22 (by rfl) (.tmp 64) (.tmp 69) (by rfl) (w1.heap.size + 1) (.slice A8 hsg.length c8) hsg [⟨a.A, a.n, a.c⟩] (some ⟨w5.heap.size, 0, none⟩) 1 1 rfl rfl (W5.out.alloc _) ((Blk.new w5 22 _ _ rfl).reads [_] rfl rfl) (by omega) (by simp only [maxLen]; omega) (by simp; omega) ?_
             intro v6 w6 own6 gr6 at6
             have k6 : Keeps (fun b => (Value.slice A8 hsg.length c8).ownBlock = some b) w5 w6 := ((Keeps.refl _ w5).alloc _).grown gr6 (fun b hb _ => hb)
             have t6 := Below.keep T5.out k6 T5.out.size (fun b hb h => by have := W5.out.base_le h; omega)
             have o6 := O5.out.keeps k6 (fun b hb h => W5.out.own_ne O5.out (by decide) b h hb)
             have g6 := G5.out.keeps k6 (fun h => W5.out.blk_ne G5.out (by decide) h)
             have O6 := Lib.hid o6
             have W6 := Lib.hid own6
             have G6 := Lib.hid g6
             have T6 := Lib.hid t6
             clear own6 gr6 at6 k6 t6 o6 g6))
        have hsl : k + 1 ≤ n := by omega
        refine ⟨⟨k + 1, hsg ++ [({ A := a.A, n := a.n, c := a.c } : Sl)], hsl, by go_num, ?_⟩, by simp [intOf]; omega⟩
        rw [HGS.out, if_pos HM.out]
        refine ⟨?_, W6.out, by simp [M3.out], fun i h g hi hg => ?_, G6.out, T6.out⟩
        · rw [lined_append, show lined [f] = packed f by simp [lined]]
          exact O6.out
        · rcases Nat.lt_or_ge i hsg.length with hl | hl
          · rw [List.getElem?_append_left hl] at hi
            rw [List.getElem?_append_left (by have := M3.out; omega)] at hg
            exact M4.out i h g hi hg
          · rw [List.getElem?_append_right hl] at hi
            rw [List.getElem?_append_right (by have := M3.out; omega)] at hg
            have e0 : i - hsg.length = 0 := by
              rcases Nat.eq_zero_or_pos (i - hsg.length) with h0 | h0
              · exact h0
              · rw [List.getElem?_eq_none (by simp; omega)] at hi; cases hi
            rw [e0] at hi
            rw [show i - G.length = 0 by have := M3.out; omega] at hg
            simp only [List.getElem?_cons_zero, Option.some.injEq] at hi hg
            subst hi hg
            exact HR.out
      · have hpk : packs f = [] ∧ packE f = 60 := ⟨if_neg hm, if_neg hm⟩
        have hm' := hm
        unfold mayF at hm'
        rw [HFL.out] at hm'
        have HPK := Lib.hid hpk
        have HM := Lib.hid hm
        clear hpk hm
        rcases (show a.n = 0 ∨ (0 < a.n ∧ 512 < a.n) by omega) with hz | ⟨hz, hz'⟩
        · have HZ0 := Lib.hid hz
          clear hm' hz
          go_wp2_with (first
            | (go_at_call 10; refine (pack_any f a.A a.n a.c wr (HR.out.below M6.out)).mono ?_
               rintro e w4 ⟨v, rfl, ho4, hb4⟩
               rw [HPK.out.1] at ho4
               rw [HPK.out.2]
               have t4 := Below.keep M6.out (Keeps.of_below hb4) hwz (fun _ _ h => h)
               have hcw4 : w4.cell? (ad.add k) = some (.slice a.A a.n a.c) := (t4.cell (World.block_lt_of_cell? _ _ HC.out)).trans HC.out
               have O4 := Lib.hid (M1.out.below hb4)
               have W4 := Lib.hid (M2.out.below hb4)
               have G4 := Lib.hid (M5.out.keeps (Keeps.of_below hb4) (fun h => h))
               have T4 := Lib.hid t4
               clear ho4 hb4 t4))
          all_goals first
            | (exfalso; have := HZ0.out; omega)
            | (refine ⟨⟨k + 1, hsg, by omega, by go_num, ?_⟩, by simp [intOf]; omega⟩
               rw [HGS.out, if_neg HM.out]
               exact ⟨O4.out, W4.out, M3.out, M4.out, G4.out, T4.out⟩)
        · have HZ0 := Lib.hid (And.intro hz hz')
          clear hm' hz hz'
          go_wp2_with (first
            | (go_at_call 10; refine (pack_any f a.A a.n a.c wr (HR.out.below M6.out)).mono ?_
               rintro e w4 ⟨v, rfl, ho4, hb4⟩
               rw [HPK.out.1] at ho4
               rw [HPK.out.2]
               have t4 := Below.keep M6.out (Keeps.of_below hb4) hwz (fun _ _ h => h)
               have hcw4 : w4.cell? (ad.add k) = some (.slice a.A a.n a.c) := (t4.cell (World.block_lt_of_cell? _ _ HC.out)).trans HC.out
               have O4 := Lib.hid (M1.out.below hb4)
               have W4 := Lib.hid (M2.out.below hb4)
               have G4 := Lib.hid (M5.out.keeps (Keeps.of_below hb4) (fun h => h))
               have T4 := Lib.hid t4
               clear ho4 hb4 t4))
          all_goals first
            | (exfalso; have := HZ0.out; omega)
            | (refine ⟨⟨k + 1, hsg, by omega, by go_num, ?_⟩, by simp [intOf]; omega⟩
               rw [HGS.out, if_neg HM.out]
               exact ⟨O4.out, W4.out, M3.out, M4.out, G4.out, T4.out⟩)
    · have hkn : n = k := by omega
      subst hkn
      have htf : fs.take n = fs := List.take_of_length_le (by rw [HLN.out]; omega)
      rw [htf] at mid
      obtain ⟨m1, m2, m3, m4, m5, m6⟩ := mid
      obtain ⟨w2, hw2⟩ : ∃ w2, w2 = wr := ⟨_, rfl⟩
      rw [← hw2] at m1 m2 m5 m6 ⊢
      clear hw2
      obtain ⟨G, hG⟩ : ∃ G, G = good fs := ⟨_, rfl⟩
      rw [← hG] at m1 m3 m4
      have hGm : ∀ f ∈ G, mayF f := by rw [hG]; exact good_may fs
      have hgt := good_total fs
      rw [← hG] at hgt
      have hGs : ∀ f ∈ G, ∀ x ∈ f, x < 256 := fun f hf => HL.out.small f (by rw [hG] at hf; exact (List.mem_filter.1 hf).1)
      have hll := lined_len G
      have hAs : ∀ x ∈ lined G, x < 256 := by
        intro x hx
        obtain ⟨f, hf, hx⟩ := List.mem_flatMap.1 hx
        have := packs_small (hGs f hf) x
        unfold packs at this
        rw [if_pos (hGm f hf)] at this
        exact this hx
      obtain ⟨ALL, hALL⟩ : ∃ ALL, ALL = lined G := ⟨_, rfl⟩
      rw [← hALL] at m1 hll hAs
      have hprs : parse ALL = (G, 0, []) := by rw [hALL]; exact parse_lined G hGm
      have hpre : ∀ p, (parse (ALL.take p)).2.1 = 0 := fun p => parse_prefix G hGm (b := ALL.drop p) (by rw [List.take_append_drop, hALL])
      obtain ⟨A7, c7, hv7, r7⟩ := Own.val m1 rfl
      obtain ⟨A8, c8, hv8, r8⟩ := Own.val m2 rfl
      subst hv7 hv8
      have hc7 : ALL.length ≤ c7 := by
        obtain ⟨_, _, e, _, hle⟩ := m1.slice
        injection e with e1 e2 e3
        omega
      have hLl : ALL.length ≤ 4000000 := by have := HLN.out; omega
      have hGl : G.length ≤ 1048576 := by have := HLN.out; omega
      have M1 := Lib.hid m1
      have M2 := Lib.hid m2
      have M3 := Lib.hid m3
      have M4 := Lib.hid m4
      have M5 := Lib.hid m5
      have M6 := Lib.hid m6
      have GS := Lib.hid hGs
      have AS := Lib.hid hAs
      have PRS := Lib.hid hprs
      have PRE := Lib.hid hpre
      clear m1 m2 m3 m4 m5 m6 hG hGm hgt hGs hll hAs hALL hprs hpre r7 r8 htf
      go_wp2_with fail
      go_loopw [13, 12, 7] (fun i vg va wr => ∃ (k p L : Nat) (hso : List Sl) (Aa : Option Addr) (ca : Nat) (Ao : Option Addr) (no co : Nat) (Ah : Option Addr) (nh ch : Nat) (F : Nat → Prop), i = .int .i64 k ∧ vg = .slice Ao no co ∧ va = .slice Aa L ca ∧ L = ALL.length - p ∧ (k ≤ n1 ∨ (k ≤ n1 + 1 ∧ L = 0)) ∧ GMid w1.heap.size (w1.heap.size + 1) F ALL A7 c7 hsg (.slice A8 hsg.length c8) w wr p hso Aa ca Ao no co Ah nh ch) (fun i _ va _ => (n1 - (intOf i).toNat) + cellLen (some va))
      case atStart =>
        have p0 : parse (ALL.take 0) = ([], 0, []) := parse_short (by simp)
        have hz2 := M5.out.lt
        refine ⟨0, 0, ALL.length, [], A7, c7, some ⟨w2.heap.size, 0, none⟩, 0, 0, none, 0, 0, fun _ => False, rfl, rfl, rfl, by omega, .inl (Nat.zero_le _), ⟨Nat.zero_le _, M1.out.alloc _, ?_, by omega, M2.out.alloc _, ?_, by rw [p0]; rfl, ?_, fun _ h => h.elim, M5.out.alloc _, by rw [p0]; exact Own.nil _ _ _ _, ?_, ?_, ?_, hg, rfl⟩⟩
        · intro _
          cases A7 <;> simp [add_zero']
        · exact own_empty hdr w2 22 (w1.heap.size + 1) w2.heap.size rfl (by omega)
        · intro i h f hi
          simp at hi
        · intro b h1 h2
          simp [Value.ownBlock] at h2
        · intro b h1 h2
          have := M2.out.lt h1
          simp [Value.ownBlock] at h2
          omega
        · exact Below.keep M6.out ((Keeps.refl (fun _ => False) w2).alloc _) M6.out.size (fun _ _ h => h)
      case round =>
        obtain ⟨k, p, L, hso, Aa, ca, Ao, no, co, Ah, nh, ch, F, rfl, rfl, rfl, hL, hkb, mid⟩ := hrel
        by_cases hp : p < ALL.length
        · obtain ⟨b7, c7', hv7, hb7, hb7', _⟩ := mid.all.form (by omega)
          injection hv7 with hA7 _ hc7'
          have hAa := mid.ar hp
          rw [hA7] at hAa
          simp only [Option.map_some, add_at] at hAa
          subst hAa
          have hcap := mid.cap
          have hno : no = hso.length := (Own.len_eq mid.got rfl).symm
          have hcnt := parse_count (ALL.take p)
          have hsm := parse_small (l := ALL.take p) (fun x hx => AS.out x (List.mem_of_mem_take hx))
          have hYs : ∀ (q : Nat), ∀ x ∈ (ALL.drop p).take q, x < 256 := fun q x hx => AS.out x (List.mem_of_mem_drop (List.mem_of_mem_take hx))
          have hlen := mid.len
          have herr := PRE.out p
          have hgl := mid.box.lt
          have hgr := mid.got
          have hrd : ∀ q, q ≤ ALL.length - p → Reads byte wr (some ⟨b7, p, none⟩) q ((ALL.drop p).take q) := by
            intro q hq
            obtain ⟨_, _, e, hr, _⟩ := mid.all.slice
            injection e with e1 e2 e3
            rw [← e1, hA7] at hr
            have h1 := hr.drop (k := p) (by omega) (A' := some ⟨b7, p, none⟩) (fun _ => by simp [byte, add_at])
            exact h1.take hq
          have MID := Lib.hid mid
          have CNT := Lib.hid hcnt
          have SM := Lib.hid hsm
          have YS := Lib.hid hYs
          have LEN := Lib.hid hlen
          have ERR := Lib.hid herr
          have GOT := Lib.hid hgr
          have RD := Lib.hid hrd
          have HA7 := Lib.hid hA7
          have HNO := Lib.hid hno
          have hkw : k ≤ n1 := by omega
          have HLE := Lib.hid hL
          have hLp : p + L ≤ ALL.length := by omega
          have hLpos : 0 < L := by omega
          clear mid hcnt hsm hYs hlen herr hgr hrd hA7 hc7' hno hkb hL
          by_cases hcut : k < n1
          · obtain ⟨z, hz⟩ : ∃ z, Z[k]? = some z := ⟨_, List.getElem?_eq_getElem (by have := HZ.out.1; omega)⟩
            obtain ⟨a1, hA1, hc1⟩ := HZ.out.at_ hz
            subst hA1
            have hzw : wr.cell? (a1.add k) = some (.int .i64 z) := by
              have h0 := hc1 0 _ rfl
              rw [show k * (num .i64).size + 0 = k from Nat.mul_one k] at h0
              exact (MID.out.below.cell (World.block_lt_of_cell? _ _ h0)).trans h0
            clear hz hc1
            rcases (show (0 ≤ z ∧ z < L) ∨ z < 0 ∨ (0 ≤ z ∧ ¬ z < L) by omega) with ⟨hz1, hz2⟩ | hz1 | ⟨hz1, hz2⟩
            · obtain ⟨q, rfl⟩ := Int.eq_ofNat_of_zero_le hz1
              have hqL : q ≤ L := by omega
              have hq0 : q < L := by omega
              obtain ⟨HH, hHH⟩ : ∃ HH, HH = (parse (ALL.take p)).2.2 := ⟨_, rfl⟩
              obtain ⟨YY, hYY⟩ : ∃ YY, YY = (ALL.drop p).take q := ⟨_, rfl⟩
              have hpa := parse_append (ALL.take p) YY ERR.out
              rw [← hHH, hYY, ← List.take_add] at hpa
              rw [← hYY] at hpa
              have he0 : (parse (HH ++ YY)).2.1 = 0 := by
                have h1 := PRE.out (p + q)
                rw [hpa] at h1
                exact h1
              have hyl : YY.length = q := by rw [hYY, List.length_take, List.length_drop]; omega
              have hc2 := parse_count (HH ++ YY)
              rw [List.length_append, hyl] at hc2
              have hct := CNT.out
              rw [← hHH, List.length_take] at hct
              have HHH := Lib.hid hHH
              have HYY := Lib.hid hYY
              have HE0 := Lib.hid he0
              have HC2 := Lib.hid hc2
              have HCT := Lib.hid hct
              have hHl : HH.length ≤ 513 := hct.2.1
              have hso4 : hso.length ≤ 4000000 := by have := LEN.out; omega
              have hpq : p + q ≤ ALL.length := by omega
              clear hHH hYY hpa he0 hc2 hct hyl
              go_wp2_with (first
                | (go_at_call 13; refine (feed_use w1.heap.size Ah nh ch HH YY (w1.heap.size + 1) (some ⟨b7, p, none⟩) q ca wr MID.out.box (by rw [HHH.out]; exact MID.out.row) (by rw [HYY.out]; exact RD.out q (by have := HLE.out; omega)) (by rw [HHH.out]; exact SM.out.2) (by rw [HYY.out]; exact YS.out q) hgl (by omega)).mono ?_
                   rintro e w4 ⟨Ao4, no4, co4, hs4, A4, n4, c4, F4, rfl, hno4, hn4, hli4, hbl4, how4, hF4, hk4⟩
                   rw [HE0.out]
                   have got4 : Own hdr w4 (w1.heap.size + 1) 22 (.slice Ao no co) hso := GOT.out.keeps hk4 (fun b hb h => by
                     rcases h with h | h
                     · subst h; exact GOT.out.blk_ne MID.out.box (by decide) hb
                     · exact GOT.out.own_ne MID.out.row (by decide) b hb h)
                   have hz4 := hk4.size
                   have hn4' : no4 ≤ 4000000 := by have := HC2.out; omega
                   have NO4 := Lib.hid hno4
                   have LI4 := Lib.hid hli4
                   have BL4 := Lib.hid hbl4
                   have OW4 := Lib.hid how4
                   have HF4 := Lib.hid hF4
                   have HK4 := Lib.hid hk4
                   have GOT4 := Lib.hid got4
                   clear hno4 hn4 hli4 hbl4 how4 hF4 hk4 got4)
                | (at_builtin; refine wp_append elem22 (by rfl) (.tmp 112) (.tmp 113) (by rfl) (w1.heap.size + 1) (.slice Ao no co) hso hs4 Ao4 no4 co4 rfl rfl GOT4.out LI4.out.lines.heads (by omega) (by simp only [maxLen]; omega) (by omega) ?_
                   intro v5 w5 own5 gr5 at5
                   obtain ⟨Ao5, co5, hv5, _⟩ := Own.val own5 (n := hso.length + hs4.length) List.length_append
                   have NX := fun Aa' ca' hA hc => GMid.next (Aa' := Aa') (ca' := ca') MID.out (q := q) (by omega) ERR.out (by rw [← HHH.out, ← HYY.out]; exact LI4.out) BL4.out (by rw [← HHH.out, ← HYY.out]; exact OW4.out) HF4.out HK4.out own5 gr5 at5 hv5 hA hc
                   rw [hv5]
                   have NXT := Lib.hid NX
                   clear own5 gr5 at5 hv5 NX))
              all_goals
                have hL := HLE.out
                refine ⟨⟨k + 1, p + q, _, hso ++ hs4, _, _, _, _, _, _, _, _, _, by go_num, rfl, rfl, by omega, by omega, NXT.out _ _ (fun h => ?_) (by omega)⟩, by simp [intOf, cellLen]; omega⟩
                first
                  | omega
                  | (rw [HA7.out]; simp [add_at])
                  | (rw [HA7.out]; simp [add_at, add_off])
            · obtain ⟨q, hq⟩ : ∃ q, q = L := ⟨L, rfl⟩
              subst hq
              have hqL : q ≤ q := Nat.le_refl _
              obtain ⟨HH, hHH⟩ : ∃ HH, HH = (parse (ALL.take p)).2.2 := ⟨_, rfl⟩
              obtain ⟨YY, hYY⟩ : ∃ YY, YY = (ALL.drop p).take q := ⟨_, rfl⟩
              have hpa := parse_append (ALL.take p) YY ERR.out
              rw [← hHH, hYY, ← List.take_add] at hpa
              rw [← hYY] at hpa
              have he0 : (parse (HH ++ YY)).2.1 = 0 := by
                have h1 := PRE.out (p + q)
                rw [hpa] at h1
                exact h1
              have hyl : YY.length = q := by rw [hYY, List.length_take, List.length_drop]; omega
              have hc2 := parse_count (HH ++ YY)
              rw [List.length_append, hyl] at hc2
              have hct := CNT.out
              rw [← hHH, List.length_take] at hct
              have HHH := Lib.hid hHH
              have HYY := Lib.hid hYY
              have HE0 := Lib.hid he0
              have HC2 := Lib.hid hc2
              have HCT := Lib.hid hct
              have hHl : HH.length ≤ 513 := hct.2.1
              have hso4 : hso.length ≤ 4000000 := by have := LEN.out; omega
              have hpq : p + q ≤ ALL.length := by omega
              clear hHH hYY hpa he0 hc2 hct hyl
              go_wp2_with (first
                | (go_at_call 13; refine (feed_use w1.heap.size Ah nh ch HH YY (w1.heap.size + 1) (some ⟨b7, p, none⟩) q ca wr MID.out.box (by rw [HHH.out]; exact MID.out.row) (by rw [HYY.out]; exact RD.out q (by have := HLE.out; omega)) (by rw [HHH.out]; exact SM.out.2) (by rw [HYY.out]; exact YS.out q) hgl (by omega)).mono ?_
                   rintro e w4 ⟨Ao4, no4, co4, hs4, A4, n4, c4, F4, rfl, hno4, hn4, hli4, hbl4, how4, hF4, hk4⟩
                   rw [HE0.out]
                   have got4 : Own hdr w4 (w1.heap.size + 1) 22 (.slice Ao no co) hso := GOT.out.keeps hk4 (fun b hb h => by
                     rcases h with h | h
                     · subst h; exact GOT.out.blk_ne MID.out.box (by decide) hb
                     · exact GOT.out.own_ne MID.out.row (by decide) b hb h)
                   have hz4 := hk4.size
                   have hn4' : no4 ≤ 4000000 := by have := HC2.out; omega
                   have NO4 := Lib.hid hno4
                   have LI4 := Lib.hid hli4
                   have BL4 := Lib.hid hbl4
                   have OW4 := Lib.hid how4
                   have HF4 := Lib.hid hF4
                   have HK4 := Lib.hid hk4
                   have GOT4 := Lib.hid got4
                   clear hno4 hn4 hli4 hbl4 how4 hF4 hk4 got4)
                | (at_builtin; refine wp_append elem22 (by rfl) (.tmp 112) (.tmp 113) (by rfl) (w1.heap.size + 1) (.slice Ao no co) hso hs4 Ao4 no4 co4 rfl rfl GOT4.out LI4.out.lines.heads (by omega) (by simp only [maxLen]; omega) (by omega) ?_
                   intro v5 w5 own5 gr5 at5
                   obtain ⟨Ao5, co5, hv5, _⟩ := Own.val own5 (n := hso.length + hs4.length) List.length_append
                   have NX := fun Aa' ca' hA hc => GMid.next (Aa' := Aa') (ca' := ca') MID.out (q := q) (by omega) ERR.out (by rw [← HHH.out, ← HYY.out]; exact LI4.out) BL4.out (by rw [← HHH.out, ← HYY.out]; exact OW4.out) HF4.out HK4.out own5 gr5 at5 hv5 hA hc
                   rw [hv5]
                   have NXT := Lib.hid NX
                   clear own5 gr5 at5 hv5 NX))
              all_goals
                have hL := HLE.out
                refine ⟨⟨k + 1, p + q, _, hso ++ hs4, _, _, _, _, _, _, _, _, _, by go_num, rfl, rfl, by omega, by omega, NXT.out _ _ (fun h => ?_) (by omega)⟩, by simp [intOf, cellLen]; omega⟩
                first
                  | omega
                  | (rw [HA7.out]; simp [add_at])
                  | (rw [HA7.out]; simp [add_at, add_off])
            · obtain ⟨q, hq⟩ : ∃ q, q = L := ⟨L, rfl⟩
              subst hq
              have hqL : q ≤ q := Nat.le_refl _
              obtain ⟨HH, hHH⟩ : ∃ HH, HH = (parse (ALL.take p)).2.2 := ⟨_, rfl⟩
              obtain ⟨YY, hYY⟩ : ∃ YY, YY = (ALL.drop p).take q := ⟨_, rfl⟩
              have hpa := parse_append (ALL.take p) YY ERR.out
              rw [← hHH, hYY, ← List.take_add] at hpa
              rw [← hYY] at hpa
              have he0 : (parse (HH ++ YY)).2.1 = 0 := by
                have h1 := PRE.out (p + q)
                rw [hpa] at h1
                exact h1
              have hyl : YY.length = q := by rw [hYY, List.length_take, List.length_drop]; omega
              have hc2 := parse_count (HH ++ YY)
              rw [List.length_append, hyl] at hc2
              have hct := CNT.out
              rw [← hHH, List.length_take] at hct
              have HHH := Lib.hid hHH
              have HYY := Lib.hid hYY
              have HE0 := Lib.hid he0
              have HC2 := Lib.hid hc2
              have HCT := Lib.hid hct
              have hHl : HH.length ≤ 513 := hct.2.1
              have hso4 : hso.length ≤ 4000000 := by have := LEN.out; omega
              have hpq : p + q ≤ ALL.length := by omega
              clear hHH hYY hpa he0 hc2 hct hyl
              go_wp2_with (first
                | (go_at_call 13; refine (feed_use w1.heap.size Ah nh ch HH YY (w1.heap.size + 1) (some ⟨b7, p, none⟩) q ca wr MID.out.box (by rw [HHH.out]; exact MID.out.row) (by rw [HYY.out]; exact RD.out q (by have := HLE.out; omega)) (by rw [HHH.out]; exact SM.out.2) (by rw [HYY.out]; exact YS.out q) hgl (by omega)).mono ?_
                   rintro e w4 ⟨Ao4, no4, co4, hs4, A4, n4, c4, F4, rfl, hno4, hn4, hli4, hbl4, how4, hF4, hk4⟩
                   rw [HE0.out]
                   have got4 : Own hdr w4 (w1.heap.size + 1) 22 (.slice Ao no co) hso := GOT.out.keeps hk4 (fun b hb h => by
                     rcases h with h | h
                     · subst h; exact GOT.out.blk_ne MID.out.box (by decide) hb
                     · exact GOT.out.own_ne MID.out.row (by decide) b hb h)
                   have hz4 := hk4.size
                   have hn4' : no4 ≤ 4000000 := by have := HC2.out; omega
                   have NO4 := Lib.hid hno4
                   have LI4 := Lib.hid hli4
                   have BL4 := Lib.hid hbl4
                   have OW4 := Lib.hid how4
                   have HF4 := Lib.hid hF4
                   have HK4 := Lib.hid hk4
                   have GOT4 := Lib.hid got4
                   clear hno4 hn4 hli4 hbl4 how4 hF4 hk4 got4)
                | (at_builtin; refine wp_append elem22 (by rfl) (.tmp 112) (.tmp 113) (by rfl) (w1.heap.size + 1) (.slice Ao no co) hso hs4 Ao4 no4 co4 rfl rfl GOT4.out LI4.out.lines.heads (by omega) (by simp only [maxLen]; omega) (by omega) ?_
                   intro v5 w5 own5 gr5 at5
                   obtain ⟨Ao5, co5, hv5, _⟩ := Own.val own5 (n := hso.length + hs4.length) List.length_append
                   have NX := fun Aa' ca' hA hc => GMid.next (Aa' := Aa') (ca' := ca') MID.out (q := q) (by omega) ERR.out (by rw [← HHH.out, ← HYY.out]; exact LI4.out) BL4.out (by rw [← HHH.out, ← HYY.out]; exact OW4.out) HF4.out HK4.out own5 gr5 at5 hv5 hA hc
                   rw [hv5]
                   have NXT := Lib.hid NX
                   clear own5 gr5 at5 hv5 NX))
              all_goals
                have hL := HLE.out
                refine ⟨⟨k + 1, p + q, _, hso ++ hs4, _, _, _, _, _, _, _, _, _, by go_num, rfl, rfl, by omega, by omega, NXT.out _ _ (fun h => ?_) (by omega)⟩, by simp [intOf, cellLen]; omega⟩
                first
                  | omega
                  | (rw [HA7.out]; simp [add_at])
                  | (rw [HA7.out]; simp [add_at, add_off])
          · have hqL : L ≤ L := Nat.le_refl _
            obtain ⟨q, hq⟩ : ∃ q, q = L := ⟨L, rfl⟩
            subst hq
            obtain ⟨HH, hHH⟩ : ∃ HH, HH = (parse (ALL.take p)).2.2 := ⟨_, rfl⟩
            obtain ⟨YY, hYY⟩ : ∃ YY, YY = (ALL.drop p).take q := ⟨_, rfl⟩
            have hpa := parse_append (ALL.take p) YY ERR.out
            rw [← hHH, hYY, ← List.take_add] at hpa
            rw [← hYY] at hpa
            have he0 : (parse (HH ++ YY)).2.1 = 0 := by
              have h1 := PRE.out (p + q)
              rw [hpa] at h1
              exact h1
            have hyl : YY.length = q := by rw [hYY, List.length_take, List.length_drop]; omega
            have hc2 := parse_count (HH ++ YY)
            rw [List.length_append, hyl] at hc2
            have hct := CNT.out
            rw [← hHH, List.length_take] at hct
            have HHH := Lib.hid hHH
            have HYY := Lib.hid hYY
            have HE0 := Lib.hid he0
            have HC2 := Lib.hid hc2
            have HCT := Lib.hid hct
            have hHl : HH.length ≤ 513 := hct.2.1
            have hso4 : hso.length ≤ 4000000 := by have := LEN.out; omega
            have hpq : p + q ≤ ALL.length := by omega
            clear hHH hYY hpa he0 hc2 hct hyl
            go_wp2_with (first
              | (go_at_call 13; refine (feed_use w1.heap.size Ah nh ch HH YY (w1.heap.size + 1) (some ⟨b7, p, none⟩) q ca wr MID.out.box (by rw [HHH.out]; exact MID.out.row) (by rw [HYY.out]; exact RD.out q (by have := HLE.out; omega)) (by rw [HHH.out]; exact SM.out.2) (by rw [HYY.out]; exact YS.out q) hgl (by omega)).mono ?_
                 rintro e w4 ⟨Ao4, no4, co4, hs4, A4, n4, c4, F4, rfl, hno4, hn4, hli4, hbl4, how4, hF4, hk4⟩
                 rw [HE0.out]
                 have got4 : Own hdr w4 (w1.heap.size + 1) 22 (.slice Ao no co) hso := GOT.out.keeps hk4 (fun b hb h => by
                   rcases h with h | h
                   · subst h; exact GOT.out.blk_ne MID.out.box (by decide) hb
                   · exact GOT.out.own_ne MID.out.row (by decide) b hb h)
                 have hz4 := hk4.size
                 have hn4' : no4 ≤ 4000000 := by have := HC2.out; omega
                 have NO4 := Lib.hid hno4
                 have LI4 := Lib.hid hli4
                 have BL4 := Lib.hid hbl4
                 have OW4 := Lib.hid how4
                 have HF4 := Lib.hid hF4
                 have HK4 := Lib.hid hk4
                 have GOT4 := Lib.hid got4
                 clear hno4 hn4 hli4 hbl4 how4 hF4 hk4 got4)
              | (at_builtin; refine wp_append elem22 (by rfl) (.tmp 112) (.tmp 113) (by rfl) (w1.heap.size + 1) (.slice Ao no co) hso hs4 Ao4 no4 co4 rfl rfl GOT4.out LI4.out.lines.heads (by omega) (by simp only [maxLen]; omega) (by omega) ?_
                 intro v5 w5 own5 gr5 at5
                 obtain ⟨Ao5, co5, hv5, _⟩ := Own.val own5 (n := hso.length + hs4.length) List.length_append
                 have NX := fun Aa' ca' hA hc => GMid.next (Aa' := Aa') (ca' := ca') MID.out (q := q) (by omega) ERR.out (by rw [← HHH.out, ← HYY.out]; exact LI4.out) BL4.out (by rw [← HHH.out, ← HYY.out]; exact OW4.out) HF4.out HK4.out own5 gr5 at5 hv5 hA hc
                 rw [hv5]
                 have NXT := Lib.hid NX
                 clear own5 gr5 at5 hv5 NX))
            all_goals
              have hL := HLE.out
              refine ⟨⟨k + 1, p + q, _, hso ++ hs4, _, _, _, _, _, _, _, _, _, by go_num, rfl, rfl, by omega, by omega, NXT.out _ _ (fun h => ?_) (by omega)⟩, by simp [intOf, cellLen]; omega⟩
              first
                | omega
                | (rw [HA7.out]; simp [add_at])
                | (rw [HA7.out]; simp [add_at, add_off])
        · have hp' : p = ALL.length := by have := mid.ple; omega
          have hL0 : L = 0 := by omega
          subst hL0
          subst hp'
          have hpx : parse (ALL.take ALL.length) = (G, 0, []) := by rw [List.take_length]; exact PRS.out
          obtain ⟨q1, q2, q3, q4, q5, q6, q7, q8, q9, q10, q11, q12, q13, q14, q15, q16⟩ := mid
          rw [hpx] at q7 q8 q11
          have hnh : nh = 0 := (Own.len_eq q11 rfl).symm
          have hno : no = hso.length := (Own.len_eq q6 rfl).symm
          obtain ⟨_, _, e6, r6, _⟩ := q6.slice
          injection e6 with e61 e62 e63
          obtain ⟨_, _, e5, r5, _⟩ := q5.slice
          injection e5 with e51 e52 e53
          rw [← e61, ← e62] at r6
          rw [← e51] at r5
          have hsame := same_any hso hsg G G Ao A8 no hsg.length co c8 wr ⟨r6, q7, fun i h f hi hf => (q8 i h f hi hf).1, GS.out⟩ ⟨r5, M3.out, fun i h f hi hf => (M4.out i h f hi hf).below q14, GS.out⟩ (by have : hso.length = G.length := q7; omega)
          simp only [decide_true] at hsame
          have SAME := Lib.hid hsame
          have BOX := Lib.hid q10
          have BEL := Lib.hid q14
          clear q1 q2 q3 q4 q5 q6 q7 q8 q9 q10 q11 q12 q13 q14 q15 q16 hsame r5 r6 e51 e52 e53 e61 e62 e63 hpx
          subst hnh
          subst hno
          clear hL hkb hp
          go_wp2_with (first
            | (go_at_call 14; refine SAME.out.mono ?_
               rintro e w10 ⟨q, rfl, hw10⟩
               have hbx : Blk w10 w1.heap.size 47 #[.slice Ah 0 ch] := by rw [hw10]; exact BOX.out.drewN q
               have HA := Lib.hid (held_any w1.heap.size 0 ch Ah w10 hbx)
               have hbe : Below w.heap.size w w10 := by rw [hw10]; exact Below.keep BEL.out ((Keeps.refl (fun _ => False) _).drewN q) BEL.out.size (fun _ _ h => h)
               have BE := Lib.hid hbe
               clear hw10 hbx hbe)
            | (go_at_call 15; refine HA.out.mono ?_
               rintro e w11 ⟨rfl, hw11⟩
               subst hw11))
          go_ret
          exact ⟨rfl, BE.out⟩
end Go.Proofs.Ytaccdbiajcnlaaa
