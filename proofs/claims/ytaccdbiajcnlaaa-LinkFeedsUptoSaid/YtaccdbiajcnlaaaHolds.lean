/- LinkHolds, walked. -/
import Derived.Test.YtaccdbiajcnlaaaJoins
import Derived.Test.YtaccdbiajcnlaaaRows2
namespace Go.Proofs.Ytaccdbiajcnlaaa
open Go.RowKit Mem
/-- Frames on a line. -/
def lined (fs : List (List Nat)) : List Nat := fs.flatMap packed
theorem lined_append (a b : List (List Nat)) : lined (a ++ b) = lined a ++ lined b := by simp [lined]
theorem two_of {l : List Nat} (hl : ∀ x ∈ l, x < 256) (h : 2 ≤ l.length) : l = [num2 l / 256, num2 l % 256] ++ l.drop 2 := by
  match l, h with
  | a :: b :: r, _ =>
    have ha := hl a (by simp)
    have hb := hl b (by simp)
    have e : num2 (a :: b :: r) = 256 * a + b := rfl
    rw [e, show (256 * a + b) / 256 = a by omega, show (256 * a + b) % 256 = b by omega]
    rfl
/-- What was told and what is held are all that was fed. -/
theorem parse_whole (l : List Nat) (hl : ∀ x ∈ l, x < 256) : (parse l).2.1 = 0 → l = lined (parse l).1 ++ (parse l).2.2 := by
  induction hn : l.length using Nat.strongRecOn generalizing l with
  | _ n ih =>
    intro he
    by_cases h1 : l.length < 2
    · rw [parse_short h1]; rfl
    · by_cases h2 : num2 l = 0 ∨ 512 < num2 l
      · rw [parse_bad h1 h2] at he; cases he
      · by_cases h3 : l.length < 2 + num2 l
        · rw [parse_part h1 h2 h3]; rfl
        · rw [parse_more h1 h2 h3] at he ⊢
          have := ih _ (by rw [List.length_drop]; omega) (l.drop (2 + num2 l)) (fun x hx => hl x (List.mem_of_mem_drop hx)) rfl he
          have e2 := two_of hl (by omega)
          have hlen : ((l.drop 2).take (num2 l)).length = num2 l := by rw [List.length_take, List.length_drop]; omega
          show l = (packed ((l.drop 2).take (num2 l)) ++ lined (parse (l.drop (2 + num2 l))).1) ++ _
          rw [List.append_assoc, ← this]
          unfold packed
          rw [hlen, List.append_assoc]
          rw [show l.drop (2 + num2 l) = (l.drop 2).drop (num2 l) by rw [List.drop_drop], List.take_append_drop]
          exact e2
theorem lined_len (fs : List (List Nat)) : (lined fs).length = total fs + 2 * fs.length := by
  induction fs with
  | nil => rfl
  | cons f fs ih =>
    have : lined (f :: fs) = packed f ++ lined fs := rfl
    rw [this, List.length_append, ih, total_cons, List.length_cons]
    unfold packed
    simp
    omega
/-- No block is of both. -/
def Apart (v v' : Value) : Prop := ∀ k, v.ownBlock = some k → v'.ownBlock ≠ some k
theorem Apart.symm {v v' : Value} (h : Apart v v') : Apart v' v := fun k h1 h2 => h k h2 h1
theorem Apart.grown {v v1 v' : Value} {H : Nat} (h : Apart v v') (ha : v1.ownBlock = v.ownBlock ∨ v1.ownBlock = some H) (hl : ∀ k, v'.ownBlock = some k → k < H) : Apart v1 v' := by
  intro k h1 h2
  rcases ha with e | e
  · rw [e] at h1; exact h k h1 h2
  · rw [e] at h1; injection h1 with h1; have := hl k h2; omega
theorem Apart.new {v v' : Value} {H : Nat} (h : ∀ k, v.ownBlock = some k → H ≤ k) (hl : ∀ k, v'.ownBlock = some k → k < H) : Apart v v' := by
  intro k h1 h2
  have := h k h1
  have := hl k h2
  omega
theorem flat_len (fs : List (List Nat)) : fs.flatten.length = total fs := by simp [total]
theorem flat_succ {fs : List (List Nat)} {k : Nat} {f : List Nat} (h : fs[k]? = some f) : (fs.take (k + 1)).flatten = (fs.take k).flatten ++ f := by
  rw [List.take_add_one, h]
  simp
/-- The outer round, as it stands. -/
structure HMid (g : Nat) (fs : List (List Nat)) (w wr : World) (k : Nat) (v5 v6 : Value) (A' : Option Addr) (n' c' : Nat) : Prop where
  all : Own byte wr (g + 1) 5 v5 (fs.take k).flatten
  told : Own byte wr (g + 1) 5 v6 (lined (parse (fs.take k).flatten).1)
  err : (parse (fs.take k).flatten).2.1 = 0
  held : Blk wr g 47 #[.slice A' n' c']
  row : Own byte wr (g + 1) 5 (.slice A' n' c') (parse (fs.take k).flatten).2.2
  a56 : Apart v5 v6
  a5h : Apart v5 (.slice A' n' c')
  a6h : Apart v6 (.slice A' n' c')
  below : Below w.heap.size w wr
set_option maxRecDepth 100000 in
set_option maxHeartbeats 3200000 in
theorem holds_any (fs : List (List Nat)) (hs : List Sl) (A : Option Addr) (n c : Nat) (w : World) (hl : Lines w A n hs fs) (hb : total fs + n ≤ 1048576) :
    Calls Try.prog 7 #[.slice A n c] w fun e w' => e = .returned (.bool true) ∧ Below w.heap.size w w' := by
  have hln : fs.length = n := by have := hl.heads.1; have := hl.len; omega
  have HLN := Lib.hid hln
  have HL := Lib.hid hl
  clear hln hl
  go_enter Try.func7, Try.ntmps7
  go_wp2_with (first
    | (go_at_call 9; refine (shown_any w).mono ?_
       rintro e w1 ⟨rfl, hb1⟩
       have B1 := Lib.hid hb1
       clear hb1)
    | (go_at_call 12; refine (new_any _).mono ?_
       rintro e w1' ⟨rfl, rfl⟩))
  have hg := B1.out.size
  go_loopw [7, 5, 6] (fun i v5 v6 wr => ∃ (k : Nat) (A' : Option Addr) (n' c' : Nat), k ≤ n ∧ i = .int .i64 k ∧ HMid w1.heap.size fs w wr k v5 v6 A' n' c') (fun i _ _ _ => n - (intOf i).toNat)
  case atStart =>
    have p0 : parse (fs.take 0).flatten = ([], 0, []) := parse_short (by simp)
    refine ⟨0, none, 0, 0, Nat.zero_le _, rfl, ⟨?_, ?_, ?_, ?_, by rw [p0]; exact Own.nil _ _ _ _, ?_, ?_, ?_, ?_⟩⟩
    · exact (own_empty byte (w1.alloc (.cells #[.slice none 0 0] 47)) 5 (w1.heap.size + 1) (w1.heap.size + 1) (by simp) (Nat.le_refl _)).alloc _
    · rw [p0]
      exact own_empty byte _ 5 (w1.heap.size + 1) (w1.heap.size + 1 + 1) (by simp) (by omega)
    · rw [p0]
    · exact (((Blk.new w1 47 _ _ rfl).alloc _).alloc _)
    · intro k h1 h2
      simp [Value.ownBlock] at h1 h2
      omega
    · intro k h1 h2
      simp [Value.ownBlock] at h2
    · intro k h1 h2
      simp [Value.ownBlock] at h2
    · exact Below.keep B1.out ((((Keeps.refl (fun _ => False) w1).alloc _).alloc _).alloc _) hg (fun _ _ h => h)
  case round =>
    obtain ⟨k, A', n', c', hk, rfl, mid⟩ := hrel
    by_cases hlt : k < n ∧ k < 60
    · obtain ⟨m1, m2, m3, m4, m5, m6, m7, m8, m9⟩ := mid
      obtain ⟨ad, a, f, rfl, hf, ha, hc, hr, hfs⟩ := HL.out.at_ hlt.1
      have hfk := flat_succ hf
      have htk := total_take_succ hf
      have htl := total_take_le fs (k + 1)
      have hXl := flat_len (fs.take k)
      have hXs : ∀ x ∈ (fs.take k).flatten, x < 256 := by
        intro x hx
        obtain ⟨l, hl, hx⟩ := List.mem_flatten.1 hx
        exact HL.out.small l (List.mem_of_mem_take hl) x hx
      obtain ⟨X, hX⟩ : ∃ X, X = (fs.take k).flatten := ⟨_, rfl⟩
      rw [← hX] at m1 m2 m3 m5 hfk hXl hXs
      have hpx := parse_append X f m3
      have hps := parse_small hXs
      have hpc := parse_count X
      have hpw := parse_whole X hXs m3
      obtain ⟨T, hT⟩ : ∃ T, T = lined (parse X).1 := ⟨_, rfl⟩
      obtain ⟨Hk, hHk⟩ : ∃ Hk, Hk = (parse X).2.2 := ⟨_, rfl⟩
      rw [← hT] at m2 hpw
      rw [← hHk] at m5 hpx hps hpc hpw
      obtain ⟨A5, c5, hv5, r5⟩ := Own.val m1 rfl
      obtain ⟨A6, c6, hv6, r6⟩ := Own.val m2 rfl
      subst hv5 hv6
      have hlX : X.length + f.length + n ≤ 1048576 := by omega
      have hcw : wr.cell? (ad.add k) = some (.slice a.A a.n a.c) := (m9.cell (World.block_lt_of_cell? _ _ hc)).trans hc
      have hrw := hr.below m9
      have hfl := hr.1
      have hgr := m4.lt
      have hFS : ∀ x ∈ Hk ++ f, x < 256 := by
        intro x hx
        rcases List.mem_append.1 hx with h | h
        · exact hps.2 x h
        · exact hfs x h
      have hq1 := parse_count (Hk ++ f)
      have hq2 := parse_whole (Hk ++ f) hFS
      have hq3 := parse_small hFS
      rw [List.length_append] at hq1
      have hHX : Hk.length ≤ X.length := by omega
      have M1 := Lib.hid m1
      have M2 := Lib.hid m2
      have M4 := Lib.hid m4
      have M5 := Lib.hid m5
      have M6 := Lib.hid m6
      have M7 := Lib.hid m7
      have M8 := Lib.hid m8
      have M9 := Lib.hid m9
      have HRW := Lib.hid hrw
      have HR0 := Lib.hid hr
      have HC0 := Lib.hid hc
      have HFL := Lib.hid hfl
      have HFK := Lib.hid hfk
      have HPX := Lib.hid hpx
      have HPS := Lib.hid hps
      have HPW := Lib.hid hpw
      have HX := Lib.hid hX
      have HTT := Lib.hid hT
      have HHK := Lib.hid hHk
      have HFS := Lib.hid hfs
      have HQ1 := Lib.hid hq1
      have HQ2 := Lib.hid hq2
      have HQ3 := Lib.hid hq3
      have M3 := Lib.hid m3
      clear m1 m2 m3 m4 m5 m6 m7 m8 m9 hf ha hc hr hfs hfk htk htl hXl hXs hX hpx hps hpc hpw hT hHk r5 r6 hrw hfl hFS hq1 hq2 hq3
      obtain ⟨er, her⟩ : ∃ er, er = (parse (Hk ++ f)).2.1 := ⟨_, rfl⟩
      have hcase : er = 60 ∨ er = 0 := by
        rcases parse_err (Hk ++ f) with h | h
        · exact .inr (her.trans h)
        · exact .inl (her.trans h.1)
      have HER := Lib.hid her
      clear her
      obtain ⟨hk1, hk2⟩ := hlt
      have hn' : n' = Hk.length := (Own.len_eq M5.out rfl).symm
      rcases hcase with rfl | rfl
      · go_wp2_with (first
          | (at_builtin; refine wp_append elem5 (by rfl) (.tmp 34) (.tmp 38) (by rfl) (w1.heap.size + 1) (.slice A5 X.length c5) X f a.A a.n a.c rfl rfl M1.out HRW.out (by have := HFL.out; omega) (by have := HFL.out; simp only [maxLen]; omega) (by omega) ?_
             intro v5 w3 own5 gr5 at5
             have k5 : Keeps (fun b => (Value.slice A5 X.length c5).ownBlock = some b) wr w3 := (Keeps.refl _ wr).grown gr5 (fun b hb _ => hb)
             have b3 : Below w.heap.size w w3 := Below.keep M9.out k5 M9.out.size (fun b hb h => by have := M1.out.base_le h; omega)
             have hg3 := M4.out.keeps k5 (fun h => M1.out.blk_ne M4.out (by decide) h)
             have hr3 := M5.out.keeps k5 (fun b hb h => M7.out b h hb)
             have ht3 := M2.out.keeps k5 (fun b hb h => M6.out b h hb)
             have hf3 := HR0.out.below b3
             have a1 := Apart.grown M6.out at5 (fun b hb => M2.out.lt hb)
             have a2 := Apart.grown M7.out at5 (fun b hb => M5.out.lt hb)
             have hz3 := k5.size
             obtain ⟨A7, c7, hv7, _⟩ := Own.val own5 (n := X.length + f.length) List.length_append
             have hcw3 : w3.cell? (ad.add k) = some (.slice a.A a.n a.c) := (b3.cell (World.block_lt_of_cell? _ _ HC0.out)).trans HC0.out
             rw [hv7]
             rw [hv7] at own5 a1 a2
             have O5 := Lib.hid own5
             have B3 := Lib.hid b3
             have G3 := Lib.hid hg3
             have R3 := Lib.hid hr3
             have T3 := Lib.hid ht3
             have F3 := Lib.hid hf3
             have AP1 := Lib.hid a1
             have AP2 := Lib.hid a2
             clear own5 gr5 at5 k5 b3 hg3 hr3 ht3 hf3 a1 a2 hv7)
          | (go_at_call 13; refine (feed_use w1.heap.size A' n' c' Hk f (w1.heap.size + 1) a.A a.n a.c w3 G3.out R3.out F3.out HPS.out.2 HFS.out (by omega) (by have := HFL.out; omega)).mono ?_
             rintro e w4 ⟨Ao, no, co, hs4, A4, n4, c4, F, rfl, hno, hn4, hli, hbl, how, hF, hk4⟩
             rw [← HER.out]
             have b4 : Below w.heap.size w w4 := Below.keep B3.out hk4 (by omega) (fun b hb h => by
               rcases h with h | h
               · omega
               · have := R3.out.base_le h; omega)
             have a4 := O5.out.keeps hk4 (fun b hb h => by
               rcases h with h | h
               · subst h; exact O5.out.blk_ne G3.out (by decide) hb
               · exact AP2.out b hb h)
             have t4 := T3.out.keeps hk4 (fun b hb h => by
               rcases h with h | h
               · subst h; exact T3.out.blk_ne G3.out (by decide) hb
               · exact M8.out b hb h)
             have p1 : Apart (.slice A7 (X.length + f.length) c7) (.slice A4 n4 c4) := (Apart.new (fun b hb => how.base_le hb) (fun b hb => O5.out.lt hb)).symm
             have p2 : Apart (.slice A6 T.length c6) (.slice A4 n4 c4) := (Apart.new (fun b hb => how.base_le hb) (fun b hb => T3.out.lt hb)).symm
             have pF : ∀ b, F b → (Value.slice A6 T.length c6).ownBlock ≠ some b := fun b hb h => by
               rcases (hF b hb).2.2.2 with h' | h'
               · have := T3.out.lt h; omega
               · exact M8.out b h h'
             have how' := how.rebase (w1.heap.size + 1) (fun b hb => by have := how.base_le hb; omega)
             have hz4 := hk4.size
             have hno' : no ≤ 1048576 := by have := HQ1.out; omega
             have NO := Lib.hid hno
             have N4 := Lib.hid hn4
             have LI := Lib.hid hli
             have G4 := Lib.hid hbl
             have W4 := Lib.hid how'
             have FH := Lib.hid hF
             have B4 := Lib.hid b4
             have A4' := Lib.hid a4
             have T4 := Lib.hid t4
             have P1 := Lib.hid p1
             have P2 := Lib.hid p2
             have PF := Lib.hid pF
             clear hno hn4 hli hbl how how' hF hk4 b4 a4 t4 p1 p2 pF))
        go_ret
        exact ⟨rfl, B4.out⟩
      · go_wp2_with (first
          | (at_builtin; refine wp_append elem5 (by rfl) (.tmp 34) (.tmp 38) (by rfl) (w1.heap.size + 1) (.slice A5 X.length c5) X f a.A a.n a.c rfl rfl M1.out HRW.out (by have := HFL.out; omega) (by have := HFL.out; simp only [maxLen]; omega) (by omega) ?_
             intro v5 w3 own5 gr5 at5
             have k5 : Keeps (fun b => (Value.slice A5 X.length c5).ownBlock = some b) wr w3 := (Keeps.refl _ wr).grown gr5 (fun b hb _ => hb)
             have b3 : Below w.heap.size w w3 := Below.keep M9.out k5 M9.out.size (fun b hb h => by have := M1.out.base_le h; omega)
             have hg3 := M4.out.keeps k5 (fun h => M1.out.blk_ne M4.out (by decide) h)
             have hr3 := M5.out.keeps k5 (fun b hb h => M7.out b h hb)
             have ht3 := M2.out.keeps k5 (fun b hb h => M6.out b h hb)
             have hf3 := HR0.out.below b3
             have a1 := Apart.grown M6.out at5 (fun b hb => M2.out.lt hb)
             have a2 := Apart.grown M7.out at5 (fun b hb => M5.out.lt hb)
             have hz3 := k5.size
             obtain ⟨A7, c7, hv7, _⟩ := Own.val own5 (n := X.length + f.length) List.length_append
             have hcw3 : w3.cell? (ad.add k) = some (.slice a.A a.n a.c) := (b3.cell (World.block_lt_of_cell? _ _ HC0.out)).trans HC0.out
             rw [hv7]
             rw [hv7] at own5 a1 a2
             have O5 := Lib.hid own5
             have B3 := Lib.hid b3
             have G3 := Lib.hid hg3
             have R3 := Lib.hid hr3
             have T3 := Lib.hid ht3
             have F3 := Lib.hid hf3
             have AP1 := Lib.hid a1
             have AP2 := Lib.hid a2
             clear own5 gr5 at5 k5 b3 hg3 hr3 ht3 hf3 a1 a2 hv7)
          | (go_at_call 13; refine (feed_use w1.heap.size A' n' c' Hk f (w1.heap.size + 1) a.A a.n a.c w3 G3.out R3.out F3.out HPS.out.2 HFS.out (by omega) (by have := HFL.out; omega)).mono ?_
             rintro e w4 ⟨Ao, no, co, hs4, A4, n4, c4, F, rfl, hno, hn4, hli, hbl, how, hF, hk4⟩
             rw [← HER.out]
             have b4 : Below w.heap.size w w4 := Below.keep B3.out hk4 (by omega) (fun b hb h => by
               rcases h with h | h
               · omega
               · have := R3.out.base_le h; omega)
             have a4 := O5.out.keeps hk4 (fun b hb h => by
               rcases h with h | h
               · subst h; exact O5.out.blk_ne G3.out (by decide) hb
               · exact AP2.out b hb h)
             have t4 := T3.out.keeps hk4 (fun b hb h => by
               rcases h with h | h
               · subst h; exact T3.out.blk_ne G3.out (by decide) hb
               · exact M8.out b hb h)
             have p1 : Apart (.slice A7 (X.length + f.length) c7) (.slice A4 n4 c4) := (Apart.new (fun b hb => how.base_le hb) (fun b hb => O5.out.lt hb)).symm
             have p2 : Apart (.slice A6 T.length c6) (.slice A4 n4 c4) := (Apart.new (fun b hb => how.base_le hb) (fun b hb => T3.out.lt hb)).symm
             have pF : ∀ b, F b → (Value.slice A6 T.length c6).ownBlock ≠ some b := fun b hb h => by
               rcases (hF b hb).2.2.2 with h' | h'
               · have := T3.out.lt h; omega
               · exact M8.out b h h'
             have how' := how.rebase (w1.heap.size + 1) (fun b hb => by have := how.base_le hb; omega)
             have hz4 := hk4.size
             have hno' : no ≤ 1048576 := by have := HQ1.out; omega
             have NO := Lib.hid hno
             have N4 := Lib.hid hn4
             have LI := Lib.hid hli
             have G4 := Lib.hid hbl
             have W4 := Lib.hid how'
             have FH := Lib.hid hF
             have B4 := Lib.hid b4
             have A4' := Lib.hid a4
             have T4 := Lib.hid t4
             have P1 := Lib.hid p1
             have P2 := Lib.hid p2
             have PF := Lib.hid pF
             clear hno hn4 hli hbl how how' hF hk4 b4 a4 t4 p1 p2 pF))
        have hna : (parse (Hk ++ f)).1.length = no := NO.out.symm
        obtain ⟨gs, hgs⟩ : ∃ gs, gs = (parse (Hk ++ f)).1 := ⟨_, rfl⟩
        obtain ⟨R, hR⟩ : ∃ R, R = (parse (Hk ++ f)).2.2 := ⟨_, rfl⟩
        have q1 := HQ1.out
        have q2 := HQ2.out HER.out.symm
        have q3 := HQ3.out
        have li := LI.out
        have w4' := W4.out
        have n4' := N4.out
        rw [← hgs] at q1 q2 q3 li hna
        rw [← hR] at q1 q2 q3 w4' n4'
        have Q1 := Lib.hid q1
        have Q2 := Lib.hid q2
        have Q3 := Lib.hid q3
        have LI := Lib.hid li
        have W4 := Lib.hid w4'
        have N4 := Lib.hid n4'
        have NA := Lib.hid hna
        have HGS := Lib.hid hgs
        have HRS := Lib.hid hR
        clear q1 q2 q3 li w4' n4' hna hgs hR hcw
        have hTb : T.length + (lined gs).length ≤ 1048576 := by
          have h1 := congrArg List.length HPW.out
          have h2 := congrArg List.length Q2.out
          simp only [List.length_append] at h1 h2
          omega
        go_loopw [10, 6] (fun i v6 wr => ∃ (j : Nat) (T' : List Nat) (A6' : Option Addr) (c6' : Nat), j ≤ no ∧ i = .int .i64 j ∧ T' = T ++ lined (gs.take j) ∧ v6 = .slice A6' T'.length c6' ∧ Own byte wr (w1.heap.size + 1) 5 v6 T' ∧ (∀ b, F b → v6.ownBlock ≠ some b) ∧ Apart (.slice A7 (X.length + f.length) c7) v6 ∧ Apart v6 (.slice A4 n4 c4) ∧
          Keeps (fun b => (Value.slice A6 T.length c6).ownBlock = some b) w4 wr ∧ (∀ b, v6.ownBlock = some b → b < w4.heap.size → (Value.slice A6 T.length c6).ownBlock = some b)) (fun i _ _ => no - (intOf i).toNat)
        case atStart => exact ⟨0, T, A6, c6, Nat.zero_le _, rfl, by simp [lined], rfl, T4.out, PF.out, AP1.out, P2.out, Keeps.refl _ _, fun _ h _ => h⟩
        case round =>
          obtain ⟨j, T', A6', c6', hj, rfl, hT', rfl, i1, i2, i3, i4, i5, i6⟩ := hrel
          have li5 := LI.out.keeps i5 (fun b hb h => PF.out b hb h)
          have hll : (lined (gs.take j)).length ≤ (lined gs).length := by
            have e := lined_append (gs.take j) (gs.drop j)
            rw [List.take_append_drop] at e
            rw [e, List.length_append]
            omega
          have hT'l : T'.length ≤ 1048576 := by rw [hT', List.length_append]; omega
          have I1 := Lib.hid i1
          have I2 := Lib.hid i2
          have I3 := Lib.hid i3
          have I4 := Lib.hid i4
          have I5 := Lib.hid i5
          have I6 := Lib.hid i6
          have LI5 := Lib.hid li5
          have HT' := Lib.hid hT'
          clear i1 i2 i3 i4 i5 i6 li5 hT' hll
          by_cases hjn : j < no
          · obtain ⟨ad4, a4, p, rfl, hp, ha4, hc4, hr4, hps⟩ := LI5.out.lines.at_ hjn
            have hmay : mayF p := by
              have := Q1.out.2.2 p (List.mem_of_getElem? hp)
              exact this
            have hpk : packs p = packed p ∧ packE p = 0 := ⟨if_pos hmay, if_pos hmay⟩
            have hpl : (packed p).length ≤ 514 := by unfold packed; unfold mayF at hmay; simp; omega
            have hTn : (lined (gs.take (j + 1))) = lined (gs.take j) ++ packed p := by
              rw [List.take_add_one, hp, lined_append]
              simp [lined]
            have HP := Lib.hid hp
            have HR4 := Lib.hid hr4
            have HPK := Lib.hid hpk
            have HPL := Lib.hid hpl
            have HTN := Lib.hid hTn
            have hz5 := I5.out.size
            clear hp ha4 hr4 hps hmay hpk hTn hpl
            go_wp2_with (first
              | (go_at_call 10; refine (pack_any p a4.A a4.n a4.c _ HR4.out).mono ?_
                 rintro e w6 ⟨v, rfl, ho6, hb6⟩
                 rw [HPK.out.1] at ho6
                 rw [HPK.out.2]
                 obtain ⟨A8, c8, hv8, hr8⟩ := Own.val ho6 rfl
                 subst hv8
                 have o6 := I1.out.below hb6
                 have hz6 := hb6.size
                 have R8 := Lib.hid hr8
                 have O6 := Lib.hid o6
                 have B6 := Lib.hid hb6
                 clear ho6 hr8 o6 hb6)
              | (at_builtin; refine wp_append elem5 (by rfl) (.tmp 67) (.tmp 68) (by rfl) (w1.heap.size + 1) (.slice A6' T'.length c6') T' (packed p) A8 (packed p).length c8 rfl rfl O6.out R8.out (by have := HPL.out; omega) (by have := HPL.out; simp only [maxLen]; omega) (by omega) ?_
                 intro v9 w9 own9 gr9 at9
                 obtain ⟨A9, c9, hv9, _⟩ := Own.val own9 (n := T'.length + (packed p).length) List.length_append
                 rw [hv9]
                 rw [hv9] at own9 at9
                 have k9 : Keeps (fun b => (Value.slice A6 T.length c6).ownBlock = some b) w4 w9 := (I5.out.trans (Keeps.of_below B6.out) (fun _ _ h => h.elim)).grown gr9 (fun b hb hlt => I6.out b hb hlt)
                 have j2 : ∀ b, F b → (Value.slice A9 (T'.length + (packed p).length) c9).ownBlock ≠ some b := fun b hb h => by
                   rcases at9 with e | e
                   · exact I2.out b hb (by rw [← e]; exact h)
                   · rw [e] at h; injection h with h; have := (FH.out b hb).2.2.1; omega
                 have j3 : Apart (.slice A7 (X.length + f.length) c7) (.slice A9 (T'.length + (packed p).length) c9) := (Apart.grown I3.out.symm at9 (fun b hb => by have := A4'.out.lt hb; omega)).symm
                 have j4 : Apart (.slice A9 (T'.length + (packed p).length) c9) (.slice A4 n4 c4) := Apart.grown I4.out at9 (fun b hb => by have := W4.out.lt hb; omega)
                 have j6 : ∀ b, (Value.slice A9 (T'.length + (packed p).length) c9).ownBlock = some b → b < w4.heap.size → (Value.slice A6 T.length c6).ownBlock = some b := fun b hb hlt => by
                   rcases at9 with e | e
                   · exact I6.out b (by rw [← e]; exact hb) hlt
                   · rw [e] at hb; injection hb with hb; omega
                 have O9 := Lib.hid own9
                 have K9 := Lib.hid k9
                 have J2 := Lib.hid j2
                 have J3 := Lib.hid j3
                 have J4 := Lib.hid j4
                 have J6 := Lib.hid j6
                 clear own9 gr9 at9 hv9 k9 j2 j3 j4 j6))
            refine ⟨⟨j + 1, T' ++ packed p, A9, c9, by omega, by go_num, by rw [HT'.out, HTN.out, List.append_assoc], by rw [List.length_append], O9.out, J2.out, J3.out, J4.out, K9.out, J6.out⟩, by simp [intOf]; omega⟩
          · have hjj : j = no := by omega
            have hTT : T' = T ++ lined gs := by rw [HT'.out, hjj, List.take_of_length_le (by rw [NA.out]; exact Nat.le_refl _)]
            have hXf : X ++ f = T' ++ R := by rw [HPW.out, hTT, List.append_assoc, Q2.out, List.append_assoc]
            have hlen : X.length + f.length = T'.length + R.length := by
              have := congrArg List.length hXf
              simpa using this
            have hhold : Blk wr w1.heap.size 47 #[.slice A4 n4 c4] := G4.out.keeps I5.out (fun h => T4.out.blk_ne G4.out (by decide) h)
            have hrow : Own byte wr (w1.heap.size + 1) 5 (.slice A4 n4 c4) R := W4.out.keeps I5.out (fun b hb h => P2.out b h hb)
            have hall : Own byte wr (w1.heap.size + 1) 5 (.slice A7 (X.length + f.length) c7) (X ++ f) := A4'.out.keeps I5.out (fun b hb h => AP1.out b hb h)
            obtain ⟨_, _, e7, hra, _⟩ := hall.slice
            injection e7 with e71 e72 e73
            subst e71
            have htk : (X ++ f).take T'.length = T' := by rw [hXf, List.take_left]
            have hrt := hra.take (k := T'.length) (by rw [List.length_append]; omega)
            rw [htk] at hrt
            obtain ⟨_, _, e8, hr6, _⟩ := I1.out.slice
            injection e8 with e81 e82 e83
            subst e81
            have hTs : ∀ x ∈ T', x < 256 := by
              have hXs : ∀ x ∈ X ++ f, x < 256 := by
                intro x hx
                rcases List.mem_append.1 hx with h | h
                · rw [HX.out] at h
                  obtain ⟨l, hl, hx⟩ := List.mem_flatten.1 h
                  exact HL.out.small l (List.mem_of_mem_take hl) x hx
                · exact HFS.out x h
              intro x hx
              exact hXs x (by rw [hXf]; exact List.mem_append_left _ hx)
            have cv1 : ∀ q, (convert 22 9 (.slice A7 T'.length c7)).run Try.prog (wr.drewN q) = .ok (.string (strB T')) (wr.drewN q) := fun q => (hrt.drewN q).str c7 22 5 9 Try.underlying22 Try.underlying5 Try.underlying9
            have cv2 : ∀ q, (convert 22 9 (.slice A6' T'.length c6')).run Try.prog (wr.drewN q) = .ok (.string (strB T')) (wr.drewN q) := fun q => (hr6.drewN q).str c6' 22 5 9 Try.underlying22 Try.underlying5 Try.underlying9
            have hn4 : n4 = R.length := N4.out
            have hR5 := Q1.out.2.1
            have hle7 : X.length + f.length ≤ c7 := by
              have := hall.slice
              obtain ⟨_, _, e, _, hle⟩ := this
              injection e with e1 e2 e3
              rw [List.length_append, ← e3] at hle
              exact hle
            have hA7 : A7 = none → X.length + f.length = 0 ∧ c7 = 0 := by
              rintro rfl
              rcases hall.2 with ⟨e, h0⟩ | ⟨_, _, _, e, _⟩
              · injection e with _ e1 e2; exact ⟨e1, e2⟩
              · cases e
            have HH := Lib.hid (held_any w1.heap.size n4 c4 A4 wr hhold)
            have below : Below w.heap.size w wr := Below.keep B4.out I5.out B4.out.size (fun b hb h => by have := T4.out.base_le h; omega)
            have HOLD := Lib.hid hhold
            have ROW := Lib.hid hrow
            have ALL := Lib.hid hall
            have BEL := Lib.hid below
            have HXF := Lib.hid hXf
            have HTT' := Lib.hid hTT
            have w1' : IntKind.i64.wrap ((T'.length : Int) + (n4 : Int)) = (T'.length : Int) + (n4 : Int) := IntWalk.i64_in _ (by omega)
            have t1 : ((T'.length : Int) + (n4 : Int) != (X.length : Int) + (f.length : Int)) = false := by simp; omega
            have b1 : T'.length ≤ c7 := by omega
            have d1 : decide ((n4 : Int) < 0) = false := by simp
            have d2 : decide ((514 : Int) ≤ (n4 : Int)) = false := by simp; omega
            have HN4 := Lib.hid hn4
            have HLEN := Lib.hid hlen
            clear e72 e73 e82 e83 hlen hhold hrow hall hra htk hrt hr6 hTs below hXf hTT hn4 hcw3
            have fin : ∀ (q : Nat) (w10 : World), w10 = wr → HMid w1.heap.size fs w (w10.drewN q) (k + 1) (.slice A7 (X.length + f.length) c7) (.slice A6' T'.length c6') A4 n4 c4 := by
              rintro q w10 rfl
              have e1 : lined (parse (X ++ f)).1 = T' := by rw [HPX.out, lined_append, ← HTT.out, ← HGS.out, ← HTT'.out]
              have e2 : (parse (X ++ f)).2.2 = R := by rw [HPX.out, ← HRS.out]
              refine ⟨?_, ?_, ?_, HOLD.out.drewN q, ?_, I3.out, P1.out, I4.out, Below.keep BEL.out ((Keeps.refl (fun _ => False) _).drewN q) BEL.out.size (fun _ _ h => h)⟩
              · rw [HFK.out]; exact ALL.out.drewN q
              · rw [HFK.out, e1]; exact I1.out.drewN q
              · rw [HFK.out, HPX.out]; exact HER.out.symm
              · rw [HFK.out, e2]; exact ROW.out.drewN q
            have FIN := Lib.hid fin
            clear fin
            rcases A7 with _ | ad7
            · obtain ⟨h1, h2⟩ := hA7 rfl
              have hT0 : T' = [] := List.eq_nil_of_length_eq_zero (by have := HLEN.out; omega)
              clear hA7
              subst h2
              subst hT0
              simp only [List.length_nil] at cv1 cv2 FIN ⊢
              have hn0 : n4 = 0 := by have := HN4.out; have := HLEN.out; simp at this; omega
              subst hn0
              rw [h1] at FIN
              clear t1 w1' d1 d2
              go_wp2_with (first
                | (go_at_call 15; refine HH.out.mono ?_
                   rintro e w10 ⟨rfl, hw10⟩
                   subst hw10))
              go_quiet (fail)
              go_wp2_with fail
              refine ⟨⟨k + 1, A4, 0, c4, by omega, by go_num, FIN.out _ _ rfl⟩, by simp [intOf]; omega⟩
            · clear hA7
              go_wp2_with (first
                | (go_at_call 15; refine HH.out.mono ?_
                   rintro e w10 ⟨rfl, hw10⟩
                   subst hw10))
              go_quiet (fail)
              go_wp2_with fail
              refine ⟨⟨k + 1, A4, n4, c4, by omega, by go_num, FIN.out _ _ rfl⟩, by simp [intOf]; omega⟩
    · have hbel := mid.below
      have BEL := Lib.hid hbel
      clear hbel mid
      rcases (show ¬ k < n ∨ (k < n ∧ ¬ k < 60) by omega) with h | ⟨h, h'⟩
      all_goals
        go_wp2_with fail
        go_ret
        exact ⟨rfl, BEL.out⟩
end Go.Proofs.Ytaccdbiajcnlaaa
