/- The document's desk: walked. -/
import Derived.Test.YtpkmdhplbpejhaaW4
namespace Go.Proofs.Ytpkmdhplbpejhaa
open Go.RowKit Mem
structure H3 where
  member : Int
  sum : Int
  pan : ByteArray
def had3 : Enc H3 where
  enc := fun h => [.int .i64 h.member, .int .i64 h.sum, .string h.pan]
  size := 3
  len := fun _ => rfl
  one := fun x u h => by
    simp at h
    rcases h with rfl | rfl | rfl <;> rfl
  pos := by decide
theorem elem59 : Elem Try.prog 54 59 had3 32 := Elem.of Try.underlying54 (z := .agg #[.int .i64 0, .int .i64 0, .string ⟨#[]⟩]) (by kernel_rfl) rfl
/-- What the row says of a card. -/
def look (L : List H3) (i : Int) (s : ByteArray) : Int := match L.find? (fun h => decide (h.member = i ∧ h.pan = s)) with
  | some h => h.sum
  | none => 0
/-- The row with a card's sum anew. -/
def put3 (L : List H3) (i : Int) (s : ByteArray) (v : Int) : List H3 := ⟨i, v, s⟩ :: L.filter (fun h => !decide (h.member = i ∧ h.pan = s))
theorem look_put (L : List H3) (i : Int) (s : ByteArray) (v : Int) : look (put3 L i s v) = upd (look L) i s v := by
  funext j t
  unfold upd
  by_cases h : j = i ∧ t = s
  · rw [if_pos h]
    unfold look put3
    rw [List.find?_cons_of_pos (by simp [h.1, h.2])]
  · rw [if_neg h]
    unfold look put3
    rw [List.find?_cons_of_neg (by simp; intro h1 h2; exact h ⟨h1.symm, h2.symm⟩)]
    have : ∀ L : List H3, (L.filter (fun h => !decide (h.member = i ∧ h.pan = s))).find? (fun h => decide (h.member = j ∧ h.pan = t)) = L.find? (fun h => decide (h.member = j ∧ h.pan = t)) := by
      intro L
      induction L with
      | nil => rfl
      | cons a L ih =>
        by_cases ha : a.member = i ∧ a.pan = s
        · rw [List.filter_cons_of_neg (by simp [ha.1, ha.2]), List.find?_cons_of_neg (by simp [ha.1, ha.2]; intro h1 h2; exact h ⟨h1.symm, h2.symm⟩)]
          exact ih
        · rw [List.filter_cons_of_pos (by rw [decide_eq_false ha]; rfl)]
          by_cases hb : a.member = j ∧ a.pan = t
          · rw [List.find?_cons_of_pos (by simp [hb.1, hb.2]), List.find?_cons_of_pos (by simp [hb.1, hb.2])]
          · rw [List.find?_cons_of_neg (by rw [decide_eq_true_eq]; exact hb), List.find?_cons_of_neg (by rw [decide_eq_true_eq]; exact hb)]
            exact ih
    rw [this L]
/-- The document's desk. -/
structure RD (w : World) (g : Nat) (A : Option Addr) (n c : Nat) (ls : List (Int × Int)) (AL : Option Addr) (nL cL : Nat) (L : List H3) : Prop where
  box : Blk w g 56 #[.slice A n c, .slice AL nL cL]
  lim : Own stand w 0 35 (.slice A n c) ls
  row : Own had3 w 0 59 (.slice AL nL cL) L
  had : ∀ i s, 0 ≤ look L i s ∧ look L i s ≤ 999999999999
  good : ∀ p ∈ ls, 0 ≤ p.1 ∧ p.1 ≤ 999999999999 ∧ 0 ≤ p.2 ∧ p.2 ≤ 999999999999
  few : n ≤ 6
section
variable {w w' : World} {g : Nat} {A : Option Addr} {n c : Nat} {ls : List (Int × Int)} {AL : Option Addr} {nL cL : Nat} {L : List H3} {S : Nat → Prop}
theorem RD.keeps (h : RD w g A n c ls AL nL cL L) (K : Keeps S w w') (h1 : ¬ S g) (h2 : ∀ k, (Value.slice A n c).ownBlock = some k → ¬ S k) (h3 : ∀ k, (Value.slice AL nL cL).ownBlock = some k → ¬ S k) : RD w' g A n c ls AL nL cL L :=
  ⟨h.box.keeps K h1, h.lim.keeps K h2, h.row.keeps K h3, h.had, h.good, h.few⟩
theorem RD.keep (h : RD w g A n c ls AL nL cL L) (K : Keeps (fun _ => False) w w') : RD w' g A n c ls AL nL cL L := h.keeps K (fun h => h) (fun _ _ h => h) (fun _ _ h => h)
theorem RD.keepg (h : RD w g A n c ls AL nL cL L) {g' : Nat} {cs : Array Value} (hb : Blk w g' 56 cs) (hne : g ≠ g') (K : Keeps (fun b => b = g') w w') : RD w' g A n c ls AL nL cL L :=
  h.keeps K hne (fun k hk e => by subst e; exact h.lim.blk_ne hb (by decide) hk) (fun k hk e => by subst e; exact h.row.blk_ne hb (by decide) hk)
end
theorem look_some {L : List H3} {k : Nat} {h : H3} {i : Int} {s : ByteArray} (hk : L[k]? = some h) (hm : h.member = i ∧ h.pan = s) (hn : ∀ x ∈ L.take k, ¬ (x.member = i ∧ x.pan = s)) : look L i s = h.sum := by
  have e : L = L.take k ++ h :: L.drop (k + 1) := by
    have hl := (List.getElem?_eq_some_iff.1 hk)
    obtain ⟨hl, e⟩ := hl
    rw [← e]
    exact (List.take_append_drop k L).symm.trans (by rw [List.drop_eq_getElem_cons hl])
  unfold look
  rw [e, List.find?_append, List.find?_eq_none.2 (fun x hx => by simpa using hn x hx), List.find?_cons_of_pos (by simp [hm.1, hm.2])]
  rfl
theorem look_none {L : List H3} {i : Int} {s : ByteArray} (hn : ∀ x ∈ L, ¬ (x.member = i ∧ x.pan = s)) : look L i s = 0 := by
  unfold look
  rw [List.find?_eq_none.2 (fun x hx => by simpa using hn x hx)]
theorem pan_ne {s t : ByteArray} (h : s ≠ t) : (s.toList == t.toList) = false := beq_false_of_ne fun e => h (by rw [ByteArray.toList_eq, ByteArray.toList_eq] at e; exact ByteArray.ext (Array.toList_inj.1 e))
set_option maxHeartbeats 1600000 in
theorem refHad_any {w : World} {g : Nat} {A : Option Addr} {n c : Nat} {ls : List (Int × Int)} {AL : Option Addr} {nL cL : Nat} {L : List H3} (d : RD w g A n c ls AL nL cL L) (i : Int) (s : ByteArray) (hL : nL ≤ 1000000) :
    Calls Try.prog 17 #[.pointer (some ⟨g, 0, none⟩), .int .i64 i, .string s] w fun e w' => e = .returned (.int .i64 (look L i s)) ∧ w' = w := by
  have hl : L.length = nL := d.row.len_eq rfl
  have c1 := d.box.cell 1
  simp at c1
  obtain ⟨_, _, er, hr, _⟩ := d.row.slice
  injection er with er1 er2 er3
  rw [← er1, ← er2] at hr
  have HL := Lib.hid hl
  have HR := Lib.hid hr
  clear d hl er1 er2 er3 hr
  go_enter Try.func17, Try.ntmps17
  go_wp2_with fail
  go_loopw [7] (fun v wr => ∃ k : Nat, k ≤ nL ∧ v = .int .i64 k ∧ wr = w ∧ ∀ x ∈ L.take k, ¬ (x.member = i ∧ x.pan = s)) (fun v _ => nL - (intOf v).toNat)
  case atStart => exact ⟨0, Nat.zero_le _, rfl, rfl, by simp⟩
  case round =>
    obtain ⟨k, hk, rfl, rfl, hn⟩ := hrel
    have HN := Lib.hid hn
    clear hn
    by_cases hkn : k < nL
    · obtain ⟨h, hh⟩ : ∃ h, L[k]? = some h := ⟨_, List.getElem?_eq_getElem (by rw [HL.out]; exact hkn)⟩
      obtain ⟨ad, hA, hc⟩ := HR.out.at_ hh
      subst hA
      have q0 := hc 0 _ rfl
      have q1 := hc 1 _ rfl
      have q2 := hc 2 _ rfl
      simp [had3] at q0 q1 q2
      rw [← add_add, add_pos _ (by decide : 0 < 1)] at q1
      rw [← add_add, add_pos _ (by decide : 0 < 2)] at q2
      have HH := Lib.hid hh
      clear hc hh
      by_cases hm : h.member = i
      · by_cases hp : h.pan = s
        · have e := look_some HH.out ⟨hm, hp⟩ HN.out
          have t1 : (h.member == i) = true := by simpa using hm
          have t2 : (h.pan.toList == s.toList) = true := by rw [hp]; simp
          have E := Lib.hid e
          clear hm hp e
          go_wp2_with fail
          go_ret
          rw [E.out]
          exact ⟨rfl, rfl⟩
        · have t1 : (h.member == i) = true := by simpa using hm
          have t2 := pan_ne hp
          have HP := Lib.hid hp
          clear hm hp
          go_wp2_with fail
          refine ⟨⟨k + 1, by omega, by go_num, by first | rfl | trivial, fun x hx => ?_⟩, by simp [intOf]; omega⟩
          rw [List.take_add_one, HH.out] at hx
          simp at hx
          rcases hx with hx | rfl
          · exact HN.out x hx
          · exact fun e => HP.out e.2
      · have t1 : (h.member == i) = false := by simpa using hm
        have HM := Lib.hid hm
        clear hm
        go_wp2_with fail
        refine ⟨⟨k + 1, by omega, by go_num, by first | rfl | trivial, fun x hx => ?_⟩, by simp [intOf]; omega⟩
        rw [List.take_add_one, HH.out] at hx
        simp at hx
        rcases hx with hx | rfl
        · exact HN.out x hx
        · exact fun e => HM.out e.1
    · have e : look L i s = 0 := look_none (by have := HN.out; rwa [List.take_of_length_le (by rw [HL.out]; omega)] at this)
      have E := Lib.hid e
      clear e
      go_wp2_with fail
      go_ret
      rw [E.out]
      exact ⟨rfl, rfl⟩
theorem refReset_any {w : World} {g : Nat} {A : Option Addr} {n c : Nat} {ls : List (Int × Int)} {AL : Option Addr} {nL cL : Nat} {L : List H3} (d : RD w g A n c ls AL nL cL L) :
    Calls Try.prog 15 #[.pointer (some ⟨g, 0, none⟩)] w fun e w' => e = .returned (.tuple #[]) ∧ RD w' g A n c ls none 0 0 [] ∧ Keeps (fun b => b = g) w w' := by
  have c1 := d.box.cell 1
  have f1 := d.box.frozen 1
  simp at c1
  have D := Lib.hid d
  clear d
  go_enter Try.func15, Try.ntmps15
  go_wp2_with fail
  go_end0
  refine ⟨rfl, ⟨?_, D.out.lim.setCell _ _ (fun k hk e => by subst e; exact D.out.lim.blk_ne D.out.box (by decide) hk), Own.nil _ _ _ _, (fun _ _ => by simp [look]), D.out.good, D.out.few⟩, (Keeps.refl _ w).setCell _ _ (fun _ => rfl)⟩
  exact D.out.box.set 1 _
theorem refClone_any {w : World} {g : Nat} {A : Option Addr} {n c : Nat} {ls : List (Int × Int)} {AL : Option Addr} {nL cL : Nat} {L : List H3} (d : RD w g A n c ls AL nL cL L) :
    Calls Try.prog 14 #[.pointer (some ⟨g, 0, none⟩)] w fun e w' => e = .returned (.pointer (some ⟨w.heap.size, 0, none⟩)) ∧ RD w' w.heap.size A n c ls AL nL cL L ∧ Keeps (fun _ => False) w w' := by
  have c0 := d.box.cell 0
  have c1 := d.box.cell 1
  simp at c0 c1
  have D := Lib.hid d
  clear d
  go_enter Try.func14, Try.ntmps14
  go_wp2_with fail
  go_region
  all_goals
    go_wp2_with fail
    go_ret
    have kk : Keeps (fun _ => False) w ((w.drew).alloc (.cells #[.slice A n c, .slice AL nL cL] 56)) := (Keeps.refl _ w).drew.alloc _
    exact ⟨rfl, ⟨Blk.new w.drew 56 _ _ rfl, D.out.lim.keeps kk (fun _ _ h => h), D.out.row.keeps kk (fun _ _ h => h), D.out.had, D.out.good, D.out.few⟩, kk⟩
/-- The row behind an asking. -/
def askL (ls : List (Int × Int)) (L : List H3) (i : Int) (s : ByteArray) (a : Int) : List H3 := if askE ls (look L) i s a = 0 then put3 L i s (look L i s + a) else L
theorem askL_no {ls : List (Int × Int)} {L : List H3} {i : Int} {s : ByteArray} {a : Int} (h : askE ls (look L) i s a ≠ 0) : askL ls L i s a = L := if_neg h
theorem askL_yes {ls : List (Int × Int)} {L : List H3} {i : Int} {s : ByteArray} {a : Int} (h : askE ls (look L) i s a = 0) : askL ls L i s a = put3 L i s (look L i s + a) := if_pos h
theorem look_ask (ls : List (Int × Int)) (L : List H3) (i : Int) (s : ByteArray) (a : Int) : look (askL ls L i s a) = askM ls (look L) i s a := by
  by_cases h : askE ls (look L) i s a = 0
  · rw [askL_yes h, askM_yes h, look_put]
  · rw [askL_no h, askM_no h]
theorem filter_succ {α : Type} {p : α → Bool} {L : List α} {k : Nat} {h : α} (hk : L[k]? = some h) : (L.take (k + 1)).filter p = (L.take k).filter p ++ if p h then [h] else [] := by
  rw [List.take_add_one, hk, List.filter_append]
  congr 1
  by_cases e : p h = true
  · simp [e]
  · simp [e]
/-- A desk whose row is at most so long. -/
def RDup (w : World) (g : Nat) (A : Option Addr) (n c : Nat) (ls : List (Int × Int)) (N : Nat) (L : List H3) : Prop := ∃ AL nL cL, nL ≤ N ∧ RD w g A n c ls AL nL cL L
set_option maxHeartbeats 3200000 in
theorem refAsk_any {w : World} {g : Nat} {A : Option Addr} {n c : Nat} {ls : List (Int × Int)} {AL : Option Addr} {nL cL : Nat} {L : List H3} (d : RD w g A n c ls AL nL cL L) (i : Int) (s : ByteArray) (a : Int) (hi : isInt i) (ha : isInt a) (hL : nL ≤ 100000) :
    Calls Try.prog 16 #[.pointer (some ⟨g, 0, none⟩), .int .i64 i, .string s, .int .i64 a] w fun e w' => e = .returned (.int .i64 (askE ls (look L) i s a)) ∧ RDup w' g A n c ls (nL + 1) (askL ls L i s a) ∧ Keeps (fun b => b = g) w w' := by
  have hn : ls.length = n := d.lim.len_eq rfl
  have hl : L.length = nL := d.row.len_eq rfl
  have D := Lib.hid d
  have HN := Lib.hid hn
  have HL := Lib.hid hl
  have hf := d.few
  have c0 := d.box.cell 0
  have c1 := d.box.cell 1
  have f1 := d.box.frozen 1
  simp at c0 c1
  have ha' := ha
  unfold isInt at ha'
  clear hn hl
  by_cases h1 : i < 0 ∨ (n : Int) ≤ i
  · have e : askE ls (look L) i s a = 130 := if_pos (by rw [HN.out]; exact h1)
    rw [askL_no (by rw [e]; decide), e]
    clear d
    rcases (show i < 0 ∨ (¬ i < 0 ∧ (n : Int) ≤ i) by omega) with h | ⟨h, h'⟩
    all_goals
      go_enter Try.func16, Try.ntmps16
      go_wp2_with fail
      go_ret
      exact ⟨rfl, ⟨_, _, _, Nat.le_succ _, D.out⟩, Keeps.refl _ _⟩
  · by_cases h2 : 0 ≤ a ∧ a ≤ 999999999999
    · obtain ⟨j, rfl⟩ := Int.eq_ofNat_of_zero_le (show 0 ≤ i by omega)
      have hj : j < n := by omega
      obtain ⟨p, hp⟩ : ∃ p, ls[j]? = some p := ⟨_, List.getElem?_eq_getElem (by rw [HN.out]; exact hj)⟩
      obtain ⟨_, _, e1, hr1, _⟩ := d.lim.slice
      injection e1 with e11 e12 e13
      rw [← e11, ← e12] at hr1
      obtain ⟨ad, hA, hc⟩ := hr1.at_ hp
      subst hA
      have p0 := hc 0 _ rfl
      have p1 := hc 1 _ rfl
      simp [stand] at p0 p1
      rw [← add_add, add_pos _ (by decide : 0 < 1)] at p1
      have hM := d.had j s
      have hgp : ls.getD j (0, 0) = p := by rw [List.getD_eq_getElem?_getD, hp]; rfl
      have e : askE ls (look L) j s a = if p.1 < a ∨ p.2 < look L j s + a then 150 else 0 := by
        unfold askE
        rw [if_neg (by rw [HN.out]; omega), if_neg (by omega)]
        simp only [Int.toNat_natCast, hgp]
      have E := Lib.hid e
      obtain ⟨x, hx⟩ : ∃ x, x = look L j s := ⟨_, rfl⟩
      have HX := Lib.hid hx
      rw [← hx] at hM
      have hgd := d.good p (List.mem_of_getElem? hp)
      clear d hc hp e e11 e12 e13 hr1 hgp hx
      rcases (show p.1 < a ∨ (¬ p.1 < a ∧ p.2 < x + a) ∨ (¬ p.1 < a ∧ ¬ p.2 < x + a) by omega) with h3 | ⟨h3, h4⟩ | ⟨h3, h4⟩
      · have e := E.out
        rw [if_pos (.inl h3)] at e
        rw [askL_no (by rw [e]; decide), e]
        clear e
        go_enter Try.func16, Try.ntmps16
        go_wp2_with (go_at_call 17; refine (refHad_any D.out (j : Int) s (by omega)).mono ?_
                     rintro e w1 ⟨rfl, hw1⟩
                     rw [← HX.out]
                     subst hw1)
        go_ret
        exact ⟨rfl, ⟨_, _, _, Nat.le_succ _, D.out⟩, Keeps.refl _ _⟩
      · have e := E.out
        rw [if_pos (.inr (by rw [← HX.out]; exact h4))] at e
        rw [askL_no (by rw [e]; decide), e]
        clear e
        go_enter Try.func16, Try.ntmps16
        go_wp2_with (go_at_call 17; refine (refHad_any D.out (j : Int) s (by omega)).mono ?_
                     rintro e w1 ⟨rfl, hw1⟩
                     rw [← HX.out]
                     subst hw1)
        go_ret
        exact ⟨rfl, ⟨_, _, _, Nat.le_succ _, D.out⟩, Keeps.refl _ _⟩
      · have e := E.out
        rw [if_neg (by rw [← HX.out]; omega)] at e
        rw [askL_yes e, e, ← HX.out]
        clear e
        obtain ⟨pr, hpr⟩ : ∃ pr : H3 → Bool, pr = (fun h => !decide (h.member = (j : Int) ∧ h.pan = s)) := ⟨_, rfl⟩
        have HPR := Lib.hid hpr
        have hput : put3 L j s (x + a) = ⟨j, x + a, s⟩ :: L.filter pr := by rw [hpr]; rfl
        rw [hput]
        clear hpr hput
        go_enter Try.func16, Try.ntmps16
        go_wp2_with (go_at_call 17; refine (refHad_any D.out (j : Int) s (by omega)).mono ?_
                     rintro e w1 ⟨rfl, hw1⟩
                     rw [← HX.out]
                     subst hw1)
        go_loopw [11, 10] (fun v l wr => ∃ (k : Nat) (A2 : Option Addr) (n2 c2 : Nat), k ≤ nL ∧ v = .int .i64 k ∧ l = .slice A2 n2 c2 ∧ Own had3 wr w1.heap.size 59 (.slice A2 n2 c2) (⟨j, x + a, s⟩ :: (L.take k).filter pr) ∧ Keeps (fun _ => False) w1 wr) (fun v _ _ => nL - (intOf v).toNat)
        case atStart => exact ⟨0, _, _, _, Nat.zero_le _, rfl, rfl, Own.new w1 w1.heap.size 59 _ _ rfl _ rfl (Nat.le_refl _) 1 rfl (by unfold maxLen; omega), (Keeps.refl _ _).alloc _⟩
        case round =>
          obtain ⟨k, A2, n2, c2, hk, rfl, rfl, ho, kk⟩ := hrel
          have d1 := D.out.keep kk
          have c0' := d1.box.cell 0
          have c1' := d1.box.cell 1
          have f1' := d1.box.frozen 1
          simp at c0' c1'
          have D1 := Lib.hid d1
          have hlen := ho.len_eq rfl
          have hfl : ((L.take k).filter pr).length ≤ k := Nat.le_trans (List.length_filter_le _ _) (by rw [List.length_take]; omega)
          have hn2 : n2 ≤ k + 1 := by rw [← hlen]; simp; omega
          have HO := Lib.hid ho
          have KK := Lib.hid kk
          have HLN := Lib.hid hlen
          have HFL := Lib.hid hfl
          clear ho kk hlen hfl
          by_cases hkn : k < nL
          · obtain ⟨h, hh⟩ : ∃ h, L[k]? = some h := ⟨_, List.getElem?_eq_getElem (by rw [HL.out]; exact hkn)⟩
            obtain ⟨_, _, er, hr, _⟩ := d1.row.slice
            injection er with er1 er2 er3
            rw [← er1, ← er2] at hr
            obtain ⟨adL, hA, hc⟩ := hr.at_ hh
            subst hA
            have q0 := hc 0 _ rfl
            have q1 := hc 1 _ rfl
            have q2 := hc 2 _ rfl
            simp [had3] at q0 q1 q2
            rw [← add_add, add_pos _ (by decide : 0 < 1)] at q1
            rw [← add_add, add_pos _ (by decide : 0 < 2)] at q2
            have hfs := filter_succ (p := pr) hh
            have HFS := Lib.hid hfs
            clear hc hh er1 er2 er3 hr d1 hfs
            by_cases hm : h.member = j ∧ h.pan = s
            · have t1 : (h.member == (j : Int)) = true := by simpa using hm.1
              have t1' : (h.member != (j : Int)) = false := by simpa using hm.1
              have t2 : (h.pan.toList == s.toList) = true := by rw [hm.2]; simp
              have t2' : (h.pan.toList != s.toList) = false := by rw [hm.2]; simp
              have hpf : pr h = false := by rw [HPR.out]; simp [hm.1, hm.2]
              have HPF := Lib.hid hpf
              clear hm hpf
              go_wp2_with fail
              refine ⟨⟨k + 1, _, _, _, by omega, by go_num, rfl, ?_, KK.out⟩, by simp [intOf]; omega⟩
              rw [HFS.out, HPF.out]
              simpa using HO.out
            · have hpf : pr h = true := by rw [HPR.out]; show (!decide _) = true; rw [decide_eq_false hm]; rfl
              have HPF := Lib.hid hpf
              have hcase : (h.member != (j : Int)) = true ∨ ((h.member != (j : Int)) = false ∧ (h.pan.toList == s.toList) = false) := by
                by_cases e : h.member = j
                · right
                  exact ⟨by simpa using e, pan_ne (fun e' => hm ⟨e, e'⟩)⟩
                · left; simpa using e
              clear hm hpf
              rcases hcase with t1 | ⟨t1, t2⟩
              all_goals
                go_wp2_with (at_builtin; refine wp_append elem59 (by rfl) (.tmp 93) (.tmp 101) (by rfl) w1.heap.size (.slice A2 n2 c2) (⟨j, x + a, s⟩ :: (L.take k).filter pr) [h] (some ⟨wr.heap.size, 0, none⟩) 1 1 rfl rfl (HO.out.alloc _) ((Blk.new wr 59 #[.int .i64 h.member, .int .i64 h.sum, .string h.pan] _ rfl).reads [h] rfl rfl) (by have := HFL.out; simp; omega) (by have := HFL.out; simp [maxLen]; omega) (by have := KK.out.size; simp; omega) ?_
                             intro v5 w5 own5 gr5 at5
                             obtain ⟨A5, c5, hv5, _⟩ := Own.val own5 rfl
                             rw [hv5]
                             rw [hv5] at own5
                             have O5 := Lib.hid own5
                             have k5 : Keeps (fun _ => False) w1 w5 := (KK.out.trans (((Keeps.refl (fun b => (Value.slice A2 n2 c2).ownBlock = some b) wr).alloc _).grown gr5 (fun b hb _ => hb)) (fun b hb h => by have := HO.out.base_le h; omega))
                             have K5 := Lib.hid k5
                             clear own5 gr5 at5 hv5 k5)
                refine ⟨⟨k + 1, _, _, _, by omega, by go_num, rfl, ?_, K5.out⟩, by simp [intOf]; omega⟩
                rw [HFS.out, HPF.out]
                simpa using O5.out
          · have hkk : L.take k = L := List.take_of_length_le (by rw [HL.out]; omega)
            have HKK := Lib.hid hkk
            clear hkk d1
            go_wp2_with fail
            go_ret
            have ho := HO.out
            rw [HKK.out] at ho
            have k6 : Keeps (fun b => b = g) w1 (wr.setCell ⟨g, 1, none⟩ (.slice A2 n2 c2)) := (KK.out.mono (fun _ _ h => h.elim)).setCell _ _ (fun _ => rfl)
            refine ⟨rfl, ⟨A2, n2, c2, by omega, ⟨?_, D1.out.lim.setCell _ _ (fun q hq e => by subst e; exact D1.out.lim.blk_ne D1.out.box (by decide) hq), (ho.setCell _ _ (fun q hq e => by subst e; exact ho.blk_ne D1.out.box (by decide) hq)).rebase 0 (fun _ _ => Nat.zero_le _), fun i' s' => ?_, D1.out.good, D1.out.few⟩⟩, k6⟩
            · exact D1.out.box.set 1 _
            · have hlp := look_put L j s (x + a)
              unfold put3 at hlp
              rw [← HPR.out] at hlp
              rw [hlp]
              unfold upd
              split
              · omega
              · exact D1.out.had i' s'
    · have e : askE ls (look L) i s a = 100 := by
        unfold askE
        rw [if_neg (by rw [HN.out]; exact h1), if_pos h2]
      rw [askL_no (by rw [e]; decide), e]
      clear d
      rcases (show a < 0 ∨ (¬ a < 0 ∧ 999999999999 < a) by omega) with h | ⟨h, h'⟩
      all_goals
        clear h2
        go_enter Try.func16, Try.ntmps16
        go_wp2_with fail
        go_ret
        exact ⟨rfl, ⟨_, _, _, Nat.le_succ _, D.out⟩, Keeps.refl _ _⟩
end Go.Proofs.Ytpkmdhplbpejhaa
