/- The first one taken away: walked. -/
import Derived.Test.YtfidhnplaieacaaW6
namespace Go.Proofs.Ytfidhnplaieacaa
open Go.RowKit Mem
theorem wp_shift {α : Type} {E : Enc α} {P : Program} {t e : TypeId} {bytes : Nat} (T : Elem P t e E bytes) {ops : Array Oper} {rest : List Oper} {o : Oper} {a : Act} {Q : Exit → Act → World → Prop} {w : World} (hw : Region.wanted o (yielded ops a.tmps) = true) (s x : Operand)
    (ho : o.op = .call { callee := .builtin .append, args := #[s, x], argTypes := #[t, t] }) (base g n c : Nat) (y : α) (l : List α) (A : Option Addr) (c' : Nat) (hs : a.eval s = .slice (some ⟨g, 0, none⟩) 0 c) (hx : a.eval x = .slice A n c')
    (hown : Own E w base e (.slice (some ⟨g, 0, none⟩) (n + 1) c) (y :: l)) (hA : 0 < n → A = some ⟨g, E.size, none⟩) (hA0 : A ≠ none)
    (h : ∀ w' z, Own E w' base e (.slice (some ⟨g, 0, none⟩) (n + 1) c) (l ++ [z]) → Keeps (fun b => b = g) w w' → wpList P ops Q rest (a.put o.dst (.slice (some ⟨g, 0, none⟩) n c)) w') :
    wpList P ops Q (o :: rest) a w := by
  refine BigFrame.wpList_want hw fun K hK => ?_
  obtain ⟨w', hr, ⟨z, h1⟩, h2⟩ := run_shift T w base g n c y l hown A c' hA hA0 o.type
  unfold Oper.wp execOp
  simp only [ho, resolve, invoke, builtin, Sem.run_bind, Sem.run_pure, Result.andThen_ok, List.map_toArray, List.map_cons, List.map_nil, hs, hx, hr]
  exact hK _ _ (h w' z h1 h2)
set_option maxHeartbeats 1600000 in
theorem delete_any (w : World) (base b n c : Nat) (x : AD) (l : List AD) (hown : Own adv w base 59 (.slice (some ⟨b, 0, none⟩) (n + 1) c) (x :: l)) (hn : n ≤ 100) :
    Calls Try.prog 32 #[.slice (some ⟨b, 0, none⟩) (n + 1) c, .int .i64 0, .int .i64 1] w fun e w' => e = .returned (.slice (some ⟨b, 0, none⟩) n c) ∧ Own adv w' base 59 (.slice (some ⟨b, 0, none⟩) n c) l ∧ Keeps (fun k => k = b) w w' := by
  have hl : (x :: l).length = n + 1 := hown.len_eq rfl
  obtain ⟨_, c6, hv6, _, hb6l, hc⟩ := hown.form (by simp)
  injection hv6 with hA6 hn6 hc6
  rw [← hc6, hl] at hc
  have HO := Lib.hid hown
  clear hA6 hn6 hc6 hown hl
  have h1 : (1 : Int) ≤ ((n + 1 : Nat) : Int) := by omega
  have h2 : (1 : Int) ≤ (n : Int) + 1 := by omega
  have h3 : ((n : Int) + 1) ≤ (c : Int) := by omega
  have h4 : 1 ≤ c := by omega
  have el := elem59
  go_enter Try.func32, Try.ntmps32
  go_upto_region 5 with fail
  go_still_tail 6, (by kernel_rfl)
  change wpList _ _ _ _ _ w.drew
  refine wp_shift elem59 (by rfl) (.tmp 22) (.tmp 25) (by rfl) base b n c x l _ (c - 1) rfl rfl (HO.out.drew) (fun h => by rw [if_neg (by omega)]; rfl) (by split <;> simp) ?_
  intro w2 z o2 k2
  have k2' : Keeps (fun k => k = b) w w2 := ((Keeps.refl (fun k => k = b) w).drew).trans k2 (fun _ _ h => h)
  have O2 := Lib.hid o2
  have K2 := Lib.hid k2'
  clear o2 k2 k2'
  generalize (if c = 1 then some (⟨b, 0, none⟩ : Addr) else some ⟨b, 3, none⟩) = A25
  obtain ⟨w3, hr, o3, k3⟩ := run_clear_last elem59 (.agg #[.string ⟨#[]⟩, .int .i64 0, .slice none 0 0]) ⟨⟨#[]⟩, 0, none, 0, 0, []⟩ (fun w => by rfl) (by rfl) w2 base b n c (c - n) l z O2.out 0
  have O3 := Lib.hid o3
  have K3 := Lib.hid (K2.out.trans k3 (fun _ _ h => h))
  have hr' : (Builtin.clear_ #[54] 0 #[.slice (some ⟨b, n * 3, none⟩) 1 (c - n)]).run Try.prog w2 = .ok (.tuple #[]) w3 := hr
  clear o3 k3 hr
  go_wp2_with fail
  go_ret
  exact ⟨rfl, O3.out, K3.out⟩
section
variable {w : World} {g most : Nat} {A : Option Addr} {n c : Nat} {way : Bool} {l : List AD}
set_option maxHeartbeats 1600000 in
theorem done_off (d : QS w g most A n c false l) (s : ByteArray) :
    Calls Try.prog 13 #[.pointer (some ⟨g, 0, none⟩), .string s] w fun e w' => e = .returned (.bool false) ∧ w' = w := by
  have c2 := d.box.cell 2
  simp at c2
  clear d
  go_enter Try.func13, Try.ntmps13
  go_wp2_with fail
  go_ret
  exact ⟨rfl, rfl⟩
set_option maxHeartbeats 1600000 in
theorem done_not (d : QS w g most A n c true l) {a : AD} {l' : List AD} (hl : l = a :: l') (s : ByteArray) (hs : (a.name.toList == s.toList) = false) :
    Calls Try.prog 13 #[.pointer (some ⟨g, 0, none⟩), .string s] w fun e w' => e = .returned (.bool false) ∧ w' = w := by
  have c1 := d.box.cell 1
  have c2 := d.box.cell 2
  have hl0 : l[0]? = some a := by rw [hl]; rfl
  obtain ⟨b6, c6, hv6, _, hb6l, _⟩ := d.row.form (by rw [hl]; simp)
  injection hv6 with hA6 hn6 hc6
  have hn0 : 0 < n := by rw [hn6, hl]; simp
  subst hA6
  have t2 : (0 : Int) < n := by omega
  have q0 := d.row.at_ hl0 (j := 0) rfl
  simp [adv] at c1 c2 q0
  have el := elem59
  clear d hl0 hl hb6l hn6 hc6
  go_enter Try.func13, Try.ntmps13
  go_wp2_with fail
  go_ret
  exact ⟨rfl, rfl⟩
set_option maxHeartbeats 1600000 in
theorem done_yes (d : QS w g most A n c true l) {a : AD} {l' : List AD} (hl : l = a :: l') (s : ByteArray) (hs : (a.name.toList == s.toList) = true) :
    Calls Try.prog 13 #[.pointer (some ⟨g, 0, none⟩), .string s] w fun e w' => e = .returned (.bool true) ∧ QS w' g most A (n - 1) c false l' ∧ Keeps (fun b => b = g ∨ (Value.slice A n c).ownBlock = some b) w w' := by
  have c1 := d.box.cell 1
  have c2 := d.box.cell 2
  have hl0 : l[0]? = some a := by rw [hl]; rfl
  obtain ⟨b6, c6, hv6, _, hb6l, _⟩ := d.row.form (by rw [hl]; simp)
  injection hv6 with hA6 hn6 hc6
  obtain ⟨n', hn'⟩ : ∃ n', n = n' + 1 := ⟨l'.length, by rw [hn6, hl]; simp⟩
  subst hA6 hn' hl
  have t2 : (0 : Int) < ((n' : Int) + 1) := by omega
  have q0 := d.row.at_ hl0 (j := 0) rfl
  simp [adv] at c1 c2 q0
  have el := elem59
  have hr := d.room
  have hf := d.few
  have D := Lib.hid d
  have hne : g ≠ b6 := fun e => by subst e; exact d.row.blk_ne d.box (by decide) rfl
  clear d hl0 hb6l hn6 hc6
  go_enter Try.func13, Try.ntmps13
  go_wp2_with (
    go_at_call 32; refine (delete_any w 0 b6 n' c a l' D.out.row (by omega)).mono ?_
    rintro e w2 ⟨rfl, o2, k2⟩
    have x2 := D.out.box.keeps k2 hne
    have x3 := x2.set 1 (.slice (some ⟨b6, 0, none⟩) n' c)
    have f1 := x2.frozen 1
    have g1 := x2.cell 1
    have f2 := x3.frozen 2
    have g2 := x3.cell 2
    simp at g1 g2
    have X2 := Lib.hid x2
    have O2 := Lib.hid o2
    have K2 := Lib.hid k2
    clear x2 x3 o2 k2)
  go_ret
  have ks : Keeps (fun b => b = g ∨ (Value.slice (some ⟨b6, 0, none⟩) (n' + 1) c).ownBlock = some b) w ((w2.setCell ⟨g, 1, none⟩ (.slice (some ⟨b6, 0, none⟩) n' c)).setCell ⟨g, 2, none⟩ (.bool false)) := ((K2.out.mono (fun b _ e => .inr (by subst e; rfl))).setCell _ _ (fun _ => .inl rfl)).setCell _ _ (fun _ => .inl rfl)
  have kg : Keeps (fun b => b = g) w2 ((w2.setCell ⟨g, 1, none⟩ (.slice (some ⟨b6, 0, none⟩) n' c)).setCell ⟨g, 2, none⟩ (.bool false)) := ((Keeps.refl (fun b => b = g) w2).setCell _ _ (fun _ => rfl)).setCell _ _ (fun _ => rfl)
  refine ⟨rfl, ⟨(X2.out.set 1 _).set 2 _, O2.out.keep1 kg X2.out (by decide), fun x hx => ⟨?_, (D.out.ok x (List.mem_cons_of_mem _ hx)).2⟩, D.out.one, hf, by omega, fun h => by cases h⟩, ks⟩
  have ox := (D.out.ok x (List.mem_cons_of_mem _ hx)).1
  refine ox.keeps ks (fun q hq hs => ?_)
  rcases hs with rfl | hs
  · exact ox.blk_ne D.out.box (by decide) hq
  · exact ox.own_ne D.out.row (by decide) q hq hs
/-- A name in a cell. -/
def strE : Enc ByteArray where
  enc := fun s => [.string s]
  size := 1
  len := fun _ => rfl
  one := fun x u h => by
    simp at h
    subst h
    rfl
  pos := by decide
theorem elem9 : Elem Try.prog 42 9 strE 16 := Elem.of Try.underlying42 (z := .string ⟨#[]⟩) (by kernel_rfl) rfl
set_option maxHeartbeats 1600000 in
theorem names_any (d : QS w g most A n c way l) :
    Calls Try.prog 17 #[.pointer (some ⟨g, 0, none⟩)] w fun e w' => ∃ A' c', e = .returned (.slice A' n c') ∧ Own strE w' w.heap.size 9 (.slice A' n c') (l.map AD.name) ∧ Keeps (fun _ => False) w w' := by
  have c1 := d.box.cell 1
  simp at c1
  have hl := d.len
  have HR := Lib.hid (own_reads d.row)
  have hfew := d.few
  have hroom := d.room
  have HL := Lib.hid hl
  have hll : (l.map AD.name).length = n := by simpa using hl
  have HLL := Lib.hid hll
  clear d hl hll
  go_enter Try.func17, Try.ntmps17
  go_wp2_with fail
  go_loopw [11, 3] (fun v u wr => ∃ (k : Nat) (A' : Option Addr) (c' : Nat), k ≤ n ∧ v = .int .i64 k ∧ u = .slice A' k c' ∧ Own strE wr w.heap.size 9 (.slice A' k c') ((l.take k).map AD.name) ∧ Keeps (fun _ => False) w wr) (fun v _ _ => n - (intOf v).toNat)
  case atStart => exact ⟨0, none, 0, Nat.zero_le _, rfl, rfl, Own.nil _ _ _ _, Keeps.refl _ _⟩
  case round =>
    obtain ⟨k, A2, c2, hk, rfl, rfl, ho, kk⟩ := hrel
    have KK := Lib.hid kk
    have HO := Lib.hid ho
    have hsz := kk.size
    clear kk ho
    by_cases hkn : k < n
    · obtain ⟨a, ha⟩ : ∃ a, l[k]? = some a := ⟨_, List.getElem?_eq_getElem (by rw [HL.out]; exact hkn)⟩
      obtain ⟨ad, hA, hc⟩ := (HR.out.keeps KK.out (fun _ _ _ h => h)).at_ ha
      subst hA
      have q0 := hc 0 _ rfl
      have q1 := hc 1 _ rfl
      have q2 := hc 2 _ rfl
      simp [adv] at q0 q1 q2
      rw [← add_add, add_pos _ (by decide : 0 < 1)] at q1
      rw [← add_add, add_pos _ (by decide : 0 < 2)] at q2
      have HA := Lib.hid ha
      have hlen : ((l.take k).map AD.name).length = k := by simp; have := HL.out; omega
      have HLK := Lib.hid hlen
      have el := elem59
      clear hc ha hlen
      go_wp2_with (first | (at_builtin; refine wp_append elem9 (by rfl) (.tmp 15) (.tmp 18) (by rfl) w.heap.size (.slice A2 k c2) ((l.take k).map AD.name) [a.name] (some ⟨wr.heap.size + 1, 0, none⟩) 1 1 rfl rfl ((HO.out.alloc _).alloc _) ((Blk.new (wr.alloc _) 9 _ _ (by simp)).reads _ rfl rfl) (by rw [HLK.out]; omega) (by rw [HLK.out]; simp [maxLen]; omega) (by simp; omega) ?_
                            intro v3 w3 own3 gr3 at3
                            obtain ⟨A3, c3, hv3, _⟩ := Own.val (n := k + 1) own3 (by rw [List.length_append, HLK.out]; rfl)
                            subst hv3
                            have k4 := own_grow ((KK.out.alloc _).alloc _) gr3 (fun q hq => HO.out.base_le hq)
                            have K3 := Lib.hid k4
                            have O3 := Lib.hid own3
                            clear own3 gr3 at3 k4))
      refine ⟨⟨k + 1, A3, c3, by omega, by go_num, by first | rfl | go_num, ?_, K3.out⟩, by simp [intOf]; omega⟩
      rw [List.take_add_one, HA.out, List.map_append]
      exact O3.out
    · have hkn' : k = n := by omega
      subst hkn'
      have ho := HO.out
      rw [List.take_of_length_le (by rw [HL.out]; exact Nat.le_refl _)] at ho
      have HO2 := Lib.hid ho
      clear ho
      go_wp2_with fail
      go_ret
      exact ⟨A2, c2, rfl, HO2.out, KK.out⟩
end
end Go.Proofs.Ytfidhnplaieacaa
