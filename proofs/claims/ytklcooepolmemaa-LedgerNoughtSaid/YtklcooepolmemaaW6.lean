/- What undoes entries: walked. -/
import Derived.Test.YtklcooepolmemaaW3
import Derived.Test.YtklcooepolmemaaW5
import Derived.Test.YtklcooepolmemaaStep
namespace Go.Proofs.Ytklcooepolmemaa
open Go.RowKit Mem
theorem elem30 : Elem Try.prog 22 30 entry 16 := Elem.of Try.underlying22 (z := .agg #[.int .i64 0, .int .i64 0]) (by kernel_rfl) rfl
theorem own_none {α : Type} {E : Enc α} {w : World} {base : Nat} {e : TypeId} {A : Option Addr} {n c : Nat} {l : List α} (h : Own E w base e (.slice A n c) l) : A = none → n = 0 ∧ c = 0 := by
  rintro rfl
  rcases h.2 with ⟨h', _⟩ | ⟨_, _, _, h', _⟩
  · injection h' with _ h1 h2; exact ⟨h1, h2⟩
  · cases h'
theorem entsClone_any (L : List (Int × Int)) (A : Option Addr) (n c : Nat) (w : World) (hr : Reads entry w A n L) (hA : A = none → n = 0 ∧ c = 0) (hn : n * 16 ≤ 140737488355328) :
    Calls Try.prog 31 #[.slice A n c] w fun e w' => ∃ A' c', e = .returned (.slice A' n c') ∧ Own entry w' w.heap.size 30 (.slice A' n c') L ∧ Keeps (fun _ => False) w w' := by
  have HL := Lib.hid hr.1
  have R := Lib.hid hr
  clear hr
  cases A with
  | none =>
    obtain ⟨rfl, rfl⟩ := hA rfl
    have he : ∀ W, (binOp BinOp.eql 22 (.slice none 0 0) (.slice none 0 0)).run Try.prog W = .ok (.bool true) W := fun W => by kernel_rfl
    go_enter Try.func31, Try.ntmps31
    go_wp2_with fail
    go_ret
    refine ⟨none, 0, rfl, ?_, Keeps.refl _ _⟩
    have : L = [] := List.eq_nil_of_length_eq_zero HL.out
    rw [this]
    exact Own.nil _ _ _ _
  | some ad =>
    have he : ∀ W, (binOp BinOp.eql 22 (.slice (some ad) n c) (.slice none 0 0)).run Try.prog W = .ok (.bool false) W := fun W => by kernel_rfl
    clear hA
    go_enter Try.func31, Try.ntmps31
    go_wp2_with (at_builtin; refine wp_append elem30 (by rfl) (.tmp 5) (.tmp 6) (by rfl) w.heap.size (.slice (some ⟨w.heap.size, 0, none⟩) 0 0) [] L (some ad) n c rfl rfl (own_empty _ _ _ _ _ rfl (Nat.le_refl _)) (R.out.alloc _) (by simp; omega) (by simp [maxLen]; omega) (by simp) ?_
                 intro v3 w3 own3 gr3 at3
                 rw [List.nil_append] at own3
                 obtain ⟨A3, c3, hv3, _⟩ := Own.val own3 HL.out
                 rw [hv3]
                 rw [hv3] at own3
                 have O := Lib.hid own3
                 have K := Lib.hid (app_empty w w.heap.size rfl gr3)
                 clear own3 gr3 at3 hv3)
    go_ret
    exact ⟨A3, c3, rfl, O.out, K.out⟩
theorem neg_ok (b : Int) (hb : isInt b) (hs : b ≠ -9223372036854775808) (w : World) : Calls Try.prog 32 #[.int .i64 0, .int .i64 b] w fun e w' => e = .returned (.tuple #[.int .i64 (-b), .int .i64 0]) ∧ w' = w := by
  unfold isInt at hb
  have h := (Lem.sub_test 0 b (by omega) (by omega) hb.1 hb.2).2 (by omega)
  rw [show (0 : Int) - b = -b by omega] at h
  have hw2 : wrap64 (-b) = -b := Lem.wrap_in (by omega) (by omega)
  clear hs
  have HW2 := Lib.hid hw2
  clear hw2
  go_enter Try.func32, Try.ntmps32
  go_wp2_with fail
  go_ret2
  refine ⟨?_, rfl⟩
  show Ending.returned (.tuple #[.int .i64 (wrap64 (-b)), .int .i64 0]) = _
  rw [HW2.out]
theorem neg_no (w : World) : Calls Try.prog 32 #[.int .i64 0, .int .i64 (-9223372036854775808)] w fun e w' => e = .returned (.tuple #[.int .i64 0, .int .i64 100]) ∧ w' = w := by
  have h := mt (Lem.sub_test 0 (-9223372036854775808) (by omega) (by omega) (by omega) (by omega)).1 (by omega)
  go_enter Try.func32, Try.ntmps32
  go_wp2_with fail
  go_ret2
  exact ⟨rfl, rfl⟩
/-- What entries are turned. -/
def neg1 (p : Int × Int) : Int × Int := (p.1, -p.2)
def okT (es : List (Int × Int)) : Prop := ∀ e ∈ es, e.2 ≠ -9223372036854775808
instance (es : List (Int × Int)) : Decidable (okT es) := by unfold okT; infer_instance
def turnE (es : List (Int × Int)) : Int := if okT es then 0 else 100
def turnL (es : List (Int × Int)) : List (Int × Int) := if okT es then es.map neg1 else []
theorem turnE_yes {es : List (Int × Int)} (h : okT es) : turnE es = 0 ∧ turnL es = es.map neg1 := ⟨if_pos h, if_pos h⟩
theorem turnE_no {es : List (Int × Int)} (h : ¬ okT es) : turnE es = 100 ∧ turnL es = [] := ⟨if_neg h, if_neg h⟩
theorem okT_take {es : List (Int × Int)} {k : Nat} {e : Int × Int} (h : okT (es.take k)) (hk : es[k]? = some e) (he : e.2 ≠ -9223372036854775808) : okT (es.take (k + 1)) := by
  intro x hx
  rw [List.take_add_one, hk] at hx
  simp at hx
  rcases hx with hx | rfl
  · exact h x hx
  · exact he
set_option maxHeartbeats 3200000 in
theorem turned_any (es : List (Int × Int)) (A : Option Addr) (n c : Nat) (w : World) (hr : Reads entry w A n es) (hA : A = none → n = 0 ∧ c = 0) (hn : n * 16 ≤ 140737488355328) (hok : ∀ e ∈ es, okE e) :
    Calls Try.prog 19 #[.slice A n c] w fun e w' => ∃ A' n' c', e = .returned (.tuple #[.slice A' n' c', .int .i64 (turnE es)]) ∧ Own entry w' w.heap.size 30 (.slice A' n' c') (turnL es) ∧ Keeps (fun _ => False) w w' := by
  have HL := Lib.hid hr.1
  have R := Lib.hid hr
  have HA := Lib.hid hA
  have OK := Lib.hid hok
  clear hr hA hok
  go_enter Try.func19, Try.ntmps19
  go_wp2_with (go_at_call 31; refine (entsClone_any es A n c w R.out HA.out hn).mono ?_
               rintro e w1 ⟨A1, c1, rfl, o1, k1⟩
               have O1 := Lib.hid o1
               have K1 := Lib.hid k1
               clear o1 k1)
  go_loopw [13, 5] (fun v _ wr => ∃ k : Nat, k ≤ n ∧ v = .int .i64 k ∧ okT (es.take k) ∧ Own entry wr w.heap.size 30 (.slice A1 n c1) ((es.take k).map neg1 ++ es.drop k) ∧ Keeps (fun _ => False) w wr) (fun v _ _ => n - (intOf v).toNat)
  case atStart => exact ⟨0, Nat.zero_le _, rfl, by unfold okT; simp, by simpa using O1.out, K1.out⟩
  case round =>
    obtain ⟨k, hk, rfl, hall, ho, kk⟩ := hrel
    have ALL := Lib.hid hall
    have HO := Lib.hid ho
    have KK := Lib.hid kk
    clear hall ho kk
    by_cases hkn : k < n
    · obtain ⟨⟨a, b⟩, he⟩ : ∃ e, es[k]? = some e := ⟨_, List.getElem?_eq_getElem (by rw [HL.out]; exact hkn)⟩
      have hoke := OK.out _ (List.mem_of_getElem? he)
      obtain ⟨ad, hAd, hc⟩ := (R.out.keeps KK.out (fun _ _ _ h => h)).at_ he
      subst hAd
      have p0 := hc 0 _ rfl
      have p1 := hc 1 _ rfl
      simp [entry] at p0 p1
      rw [← add_add, add_pos _ (by decide : 0 < 1)] at p1
      have bb : Blk (wr.alloc (.cells #[.int .i64 a, .int .i64 b] 30)) wr.heap.size 30 #[.int .i64 a, .int .i64 b] := Blk.new wr 30 _ _ rfl
      have e1 := bb.cell 1
      simp at e1
      have HE := Lib.hid he
      have HK := Lib.hid hoke
      have KA := Lib.hid (KK.out.alloc (.cells #[.int .i64 a, .int .i64 b] 30))
      have HOA := Lib.hid (HO.out.alloc (.cells #[.int .i64 a, .int .i64 b] 30))
      clear hc he hoke bb
      by_cases hb : b = -9223372036854775808
      · have hno : ¬ okT es := fun h => h _ (List.mem_of_getElem? HE.out) hb
        have HN := Lib.hid (turnE_no hno)
        subst hb
        clear hno
        go_wp2_with (go_at_call 32; refine (neg_no _).mono ?_
                     rintro e w2 ⟨rfl, rfl⟩)
        go_ret2
        rw [HN.out.1, HN.out.2]
        exact ⟨none, 0, 0, rfl, Own.nil _ _ _ _, KA.out⟩
      · obtain ⟨g1, c2, hv, hg1, hg2, _⟩ := HO.out.form (by simp; have := HL.out; omega)
        injection hv with hv1 hv2 hv3
        subst hv1
        have hx : ((es.take k).map neg1 ++ es.drop k)[k]? = some (a, b) := by
          have hlk : ((es.take k).map neg1).length = k := by simp; have := HL.out; omega
          rw [List.getElem?_append_right (by omega), hlk, Nat.sub_self, List.getElem?_drop, Nat.add_zero]
          exact HE.out
        have f1 := HO.out.frozen (k * 2 + 1)
        have q1 := HO.out.at_ hx (j := 1) rfl
        simp [entry] at q1
        have HX := Lib.hid hx
        clear hv2 hv3 hx
        go_wp2_with (go_at_call 32; refine (neg_ok b HK.out.2 hb _).mono ?_
                     rintro e w2 ⟨rfl, rfl⟩)
        have o5 := HO.out.store (j := 1) (y := (a, -b)) (u := .int .i64 (-b)) HX.out (by decide) rfl
        refine ⟨⟨k + 1, by omega, by go_num, okT_take ALL.out HE.out hb, ?_, (KK.out.setCell _ _ (fun h => by simp at h; omega)).alloc _⟩, by simp [intOf]; omega⟩
        have hlk : ((es.take k).map neg1).length = k := by simp; have := HL.out; omega
        have e : (es.take (k + 1)).map neg1 ++ es.drop (k + 1) = ((es.take k).map neg1 ++ es.drop k).set k (a, -b) := by
          have hd : es.drop k = (a, b) :: es.drop (k + 1) := by
            obtain ⟨hlt, hg⟩ := List.getElem?_eq_some_iff.1 HE.out
            rw [← hg]
            exact List.drop_eq_getElem_cons hlt
          rw [List.set_append_right _ _ (by omega), hlk, Nat.sub_self, List.take_add_one, HE.out, hd]
          simp [neg1]
        rw [e]
        exact o5.alloc _
    · have hf := ALL.out
      have ho := HO.out
      rw [List.take_of_length_le (by rw [HL.out]; omega)] at hf ho
      rw [List.drop_of_length_le (by rw [HL.out]; omega), List.append_nil] at ho
      have HT := Lib.hid (turnE_yes hf)
      have HO2 := Lib.hid ho
      clear hf ho
      go_wp2_with fail
      go_ret2
      rw [HT.out.1, HT.out.2]
      exact ⟨_, _, _, rfl, HO2.out, KK.out⟩
theorem own_grow {w W w' : World} {v : Value} (h : Keeps (fun _ => False) w W) (gr : W.grownBy w' v.ownBlock) (hv : ∀ q, v.ownBlock = some q → w.heap.size ≤ q) : Keeps (fun _ => False) w w' :=
  (Keeps.grown (S := fun b => w.heap.size ≤ b) (h.mono (fun _ _ h => h.elim)) gr (fun k hk _ => hv k hk)).mono (fun b hb h => by omega)
set_option maxHeartbeats 3200000 in
theorem refTurned_any (es : List (Int × Int)) (A : Option Addr) (n c : Nat) (w : World) (hr : Reads entry w A n es) (hn : n * 16 ≤ 140737488355328) (hok : ∀ e ∈ es, okE e) :
    Calls Try.prog 20 #[.slice A n c] w fun e w' => ∃ A' n' c', e = .returned (.tuple #[.slice A' n' c', .int .i64 (turnE es)]) ∧ Own entry w' w.heap.size 30 (.slice A' n' c') (turnL es) ∧ Keeps (fun _ => False) w w' := by
  have HL := Lib.hid hr.1
  have R := Lib.hid hr
  have OK := Lib.hid hok
  clear hr hok
  go_enter Try.func20, Try.ntmps20
  go_wp2_with fail
  go_loopw [4, 5] (fun u v wr => ∃ k : Nat, k ≤ n ∧ v = .int .i64 k ∧ okT (es.take k) ∧ Own entry wr w.heap.size 30 u ((es.take k).map neg1) ∧ Keeps (fun _ => False) w wr) (fun _ v _ => n - (intOf v).toNat)
  case atStart => exact ⟨0, Nat.zero_le _, rfl, by unfold okT; simp, Own.nil _ _ _ _, Keeps.refl _ _⟩
  case round =>
    obtain ⟨k, hk, rfl, hall, ho, kk⟩ := hrel
    have ALL := Lib.hid hall
    have HO := Lib.hid ho
    have KK := Lib.hid kk
    clear hall ho kk
    have hlk : ((es.take k).map neg1).length = k := by simp; have := HL.out; omega
    have HLK := Lib.hid hlk
    clear hlk
    by_cases hkn : k < n
    · obtain ⟨⟨a, b⟩, he⟩ : ∃ e, es[k]? = some e := ⟨_, List.getElem?_eq_getElem (by rw [HL.out]; exact hkn)⟩
      have hoke := OK.out _ (List.mem_of_getElem? he)
      obtain ⟨ad, hAd, hc⟩ := R.out.at_ he
      subst hAd
      have w0 := hc 0 _ rfl
      have w1 := hc 1 _ rfl
      simp [entry] at w0 w1
      rw [← add_add, add_pos _ (by decide : 0 < 1)] at w1
      have p0 := KK.out.cell (fun h => h) w0
      have p1 := KK.out.cell (fun h => h) w1
      have HP := Lib.hid (And.intro w0 w1)
      clear w0 w1
      have HE := Lib.hid he
      have HK := Lib.hid hoke
      clear hc he hoke
      by_cases hb : b = -9223372036854775808
      · have hno : ¬ okT es := fun h => h _ (List.mem_of_getElem? HE.out) hb
        have HN := Lib.hid (turnE_no hno)
        subst hb
        clear hno
        go_wp2_with fail
        go_ret2
        rw [HN.out.1, HN.out.2]
        exact ⟨none, 0, 0, rfl, Own.nil _ _ _ _, KK.out⟩
      · have tb : (b == -9223372036854775808) = false := by simpa using hb
        have hw : IntKind.i64.wrap (-b) = -b := by
          have := HK.out.2
          unfold isInt at this
          exact IntWalk.i64_in _ (by omega)
        have HW := Lib.hid hw
        clear hw
        obtain ⟨A2, c2, hv, _⟩ := Own.val HO.out HLK.out
        subst hv
        have a0 : ∀ o, (wr.alloc o).drew.cell? (ad.add (k * 2)) = some (.int .i64 a) := fun o => (((Keeps.refl (fun _ => False) wr).alloc o).drew).cell (fun h => h) p0
        have a1 : ∀ o, (wr.alloc o).drew.cell? ⟨(ad.add (k * 2)).block, (ad.add (k * 2)).off + 1, none⟩ = some (.int .i64 b) := fun o => (((Keeps.refl (fun _ => False) wr).alloc o).drew).cell (fun h => h) p1
        have A0 := Lib.hid a0
        have A1 := Lib.hid a1
        clear a0 a1
        go_wp2_with fail
        have hsz := KK.out.size
        go_region_held3 (fun w' => w'.cell? (ad.add (k * 2)) = some (.int .i64 a) ∧ w'.cell? ⟨(ad.add (k * 2)).block, (ad.add (k * 2)).off + 1, none⟩ = some (.int .i64 b)) (first | exact ⟨p0, p1⟩ | exact ⟨A0.out _, A1.out _⟩ | exact ⟨z0, z1⟩)
          ((refine step_append elem30 (by rfl) (.tmp 18) (.tmp 31) (by rfl) w.heap.size (.slice A2 k c2) ((es.take k).map neg1) [(a, IntKind.i64.wrap (-b))] (some ⟨wr.heap.size, 0, none⟩) 1 1 (by rfl) (by rfl) ((HO.out.alloc _).drew) (((Blk.new wr 30 _ _ rfl).drew).reads _ rfl rfl) (by rw [HLK.out]; omega) (by rw [HLK.out]; simp [maxLen]; omega) (by simp; omega) ?_
            intro k3 A3 c3 w3 hk3 own3 gr3 at3
            rw [HW.out] at own3
            have k4 := own_grow (KK.out.alloc _).drew gr3 (fun q hq => HO.out.base_le hq)
            have z0 := k4.cell (fun h => h) HP.out.1
            have z1 := k4.cell (fun h => h) HP.out.2
            have K3 := Lib.hid k4
            have O3 := Lib.hid own3
            clear own3 gr3 at3 hk3 k4))
        go_wp2_with fail
        refine ⟨⟨k + 1, by omega, by go_num, okT_take ALL.out HE.out hb, ?_, K3.out⟩, by simp [intOf]; omega⟩
        rw [List.take_add_one, HE.out, List.map_append]
        exact O3.out
    · have hf := ALL.out
      have ho := HO.out
      rw [List.take_of_length_le (by rw [HL.out]; omega)] at hf ho
      have HT := Lib.hid (turnE_yes hf)
      obtain ⟨A2, c2, hv, _⟩ := Own.val ho rfl
      subst hv
      have HO2 := Lib.hid ho
      clear hf ho
      go_wp2_with fail
      go_ret2
      rw [HT.out.1, HT.out.2]
      exact ⟨_, _, _, rfl, HO2.out, KK.out⟩
end Go.Proofs.Ytklcooepolmemaa
