/- The document's queue: its names, the first one taken away: walked. -/
import Derived.Test.YtfidhnplaieacaaR2
namespace Go.Proofs.Ytfidhnplaieacaa
open Go.RowKit Mem
section
variable {w w' : World} {g most : Nat} {A : Option Addr} {n c : Nat} {way : Bool} {l : List AD}
set_option maxHeartbeats 1600000 in
theorem refNames_any (d : QR w g most A n c way l) :
    Calls Try.prog 34 #[.pointer (some ⟨g, 0, none⟩)] w fun e w' => ∃ A' c', e = .returned (.slice A' n c') ∧ Own strE w' w.heap.size 9 (.slice A' n c') (l.map AD.name) ∧ Keeps (fun _ => False) w w' := by
  have hl := d.row.len_eq rfl
  have hfew := d.few
  have hroom := d.room
  have HL := Lib.hid hl
  have D := Lib.hid d
  clear d hl
  go_enter Try.func34, Try.ntmps34
  go_wp2_with fail
  go_loopw [4, 3] (fun v u wr => ∃ (k : Nat) (A' : Option Addr) (c' : Nat), k ≤ n ∧ v = .int .i64 k ∧ u = .slice A' k c' ∧ Own strE wr w.heap.size 9 (.slice A' k c') ((l.take k).map AD.name) ∧ Keeps (fun _ => False) w wr) (fun v _ _ => n - (intOf v).toNat)
  case atStart => exact ⟨0, none, 0, Nat.zero_le _, rfl, rfl, Own.nil _ _ _ _, Keeps.refl _ _⟩
  case round =>
    obtain ⟨k, A2, c2, hk, rfl, rfl, ho, kk⟩ := hrel
    have KK := Lib.hid kk
    have HO := Lib.hid ho
    have hsz := kk.size
    have c1 := (D.out.box.keeps kk (fun h => h)).cell 1
    simp at c1
    clear kk ho
    by_cases hkn : k < n
    · obtain ⟨a, ha⟩ : ∃ a, l[k]? = some a := ⟨_, List.getElem?_eq_getElem (by rw [HL.out]; exact hkn)⟩
      obtain ⟨ad, hA, hc⟩ := ((own_reads D.out.row).keeps KK.out (fun _ _ _ h => h)).at_ ha
      subst hA
      have q0 := hc 0 _ rfl
      simp [adv] at q0
      have HA := Lib.hid ha
      have hlen : ((l.take k).map AD.name).length = k := by simp; have := HL.out; omega
      have HLK := Lib.hid hlen
      have el := elem70
      clear hc ha hlen
      go_wp2_with (first | (at_builtin; refine wp_append elem9 (by rfl) (.tmp 14) (.tmp 23) (by rfl) w.heap.size (.slice A2 k c2) ((l.take k).map AD.name) [a.name] (some ⟨wr.heap.size, 0, none⟩) 1 1 rfl rfl (HO.out.alloc _) ((Blk.new wr 9 _ _ rfl).reads _ rfl rfl) (by rw [HLK.out]; omega) (by rw [HLK.out]; simp [maxLen]; omega) (by simp; omega) ?_
                            intro v3 w3 own3 gr3 at3
                            obtain ⟨A3, c3, hv3, _⟩ := Own.val (n := k + 1) own3 (by rw [List.length_append, HLK.out]; rfl)
                            subst hv3
                            have k4 := own_grow (KK.out.alloc _) gr3 (fun q hq => HO.out.base_le hq)
                            have K3 := Lib.hid k4
                            have O3 := Lib.hid own3
                            clear own3 gr3 at3 k4))
      refine ⟨⟨k + 1, A3, c3, by omega, by go_num, by first | rfl | go_num, ?_, K3.out⟩, by simp [intOf]; omega⟩
      rw [List.take_add_one, HA.out, List.map_append]
      exact O3.out
    · have hkn' : k = n := by omega
      subst hkn'
      have ho := HO.out
      rw [List.take_of_length_le (by rw [HL.out]; exact Nat.le_refl _)] at ho
      have HO2 := Lib.hid ho
      clear ho
      go_wp2_with fail
      go_ret
      exact ⟨A2, c2, rfl, HO2.out, KK.out⟩
set_option maxHeartbeats 1600000 in
theorem refDone_yes (d : QR w g most A n c true l) {a : AD} {l' : List AD} (hl : l = a :: l') (s : ByteArray) (hs : (a.name.toList == s.toList) = true) :
    Calls Try.prog 25 #[.pointer (some ⟨g, 0, none⟩), .string s] w fun e w' => ∃ A' c', e = .returned (.bool true) ∧ QR w' g most A' (n - 1) c' false l' ∧ (∀ q, (Value.slice A' (n - 1) c').ownBlock = some q → w.heap.size ≤ q) ∧ Keeps (fun b => b = g) w w' := by
  have c1 := d.box.cell 1
  have c2 := d.box.cell 2
  have hl0 : l[0]? = some a := by rw [hl]; rfl
  obtain ⟨b6, c6, hv6, _, hb6l, hcap⟩ := d.row.form (by rw [hl]; simp)
  injection hv6 with hA6 hn6 hc6
  obtain ⟨n', hn'⟩ : ∃ n', n = n' + 1 := ⟨l'.length, by rw [hn6, hl]; simp⟩
  rw [← hc6, ← hn6] at hcap
  subst hA6 hn' hl
  have t2 : (0 : Int) < ((n' : Int) + 1) := by omega
  have t3 : (1 : Int) ≤ ((n' : Int) + 1) := by omega
  have t4 : ((n' : Int) + 1) ≤ (c : Int) := by omega
  have t5 : 1 ≤ c := by omega
  have q0 := d.row.at_ hl0 (j := 0) rfl
  simp [adv] at c1 c2 q0
  have el := elem70
  have hr := d.room
  have hf := d.few
  have hgl := d.box.lt
  have D := Lib.hid d
  clear d hl0 hb6l hn6 hc6
  have hdrop : Reads adv w (if c = 1 then some ⟨b6, 0, none⟩ else some ⟨b6, 3, none⟩) n' l' := by
    have := (own_reads D.out.row).drop (k := 1) (by omega) (A' := if c = 1 then some ⟨b6, 0, none⟩ else some ⟨b6, 3, none⟩) (fun h => by rw [if_neg (by omega)]; rfl)
    simpa using this
  have HD := Lib.hid hdrop
  have hll : l'.length = n' := hdrop.1
  have HLL := Lib.hid hll
  clear hdrop hll
  go_enter Try.func25, Try.ntmps25
  go_wp2_with (first | (at_builtin; refine wp_append elem70 (by rfl) (.tmp 22) (.tmp 27) (by rfl) w.heap.size (.slice (some ⟨w.heap.size, 0, none⟩) 0 0) [] l' _ n' (c - 1) rfl rfl (own_empty adv w 70 w.heap.size w.heap.size rfl (Nat.le_refl _)) (HD.out.alloc _) (by simp; omega) (by simp [maxLen]; omega) (by simp) ?_
                        intro v3 w3 own3 gr3 at3
                        rw [List.nil_append] at own3
                        obtain ⟨A3, c3, hv3, _⟩ := Own.val (n := n') own3 HLL.out
                        subst hv3
                        have K3 := Lib.hid (app_empty w w.heap.size rfl gr3)
                        have x3 := D.out.box.keeps (app_empty w w.heap.size rfl gr3) (fun h => h)
                        have x4 := x3.set 1 (.slice A3 n' c3)
                        have f3 := x3.frozen 1
                        have g3 := x3.cell 1
                        have f4 := x4.frozen 2
                        have g4 := x4.cell 2
                        simp at g3 g4
                        have X3 := Lib.hid x3
                        have O3 := Lib.hid own3
                        clear own3 gr3 at3 x3 x4))
  all_goals
    go_ret
    have ks : Keeps (fun b => b = g) w ((w3.setCell ⟨g, 1, none⟩ (.slice A3 n' c3)).setCell ⟨g, 2, none⟩ (.bool false)) := ((K3.out.mono (S' := fun b => b = g) (fun _ _ h => h.elim)).setCell _ _ (fun _ => rfl)).setCell _ _ (fun _ => rfl)
    have kg : Keeps (fun b => b = g) w3 ((w3.setCell ⟨g, 1, none⟩ (.slice A3 n' c3)).setCell ⟨g, 2, none⟩ (.bool false)) := ((Keeps.refl (fun b => b = g) w3).setCell _ _ (fun _ => rfl)).setCell _ _ (fun _ => rfl)
    exact ⟨rfl, A3, c3, ⟨(X3.out.set 1 _).set 2 _, (O3.out.keep1 kg X3.out (by decide)).rebase 0 (fun _ _ => Nat.zero_le _), fun x hx => ⟨(D.out.ok x (List.mem_cons_of_mem _ hx)).1.keep1 ks D.out.box (by decide), (D.out.ok x (List.mem_cons_of_mem _ hx)).2⟩, D.out.one, hf, by omega, fun h => by cases h⟩, fun q hq => O3.out.base_le hq, ks⟩
end
end Go.Proofs.Ytfidhnplaieacaa
