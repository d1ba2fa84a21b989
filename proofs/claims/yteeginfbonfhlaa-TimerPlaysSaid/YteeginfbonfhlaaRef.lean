/- The document's timers: what they lie in; without one; what is due first: walked. -/
import Derived.Test.YteeginfbonfhlaaDrain
namespace Go.Proofs.Yteeginfbonfhlaa
open Go.RowKit Mem
/-- The document's timers: their block, the row. -/
structure RS (w : World) (g : Nat) (A : Option Addr) (n cp : Nat) (c : Int) (L : List DU) : Prop where
  box : Blk w g 42 #[.int .i64 c, .slice A n cp]
  row : Own due w 0 34 (.slice A n cp) L
section
variable {w w' : World} {g : Nat} {A : Option Addr} {n cp : Nat} {c : Int} {L : List DU}
theorem RS.len (h : RS w g A n cp c L) : L.length = n := h.row.len_eq rfl
theorem RS.keep {S : Nat → Prop} (h : RS w g A n cp c L) (K : Keeps S w w') (h1 : ¬ S g) (h2 : ∀ q, (Value.slice A n cp).ownBlock = some q → ¬ S q) : RS w' g A n cp c L := ⟨h.box.keeps K h1, h.row.keeps K h2⟩
theorem RS.keep0 (h : RS w g A n cp c L) (K : Keeps (fun _ => False) w w') : RS w' g A n cp c L := h.keep K (fun h => h) (fun _ _ h => h)
/-- Into a new row, all but one thing. -/
theorem wo_take {k : Nat} {x : DU} (hx : L[k]? = some x) (s : ByteArray) (i : Int) : wo (L.take (k + 1)) s i = wo (L.take k) s i ++ (if same x s i then [] else [x]) := by
  unfold wo
  rw [List.take_add_one, hx, List.filter_append]
  cases h : same x s i <;> simp [h]
set_option maxHeartbeats 6400000 in
theorem without_any (h : RS w g A n cp c L) (hn : n ≤ 1000000) (s : ByteArray) (i : Int) :
    Calls Try.prog 29 #[.pointer (some ⟨g, 0, none⟩), .string s, .int .i64 i] w fun e w' => ∃ A' n' cp', e = .returned (.slice A' n' cp') ∧ Own due w' w.heap.size 34 (.slice A' n' cp') (wo L s i) ∧ Keeps (fun _ => False) w w' := by
  have T := Lib.hid h
  have HL := Lib.hid h.len
  clear h
  go_enter Try.func29, Try.ntmps29
  go_wp2_with fail
  go_loopw [7, 8] (fun v7 v8 wr => ∃ (k : Nat) (A' : Option Addr) (n' cp' : Nat), v7 = .slice A' n' cp' ∧ v8 = .int .i64 k ∧ k ≤ n ∧ n' ≤ k ∧ Own due wr w.heap.size 34 (.slice A' n' cp') (wo (L.take k) s i) ∧ Keeps (fun _ => False) w wr) (fun _ v8 _ => n - (intOf v8).toNat)
  case atStart => exact ⟨0, none, 0, 0, rfl, rfl, Nat.zero_le _, Nat.le_refl _, Own.nil _ _ _ _, Keeps.refl _ _⟩
  case round =>
    obtain ⟨k, A', n', cp', rfl, rfl, hk, hnk, ho, kk⟩ := hrel
    have TR := T.out.keep0 kk
    have c1 := TR.box.cell 1
    simp at c1
    have OR := Lib.hid ho
    have KK := Lib.hid kk
    have HOL := Lib.hid (ho.len_eq rfl : (wo (L.take k) s i).length = n')
    have TRH := Lib.hid TR
    clear ho kk TR
    by_cases hkn : k < n
    · obtain ⟨x, hx⟩ : ∃ x, L[k]? = some x := ⟨_, List.getElem?_eq_getElem (by rw [HL.out]; exact hkn)⟩
      obtain ⟨b, _, hv, _⟩ := TRH.out.row.form (by rw [HL.out]; omega)
      injection hv with hA hn2 hc2
      subst hA
      have p0 := TRH.out.row.at_ hx (j := 0) rfl
      have p1 := TRH.out.row.at_ hx (j := 1) rfl
      have p2 := TRH.out.row.at_ hx (j := 2) rfl
      simp [due] at p0 p1 p2
      have hblt : b < wr.heap.size := TRH.out.row.lt rfl
      have hglt : g < wr.heap.size := TRH.out.box.lt
      have hw := wo_take hx s i
      have HW := Lib.hid hw
      have el := elem40
      clear hx hn2 hc2 hw
      rcases (show ((x.key.toList == s.toList) = false ∧ same x s i = false) ∨ ((x.key.toList == s.toList) = true ∧ (x.kind == i) = false ∧ same x s i = false) ∨ ((x.key.toList == s.toList) = true ∧ x.kind = i ∧ same x s i = true) by
        unfold same
        cases h1 : (x.key.toList == s.toList)
        · exact .inl ⟨rfl, rfl⟩
        · by_cases h2 : x.kind = i
          · exact .inr (.inr ⟨rfl, h2, by simp [h2]⟩)
          · exact .inr (.inl ⟨rfl, by simpa using h2, by simpa using h2⟩)) with ⟨h1, h2⟩ | ⟨h1, h3, h2⟩ | ⟨h1, h3, h2⟩
      · have h4 : (x.key.toList != s.toList) = true := by simpa using h1
        go_wp2_with (first
          | (at_builtin; refine wp_append elem40 (by rfl) (.tmp 40) (.tmp 48) (by rfl) w.heap.size (.slice A' n' cp') (wo (L.take k) s i) [x] (some ⟨wr.heap.size, 0, none⟩) 1 1 rfl rfl (OR.out.alloc _) ((Blk.new wr 34 _ _ rfl).reads _ rfl rfl) (by rw [HOL.out]; omega) (by rw [HOL.out]; simp [maxLen]; omega) (by have := KK.out.size; simp; omega) ?_
             intro v6 w6 own6 gr6 at6
             obtain ⟨A6, c6, hv6, _⟩ := Own.val (n := n' + 1) own6 (by rw [List.length_append, HOL.out]; rfl)
             subst hv6
             have k6 : Keeps (fun _ => False) w w6 := own_grow (KK.out.alloc _) gr6 (fun q hq => OR.out.base_le hq)
             have O6 := Lib.hid own6
             have K6 := Lib.hid k6
             clear own6 gr6 at6 k6))
        exact ⟨⟨k + 1, A6, n' + 1, c6, rfl, by go_num, by omega, by omega, by rw [HW.out, if_neg (by rw [h2]; decide)]; exact O6.out, K6.out⟩, by simp [intOf]; omega⟩
      · have h4 : (x.key.toList != s.toList) = false := by simpa using h1
        go_wp2_with (first
          | (at_builtin; refine wp_append elem40 (by rfl) (.tmp 40) (.tmp 48) (by rfl) w.heap.size (.slice A' n' cp') (wo (L.take k) s i) [x] (some ⟨wr.heap.size, 0, none⟩) 1 1 rfl rfl (OR.out.alloc _) ((Blk.new wr 34 _ _ rfl).reads _ rfl rfl) (by rw [HOL.out]; omega) (by rw [HOL.out]; simp [maxLen]; omega) (by have := KK.out.size; simp; omega) ?_
             intro v6 w6 own6 gr6 at6
             obtain ⟨A6, c6, hv6, _⟩ := Own.val (n := n' + 1) own6 (by rw [List.length_append, HOL.out]; rfl)
             subst hv6
             have k6 : Keeps (fun _ => False) w w6 := own_grow (KK.out.alloc _) gr6 (fun q hq => OR.out.base_le hq)
             have O6 := Lib.hid own6
             have K6 := Lib.hid k6
             clear own6 gr6 at6 k6))
        exact ⟨⟨k + 1, A6, n' + 1, c6, rfl, by go_num, by omega, by omega, by rw [HW.out, if_neg (by rw [h2]; decide)]; exact O6.out, K6.out⟩, by simp [intOf]; omega⟩
      · have h4 : (x.key.toList != s.toList) = false := by simpa using h1
        subst h3
        go_wp2_with fail
        exact ⟨⟨k + 1, A', n', cp', rfl, by go_num, by omega, by omega, by rw [HW.out, if_pos h2, List.append_nil]; exact OR.out, KK.out⟩, by simp [intOf]; omega⟩
    · have hkn' : k = n := by omega
      subst hkn'
      have ho := OR.out
      rw [List.take_of_length_le (by rw [HL.out]; exact Nat.le_refl _)] at ho
      have OR2 := Lib.hid ho
      clear ho
      go_wp2_with fail
      go_ret
      exact ⟨A', n', cp', rfl, OR2.out, KK.out⟩
end
end Go.Proofs.Yteeginfbonfhlaa
