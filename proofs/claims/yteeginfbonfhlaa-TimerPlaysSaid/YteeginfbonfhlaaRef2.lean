/- The document's timers: which is due first: walked. -/
import Derived.Test.YteeginfbonfhlaaRef
namespace Go.Proofs.Yteeginfbonfhlaa
open Go.RowKit Mem
/-- The place of what is due first. -/
def isFirst (L : List DU) (r : Int) : Prop := (L = [] ∧ r = -1) ∨ ∃ (k : Nat) (x : DU), r = (k : Int) ∧ L[k]? = some x ∧ minD L = some x
/-- The least of the first k. -/
def bestOf (L : List DU) (k : Nat) (r : Int) : Prop := (k = 0 ∧ r = -1) ∨ ∃ (j : Nat) (y : DU), r = (j : Int) ∧ j < k ∧ L[j]? = some y ∧ ∀ i z, i < k → L[i]? = some z → leD y z
theorem bestOf.next {L : List DU} {k j : Nat} {x y : DU} (hx : L[k]? = some x) (hj : j < k) (hy : L[j]? = some y) (hm : ∀ i z, i < k → L[i]? = some z → leD y z) (hl : ltD x y = false) : bestOf L (k + 1) (j : Int) :=
  .inr ⟨j, y, rfl, by omega, hy, fun i z hi hz => by
    by_cases e : i = k
    · subst e
      rw [hx] at hz
      injection hz with hz
      subst hz
      exact hl
    · exact hm i z (by omega) hz⟩
theorem bestOf.new {L : List DU} {k j : Nat} {x y : DU} (hx : L[k]? = some x) (hm : ∀ i z, i < k → L[i]? = some z → leD y z) (hl : ltD x y = true) (_hj : j < k) : bestOf L (k + 1) (k : Int) :=
  .inr ⟨k, x, rfl, by omega, hx, fun i z hi hz => by
    by_cases e : i = k
    · subst e
      rw [hx] at hz
      injection hz with hz
      subst hz
      exact leD_refl _
    · exact leD_trans (leD_of_lt hl) (hm i z (by omega) hz)⟩
theorem bestOf.first {L : List DU} {x : DU} (hx : L[0]? = some x) : bestOf L 1 0 :=
  .inr ⟨0, x, rfl, by omega, hx, fun i z hi hz => by
    obtain rfl : i = 0 := by omega
    rw [hx] at hz
    injection hz with hz
    subst hz
    exact leD_refl _⟩
theorem bestOf.done {L : List DU} {n : Nat} (hn : L.length = n) {r : Int} (h : bestOf L n r) : isFirst L r := by
  rcases h with ⟨rfl, h⟩ | ⟨j, y, h1, h2, h3, h4⟩
  · exact .inl ⟨List.eq_nil_of_length_eq_zero hn, h⟩
  · refine .inr ⟨j, y, h1, h3, minD_of ⟨List.mem_of_getElem? h3, fun z hz => ?_⟩⟩
    obtain ⟨i, hi⟩ := List.getElem?_of_mem hz
    exact h4 i z (by rw [← hn]; exact (List.getElem?_eq_some_iff.1 hi).1) hi
theorem ltD_cases (x y : DU) : (x.at_ < y.at_ ∧ ltD x y = true) ∨ (¬ x.at_ < y.at_ ∧ (x.at_ == y.at_) = false ∧ ltD x y = false) ∨ (x.at_ = y.at_ ∧ Op.bytesLess x.key.toList y.key.toList = true ∧ ltD x y = true) ∨ (x.at_ = y.at_ ∧ Op.bytesLess x.key.toList y.key.toList = false ∧ (x.key.toList == y.key.toList) = false ∧ ltD x y = false) ∨ (x.at_ = y.at_ ∧ Op.bytesLess x.key.toList y.key.toList = false ∧ (x.key.toList == y.key.toList) = true ∧ x.kind < y.kind ∧ ltD x y = true) ∨ (x.at_ = y.at_ ∧ Op.bytesLess x.key.toList y.key.toList = false ∧ (x.key.toList == y.key.toList) = true ∧ ¬ x.kind < y.kind ∧ ltD x y = false) := by
  unfold ltD lessS
  by_cases h1 : x.at_ < y.at_
  · exact .inl ⟨h1, by simp [h1]⟩
  · by_cases h2 : x.at_ = y.at_
    · cases h3 : Op.bytesLess x.key.toList y.key.toList
      · cases h4 : (x.key.toList == y.key.toList)
        · exact .inr (.inr (.inr (.inl ⟨h2, rfl, rfl, by simp [h2]⟩)))
        · by_cases h5 : x.kind < y.kind
          · exact .inr (.inr (.inr (.inr (.inl ⟨h2, rfl, rfl, h5, by simp [h2, h5]⟩))))
          · exact .inr (.inr (.inr (.inr (.inr ⟨h2, rfl, rfl, h5, by simp [h2, h5]⟩))))
      · exact .inr (.inr (.inl ⟨h2, rfl, by simp [h2]⟩))
    · exact .inr (.inl ⟨h1, by simpa using h2, by simp [h1, h2]⟩)
section
variable {w w' : World} {g : Nat} {A : Option Addr} {n cp : Nat} {c : Int} {L : List DU}
set_option maxHeartbeats 6400000 in
theorem rfirst_any (h : RS w g A n cp c L) (hn : n ≤ 1000000) :
    Calls Try.prog 31 #[.pointer (some ⟨g, 0, none⟩)] w fun e w' => ∃ r, e = .returned (.int .i64 r) ∧ isFirst L r ∧ Keeps (fun _ => False) w w' := by
  have T := Lib.hid h
  have HL := Lib.hid h.len
  clear h
  go_enter Try.func31, Try.ntmps31
  go_wp2_with fail
  go_loopw [3, 4] (fun v3 v4 wr => ∃ (k : Nat) (r : Int), v3 = .int .i64 r ∧ v4 = .int .i64 k ∧ k ≤ n ∧ bestOf L k r ∧ Keeps (fun _ => False) w wr) (fun _ v4 _ => n - (intOf v4).toNat)
  case atStart => exact ⟨0, -1, rfl, rfl, Nat.zero_le _, .inl ⟨rfl, rfl⟩, Keeps.refl _ _⟩
  case round =>
    obtain ⟨k, r, rfl, rfl, hk, hb, kk⟩ := hrel
    have TR := T.out.keep0 kk
    have c1 := TR.box.cell 1
    simp at c1
    have KK := Lib.hid kk
    have TRH := Lib.hid TR
    have HB := Lib.hid hb
    clear kk TR
    by_cases hkn : k < n
    · obtain ⟨x, hx⟩ : ∃ x, L[k]? = some x := ⟨_, List.getElem?_eq_getElem (by rw [HL.out]; exact hkn)⟩
      obtain ⟨b, _, hv, _⟩ := TRH.out.row.form (by rw [HL.out]; omega)
      injection hv with hA hn2 hc2
      subst hA
      have p0 := TRH.out.row.at_ hx (j := 0) rfl
      have p1 := TRH.out.row.at_ hx (j := 1) rfl
      have p2 := TRH.out.row.at_ hx (j := 2) rfl
      simp [due] at p0 p1 p2
      have hblt : b < wr.heap.size := TRH.out.row.lt rfl
      have hglt : g < wr.heap.size := TRH.out.box.lt
      have HX := Lib.hid hx
      have el := elem40
      clear hx hn2 hc2
      rcases hb with ⟨rfl, rfl⟩ | ⟨j, y, rfl, hjk, hy, hmin⟩
      · go_wp2_with fail
        exact ⟨⟨1, 0, by go_num, by go_num, by omega, bestOf.first HX.out, KK.out.alloc _⟩, by simp [intOf]; omega⟩
      · have q0 := TRH.out.row.at_ hy (j := 0) rfl
        have q1 := TRH.out.row.at_ hy (j := 1) rfl
        have q2 := TRH.out.row.at_ hy (j := 2) rfl
        simp [due] at q0 q1 q2
        have hjn : (j : Int) < n := by omega
        have hj0 : ¬ (j : Int) < 0 := by omega
        have HMIN := Lib.hid hmin
        have HY := Lib.hid hy
        clear hmin hy HB
        rcases ltD_cases x y with ⟨h1, hl⟩ | ⟨h1, h2, hl⟩ | ⟨h1, h2, hl⟩ | ⟨h1, h2, h3, hl⟩ | ⟨h1, h2, h3, h4, hl⟩ | ⟨h1, h2, h3, h4, hl⟩
        · have HLT := Lib.hid hl
          clear hl
          go_wp2_with fail
          exact ⟨⟨k + 1, k, by go_num, by go_num, by omega, bestOf.new HX.out HMIN.out HLT.out hjk, (KK.out.alloc _).alloc _⟩, by simp [intOf]; omega⟩
        · have HLT := Lib.hid hl
          clear hl
          go_wp2_with fail
          exact ⟨⟨k + 1, j, by go_num, by go_num, by omega, bestOf.next HX.out hjk HY.out HMIN.out HLT.out, (KK.out.alloc _).alloc _⟩, by simp [intOf]; omega⟩
        · have HLT := Lib.hid hl
          clear hl
          have t1 : ¬ x.at_ < y.at_ := by omega
          have t2 : (x.at_ == y.at_) = true := by simp [h1]
          clear h1
          go_wp2_with fail
          exact ⟨⟨k + 1, k, by go_num, by go_num, by omega, bestOf.new HX.out HMIN.out HLT.out hjk, (KK.out.alloc _).alloc _⟩, by simp [intOf]; omega⟩
        · have HLT := Lib.hid hl
          clear hl
          have t1 : ¬ x.at_ < y.at_ := by omega
          have t2 : (x.at_ == y.at_) = true := by simp [h1]
          clear h1
          go_wp2_with fail
          exact ⟨⟨k + 1, j, by go_num, by go_num, by omega, bestOf.next HX.out hjk HY.out HMIN.out HLT.out, (KK.out.alloc _).alloc _⟩, by simp [intOf]; omega⟩
        · have HLT := Lib.hid hl
          clear hl
          have t1 : ¬ x.at_ < y.at_ := by omega
          have t2 : (x.at_ == y.at_) = true := by simp [h1]
          clear h1
          go_wp2_with fail
          exact ⟨⟨k + 1, k, by go_num, by go_num, by omega, bestOf.new HX.out HMIN.out HLT.out hjk, (KK.out.alloc _).alloc _⟩, by simp [intOf]; omega⟩
        · have HLT := Lib.hid hl
          clear hl
          have t1 : ¬ x.at_ < y.at_ := by omega
          have t2 : (x.at_ == y.at_) = true := by simp [h1]
          clear h1
          go_wp2_with fail
          exact ⟨⟨k + 1, j, by go_num, by go_num, by omega, bestOf.next HX.out hjk HY.out HMIN.out HLT.out, (KK.out.alloc _).alloc _⟩, by simp [intOf]; omega⟩
    · have hkn' : k = n := by omega
      subst hkn'
      clear hb
      go_wp2_with fail
      go_ret
      exact ⟨r, rfl, HB.out.done HL.out, KK.out⟩
end
end Go.Proofs.Yteeginfbonfhlaa
