/- A clone; which call; a name of many: walked. -/
import Derived.Test.YtfidhnplaieacaaW7
namespace Go.Proofs.Ytfidhnplaieacaa
open Go.RowKit Mem
set_option maxHeartbeats 1600000 in
theorem rowClone_any (w : World) (base : Nat) (A : Option Addr) (n c : Nat) (l : List AD) (hown : Own adv w base 59 (.slice A n c) l) (hn : n ≤ 100) :
    Calls Try.prog 33 #[.slice A n c] w fun e w' => ∃ A' c', e = .returned (.slice A' n c') ∧ Own adv w' w.heap.size 59 (.slice A' n c') l ∧ Keeps (fun _ => False) w w' := by
  have hl := hown.len_eq rfl
  cases A with
  | none =>
    obtain ⟨rfl, rfl⟩ := own_none hown rfl
    have hl0 : l = [] := List.length_eq_zero_iff.1 hl
    subst hl0
    have he : ∀ W, (binOp BinOp.eql 54 (.slice none 0 0) (.slice none 0 0)).run Try.prog W = .ok (.bool true) W := fun W => by kernel_rfl
    clear hown hl
    go_enter Try.func33, Try.ntmps33
    go_wp2_with fail
    go_ret
    exact ⟨none, 0, rfl, Own.nil _ _ _ _, Keeps.refl _ _⟩
  | some ad =>
    have HL := Lib.hid hl
    have HR := Lib.hid (own_reads hown)
    have he : ∀ W, (binOp BinOp.eql 54 (.slice (some ad) n c) (.slice none 0 0)).run Try.prog W = .ok (.bool false) W := fun W => by kernel_rfl
    clear hown hl
    go_enter Try.func33, Try.ntmps33
    go_wp2_with (first | (at_builtin; refine wp_append elem59 (by rfl) (.tmp 5) (.tmp 6) (by rfl) w.heap.size (.slice (some ⟨w.heap.size, 0, none⟩) 0 0) [] l (some ad) n c rfl rfl (own_empty adv w 59 w.heap.size w.heap.size rfl (Nat.le_refl _)) (HR.out.alloc _) (by simp; omega) (by simp [maxLen]; omega) (by simp) ?_
                          intro v3 w3 own3 gr3 at3
                          obtain ⟨A3, c3, hv3, _⟩ := Own.val (n := n) own3 (by simpa using HL.out)
                          subst hv3
                          have K3 := Lib.hid (app_empty w w.heap.size rfl gr3)
                          have O3 := Lib.hid own3
                          clear own3 gr3 at3))
    go_ret
    exact ⟨A3, c3, rfl, by simpa using O3.out, K3.out⟩
section
variable {w : World} {g most : Nat} {A : Option Addr} {n c : Nat} {way : Bool} {l : List AD}
set_option maxHeartbeats 3200000 in
theorem clone_any (d : QS w g most A n c way l) :
    Calls Try.prog 19 #[.pointer (some ⟨g, 0, none⟩)] w fun e w' => ∃ g' A' c', e = .returned (.pointer (some ⟨g', 0, none⟩)) ∧ QS w' g' most A' n c' way l ∧ w.heap.size ≤ g' ∧ (∀ q, (Value.slice A' n c').ownBlock = some q → w.heap.size ≤ q) ∧ Keeps (fun _ => False) w w' := by
  have c0 := d.box.cell 0
  have c1 := d.box.cell 1
  have c2 := d.box.cell 2
  simp at c0 c1 c2
  have hr := d.room
  have hf := d.few
  have facts : w.cell? ⟨g, 0, none⟩ = some (.int .i64 most) ∧ w.cell? ⟨g, 1, none⟩ = some (.slice A n c) ∧ w.cell? ⟨g, 2, none⟩ = some (.bool way) := ⟨c0, c1, c2⟩
  have FA := Lib.hid facts
  have D := Lib.hid d
  clear facts d
  go_enter Try.func19, Try.ntmps19
  go_upto_region 1 with fail
  go_region_held3 (fun w' => w'.cell? ⟨g, 0, none⟩ = some (.int .i64 most) ∧ w'.cell? ⟨g, 1, none⟩ = some (.slice A n c) ∧ w'.cell? ⟨g, 2, none⟩ = some (.bool way)) (first | exact FA.out | exact FZ.out | exact FY.out)
    (first | (go_at_call 33; refine (rowClone_any w.drew 0 A n c l D.out.row.drew (by omega)).mono ?_
              rintro e w3 ⟨A', c', rfl, o3, k3⟩
              have k3' : Keeps (fun _ => False) w w3 := ((Keeps.refl (fun _ => False) w).drew).trans k3 (fun _ _ h => h)
              have FZ := Lib.hid (And.intro (k3'.cell (fun h => h) FA.out.1) (And.intro (k3'.cell (fun h => h) FA.out.2.1) (k3'.cell (fun h => h) FA.out.2.2)))
              have ka := k3'.alloc (.cells #[.int .i64 most, .slice A' n c', .bool way] 56)
              have FY := Lib.hid (And.intro (ka.cell (fun h => h) FA.out.1) (And.intro (ka.cell (fun h => h) FA.out.2.1) (ka.cell (fun h => h) FA.out.2.2)))
              have O3 := Lib.hid o3
              have K3 := Lib.hid k3'
              clear o3 k3 k3' ka))
  all_goals
    go_wp2_with fail
    go_ret
    have ka := K3.out.alloc (.cells #[.int .i64 most, .slice A' n c', .bool way] 56)
    refine ⟨w3.heap.size, A', c', rfl, ⟨Blk.new w3 56 _ _ rfl, (O3.out.rebase 0 (fun _ _ => Nat.zero_le _)).alloc _, fun a ha => (D.out.ok a ha).keeps ka (fun _ _ h => h), D.out.one, hf, hr, D.out.way1⟩, K3.out.size, fun q hq => O3.out.base_le hq, ka⟩
end
/-- Which of the eight. -/
def kindOf (n : Int) : Int := (if n < 0 then -(n + 1) else n) % 8
set_option maxHeartbeats 800000 in
theorem kind_any (n : Int) (hr : -9223372036854775808 ≤ n ∧ n ≤ 9223372036854775807) (w : World) : Calls Try.prog 15 #[.int .i64 n] w fun e w' => e = .returned (.int .i64 (kindOf n)) ∧ w' = w := by
  by_cases h : n < 0
  · obtain ⟨m, hm⟩ : ∃ m, m = -(n + 1) := ⟨_, rfl⟩
    have e : kindOf n = m % 8 := by unfold kindOf; rw [if_pos h, hm]
    rw [e]
    have hw : IntKind.i64.wrap (n + 1) = n + 1 := IntWalk.i64_in _ (by omega)
    have hw2 : IntKind.i64.wrap (-(n + 1)) = m := by rw [hm]; exact IntWalk.i64_in _ (by omega)
    have hw3 : -(n + 1) = m := hm.symm
    have h0 : 0 ≤ m := by omega
    have h1 : m ≤ 9223372036854775807 := by omega
    have h2 : ¬ m < 0 := by omega
    have hw4 : IntKind.i64.wrap m = m := IntWalk.i64_in _ (by omega)
    clear e hm
    go_enter Try.func15, Try.ntmps15
    go_wp2_with fail
    go_ret
    exact ⟨rfl, rfl⟩
  · have e : kindOf n = n % 8 := by unfold kindOf; rw [if_neg h]
    rw [e]
    clear e
    go_enter Try.func15, Try.ntmps15
    go_wp2_with fail
    go_ret
    exact ⟨rfl, rfl⟩
/-- One of many names. -/
def nameB (n : Nat) : ByteArray := strB [97 + n / 26, 97 + n % 26]
set_option maxHeartbeats 1600000 in
theorem name_any (n : Nat) (hn : n ≤ 100) (w : World) : Calls Try.prog 9 #[.int .i64 n] w fun e w' => e = .returned (.string (nameB n)) ∧ Keeps (fun _ => False) w w' := by
  have q1 : IntKind.u8.wrap (97 + (n : Int) / 26) = ((97 + n / 26 : Nat) : Int) := by rw [IntKind.wrap_u8]; omega
  have q2 : IntKind.u8.wrap (97 + (n : Int) % 26) = ((97 + n % 26 : Nat) : Int) := by rw [IntKind.wrap_u8]; omega
  have e1 : ((97 + n / 26 : Nat) : Int) = 97 + (n : Int) / 26 := by omega
  have e2 : ((97 + n % 26 : Nat) : Int) = 97 + (n : Int) % 26 := by omega
  have hb : Blk (w.alloc (.cells #[.int .u8 (97 + (n : Int) / 26), .int .u8 (97 + (n : Int) % 26)] 5)) w.heap.size 5 #[.int .u8 (97 + (n : Int) / 26), .int .u8 (97 + (n : Int) % 26)] := Blk.new w 5 _ _ rfl
  have hr : Reads byte (w.alloc (.cells #[.int .u8 (97 + (n : Int) / 26), .int .u8 (97 + (n : Int) % 26)] 5)) (some ⟨w.heap.size, 0, none⟩) 2 [97 + n / 26, 97 + n % 26] := hb.reads _ (by rw [byte_all, List.map_cons, List.map_cons, List.map_nil, e1, e2]) rfl
  have hcv := hr.str (P := Try.prog) 2 62 5 9 Try.underlying62 Try.underlying5 Try.underlying9
  have hk : Keeps (fun _ => False) w (w.alloc (.cells #[.int .u8 (97 + (n : Int) / 26), .int .u8 (97 + (n : Int) % 26)] 5)) := (Keeps.refl _ w).alloc _
  have HK := Lib.hid hk
  clear hb hr e1 e2 hk
  go_enter Try.func9, Try.ntmps9
  go_wp2_with fail
  go_ret
  exact ⟨rfl, HK.out⟩
end Go.Proofs.Ytfidhnplaieacaa
