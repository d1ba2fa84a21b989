/- The first one: walked. -/
import Derived.Test.YtfidhnplaieacaaW4
namespace Go.Proofs.Ytfidhnplaieacaa
open Go.RowKit Mem
theorem results_three {P : Program} {fn : Func} {p0 p u : Tmp} {ty : TypeId} (h : fn.results = #[.tmp p0, .cell p ty, .tmp u]) (tmps : Array Value) (w : World) (g : Nat) (t : TypeId) (cs : Array Value) (fr : Nat × Nat) (d : TypeDesc)
    (hp : tmps.getD p undef = .pointer (some ⟨g, 0, none⟩)) (hg : w.heap[g]? = some (.cells cs t fr))
    (hu : P.underlying ty = some d) (hd : (match d with | .struct _ | .array _ _ => true | _ => false) = true) (hi : (P.info? ty).map (·.size) = some cs.size) :
    (results fn tmps).run P w = .ok (.tuple #[tmps.getD p0 undef, .agg cs, tmps.getD u undef]) w := by
  have e : (results fn tmps).run P w = ((asAddr (tmps.getD p undef)).run P w).andThen fun a w₁ => ((loadVar ty a).run P w₁).andThen fun v w₂ => .ok (.tuple #[tmps.getD p0 undef, v, tmps.getD u undef]) w₂ := by
    simp only [results, h]
    simp [Sem.run_bind, Result.andThen]
  rw [e, hp]
  simp [asAddr, run_loadVar_row w g t ty cs fr d hg hu hd hi, Result.andThen]
section
variable {w : World} {g most : Nat} {A : Option Addr} {n c : Nat} {way : Bool} {l : List AD}
set_option maxHeartbeats 1600000 in
theorem first_no (d : QS w g most A n c way l) (b : Bool) (hno : n = 0 ∨ way ≠ b) :
    Calls Try.prog 31 #[.pointer (some ⟨g, 0, none⟩), .bool b] w fun e w' => e = .returned (.tuple #[.string ⟨#[]⟩, .agg #[.int .i64 0, .slice none 0 0], .bool false]) ∧ Keeps (fun _ => False) w w' := by
  obtain ⟨w1, hw1⟩ : ∃ w1, w1 = w.alloc (.cells #[.int .i64 0, .slice none 0 0] 32) := ⟨_, rfl⟩
  have k1 : Keeps (fun _ => False) w w1 := by rw [hw1]; exact (Keeps.refl _ w).alloc _
  have r1 : Blk w1 w.heap.size 32 #[.int .i64 0, .slice none 0 0] := by rw [hw1]; exact Blk.new w 32 _ _ rfl
  have d1 := d.box.keeps k1 (fun h => h)
  have c1 := d1.cell 1
  have c2 := d1.cell 2
  have l0 := r1.cell 0
  have l1 := r1.cell 1
  have e0 := r1.frozen 0
  have e1 := r1.frozen 1
  simp at c1 c2 l0 l1
  have R1 := Lib.hid r1
  have K1 := Lib.hid k1
  have HW1 := Lib.hid hw1
  clear d d1 r1 k1 hw1
  by_cases hn : n = 0
  · subst hn
    clear hno
    go_enter Try.func31, Try.ntmps31
    go_upto_region 1 with fail
    rw [← HW1.out]
    go_wp2_with fail
    have hb3 : Blk ((w1.setCell ⟨w.heap.size, 0, none⟩ (.int .i64 0)).setCell ⟨w.heap.size, 1, none⟩ (.slice none 0 0)) w.heap.size 32 #[.int .i64 0, .slice none 0 0] := (R1.out.set 0 _).set 1 _
    (try simp only [Exit.inBlock, Exit.then])
    refine bodyPost_ret (results_three rfl _ _ w.heap.size 32 #[.int .i64 0, .slice none 0 0] (0, 0) _ rfl hb3 Try.underlying32 rfl (by kernel_rfl)) rfl ?_
    exact ⟨rfl, (K1.out.setCell _ _ (fun h => by simp at h)).setCell _ _ (fun h => by simp at h)⟩
  · have t1 : ((n : Int) == 0) = false := by simp; omega
    have hwb : way = !b := by
      rcases hno with h | h
      · exact absurd h hn
      · cases way <;> cases b <;> simp_all
    subst hwb
    clear hn hno
    cases b
    all_goals
      go_enter Try.func31, Try.ntmps31
      go_upto_region 1 with fail
      rw [← HW1.out]
      go_wp2_with fail
      have hb3 : Blk ((w1.setCell ⟨w.heap.size, 0, none⟩ (.int .i64 0)).setCell ⟨w.heap.size, 1, none⟩ (.slice none 0 0)) w.heap.size 32 #[.int .i64 0, .slice none 0 0] := (R1.out.set 0 _).set 1 _
      (try simp only [Exit.inBlock, Exit.then])
      refine bodyPost_ret (results_three rfl _ _ w.heap.size 32 #[.int .i64 0, .slice none 0 0] (0, 0) _ rfl hb3 Try.underlying32 rfl (by kernel_rfl)) rfl ?_
      exact ⟨rfl, (K1.out.setCell _ _ (fun h => by simp at h)).setCell _ _ (fun h => by simp at h)⟩
set_option maxHeartbeats 3200000 in
theorem first_yes (d : QS w g most A n c way l) {a : AD} {l' : List AD} (hl : l = a :: l') :
    Calls Try.prog 31 #[.pointer (some ⟨g, 0, none⟩), .bool way] w fun e w' => ∃ A' c', e = .returned (.tuple #[.string a.name, .agg #[.int .i64 a.ty, .slice A' a.n c'], .bool true]) ∧ Own fld w' w.heap.size 51 (.slice A' a.n c') a.fs ∧ A' ≠ none ∧ Keeps (fun _ => False) w w' := by
  obtain ⟨w1, hw1⟩ : ∃ w1, w1 = w.alloc (.cells #[.int .i64 0, .slice none 0 0] 32) := ⟨_, rfl⟩
  have k1 : Keeps (fun _ => False) w w1 := by rw [hw1]; exact (Keeps.refl _ w).alloc _
  have r1 : Blk w1 w.heap.size 32 #[.int .i64 0, .slice none 0 0] := by rw [hw1]; exact Blk.new w 32 _ _ rfl
  have d1 := d.keep k1
  have hl0 : l[0]? = some a := by rw [hl]; rfl
  obtain ⟨b6, c6, hv6, _, hb6l, _⟩ := d1.row.form (by rw [hl]; simp)
  injection hv6 with hA6 hn6 hc6
  have hn0 : 0 < n := by rw [hn6, hl]; simp
  subst hA6
  have hb6 : b6 < w.heap.size := d.row.lt (k := b6) rfl
  have t1 : ((n : Int) == 0) = false := by simp; omega
  have t2 : (0 : Int) < n := by omega
  have c1 := d1.box.cell 1
  have c2 := d1.box.cell 2
  have q0 := d1.row.at_ hl0 (j := 0) rfl
  have q1 := d1.row.at_ hl0 (j := 1) rfl
  have q2 := d1.row.at_ hl0 (j := 2) rfl
  simp [adv] at c1 c2 q0 q1 q2
  have oka := d1.ok a (by rw [hl]; simp)
  have RA := Lib.hid oka.reads
  have hA2 := oka.2
  have hbb : b6 < w1.heap.size := hb6l
  have hgl := d.box.lt
  have hsz : w1.heap.size = w.heap.size + 1 := by rw [hw1]; simp
  have hel := elem59
  have D1 := Lib.hid d1
  have R1 := Lib.hid r1
  have K1 := Lib.hid k1
  have HW1 := Lib.hid hw1
  clear d d1 r1 k1 hw1 hl0 hl oka hb6l hn6 hc6
  have facts : w1.cell? ⟨g, 1, none⟩ = some (.slice (some ⟨b6, 0, none⟩) n c) ∧ w1.cell? ⟨b6, 0, none⟩ = some (.string a.name) ∧ w1.cell? ⟨b6, 1, none⟩ = some (.int .i64 a.ty) ∧ w1.cell? ⟨b6, 2, none⟩ = some (.slice a.A a.n a.c) := ⟨c1, q0, q1, q2⟩
  have FA := Lib.hid facts
  clear facts
  cases way
  all_goals
    go_enter Try.func31, Try.ntmps31
    go_upto_region 1 with fail
    rw [← HW1.out]
    go_upto_region 3 with fail
    go_region_held3 (fun w' => w'.cell? ⟨g, 1, none⟩ = some (.slice (some ⟨b6, 0, none⟩) n c) ∧ w'.cell? ⟨b6, 0, none⟩ = some (.string a.name) ∧ w'.cell? ⟨b6, 1, none⟩ = some (.int .i64 a.ty) ∧ w'.cell? ⟨b6, 2, none⟩ = some (.slice a.A a.n a.c)) (first | exact FA.out | exact ⟨u1, v0, v1, v2⟩ | exact FZ.out)
      (first | (go_at_call 30; refine (own_any a.ty a.A a.n a.c a.fs w1.drew RA.out hA2).mono ?_
                rintro e w3 ⟨A', c', rfl, o3, hA3, k3⟩
                have k3' : Keeps (fun _ => False) w1 w3 := ((Keeps.refl (fun _ => False) w1).drew).trans k3 (fun _ _ h => h)
                have u1 := k3'.cell (fun h => h) FA.out.1
                have v0 := k3'.cell (fun h => h) FA.out.2.1
                have v1 := k3'.cell (fun h => h) FA.out.2.2.1
                have v2 := k3'.cell (fun h => h) FA.out.2.2.2
                have hb := R1.out.keeps k3' (fun h => h)
                have b0 := hb.cell 0
                have b1 := hb.cell 1
                have f0 := hb.frozen 0
                have f1 := hb.frozen 1
                simp at b0 b1
                have kz : Keeps (fun b => b = w.heap.size) w1 ((w3.setCell ⟨w.heap.size, 0, none⟩ (.int .i64 a.ty)).setCell ⟨w.heap.size, 1, none⟩ (.slice A' a.n c')) := ((k3'.mono (S' := fun b => b = w.heap.size) (fun _ _ h => h.elim)).setCell _ _ (fun _ => rfl)).setCell _ _ (fun _ => rfl)
                have FZ := Lib.hid (And.intro (kz.cell (Nat.ne_of_lt hgl) FA.out.1) (And.intro (kz.cell (Nat.ne_of_lt hb6) FA.out.2.1) (And.intro (kz.cell (Nat.ne_of_lt hb6) FA.out.2.2.1) (kz.cell (Nat.ne_of_lt hb6) FA.out.2.2.2))))
                have HB := Lib.hid hb
                have O3 := Lib.hid o3
                have K3 := Lib.hid k3'
                clear hb o3 k3 k3' kz))
    all_goals
      go_wp2_with fail
      have hb3 : Blk ((w3.setCell ⟨w.heap.size, 0, none⟩ (.int .i64 a.ty)).setCell ⟨w.heap.size, 1, none⟩ (.slice A' a.n c')) w.heap.size 32 #[.int .i64 a.ty, .slice A' a.n c'] := (HB.out.set 0 _).set 1 _
      (try simp only [Exit.inBlock, Exit.then])
      refine bodyPost_ret (results_three rfl _ _ w.heap.size 32 #[.int .i64 a.ty, .slice A' a.n c'] (0, 0) _ rfl hb3 Try.underlying32 rfl (by kernel_rfl)) rfl ?_
      have hlt : ∀ q, (Value.slice A' a.n c').ownBlock = some q → w.heap.size + 1 ≤ q := fun q hq => by have h1 := O3.out.base_le hq; have h2 : w1.drew.heap.size = w1.heap.size := rfl; omega
      refine ⟨A', c', rfl, ?_, hA3, ((K1.out.trans K3.out (fun _ _ h => h)).setCell _ _ (fun h => by simp at h)).setCell _ _ (fun h => by simp at h)⟩
      exact ((O3.out.setCell _ _ (fun q hq e => by have := hlt q hq; simp at e; omega)).setCell _ _ (fun q hq e => by have := hlt q hq; simp at e; omega)).rebase _ (fun q hq => by have := hlt q hq; omega)
end
end Go.Proofs.Ytfidhnplaieacaa
