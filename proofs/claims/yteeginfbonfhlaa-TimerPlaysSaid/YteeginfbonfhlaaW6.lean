/- Timers: what they lie in; what is due first: walked. -/
import Derived.Test.YteeginfbonfhlaaW5
import Derived.Test.YteeginfbonfhlaaM1
import Derived.Test.YteeginfbonfhlaaFoot
namespace Go.Proofs.Yteeginfbonfhlaa
open Go.RowKit Mem
theorem results_cell_tmp {P : Program} {fn : Func} {p u : Tmp} {ty : TypeId} (h : fn.results = #[.cell p ty, .tmp u]) (tmps : Array Value) (w : World) :
    (results fn tmps).run P w = ((asAddr (tmps.getD p undef)).run P w).andThen fun a w₁ => ((loadVar ty a).run P w₁).andThen fun v w₂ => .ok (.tuple #[v, tmps.getD u undef]) w₂ := by
  simp only [results, h]
  simp [Sem.run_bind, Result.andThen]
theorem results_cell_row_tmp {P : Program} {fn : Func} {p u : Tmp} {ty : TypeId} (h : fn.results = #[.cell p ty, .tmp u]) (tmps : Array Value) (w : World) (g : Nat) (t : TypeId) (cs : Array Value) (fr : Nat × Nat) (d : TypeDesc)
    (hp : tmps.getD p undef = .pointer (some ⟨g, 0, none⟩)) (hg : w.heap[g]? = some (.cells cs t fr))
    (hu : P.underlying ty = some d) (hd : (match d with | .struct _ | .array _ _ => true | _ => false) = true) (hi : (P.info? ty).map (·.size) = some cs.size) :
    (results fn tmps).run P w = .ok (.tuple #[.agg cs, tmps.getD u undef]) w := by
  rw [results_cell_tmp h, hp]
  simp [asAddr, run_loadVar_row w g t ty cs fr d hg hu hd hi, Result.andThen]
/-- A thing whose parts are Go's. -/
def okD (d : DU) : Prop := isStr d.key ∧ isInt d.kind ∧ 0 ≤ d.at_ ∧ d.at_ ≤ 1125899906842624
theorem okD.at_int {d : DU} (h : okD d) : isInt d.at_ := by have := h.2.2; unfold isInt; omega
/-- Timers: their own block, the map, the heap's row. -/
structure TS (w : World) (g mb : Nat) (A : Option Addr) (n cp : Nat) (c : Int) (H L : List DU) (N : Nat) : Prop where
  box : Blk w g 54 #[.int .i64 c, .map (some mb), .slice A n cp]
  map : TM w mb N L
  row : Own due w 0 34 (.slice A n cp) H
  heap : Heap (fn H) n
  sub : ∀ d ∈ L, d ∈ H
  unl : Unlike L
  ok : ∀ d ∈ H, okD d
  few : n ≤ N
  clk : 0 ≤ c ∧ c ≤ 1125899906842624
/-- What timers lie in. -/
def tfoot (g mb : Nat) (A : Option Addr) (q : Nat) : Prop := q = g ∨ q = mb ∨ (Value.slice A 0 0).ownBlock = some q
theorem own_of (A : Option Addr) (n cp : Nat) : (Value.slice A n cp).ownBlock = (Value.slice A 0 0).ownBlock := by
  cases A with
  | none => rfl
  | some a => unfold Value.ownBlock; rfl
section
variable {w w' : World} {g mb : Nat} {A : Option Addr} {n cp : Nat} {c : Int} {H L : List DU} {N : Nat}
theorem TS.len (h : TS w g mb A n cp c H L N) : H.length = n := h.row.len_eq rfl
theorem TS.keep {S : Nat → Prop} (h : TS w g mb A n cp c H L N) (K : Keeps S w w') (hS : ∀ q, tfoot g mb A q → ¬ S q) : TS w' g mb A n cp c H L N :=
  ⟨h.box.keeps K (hS g (.inl rfl)), h.map.keeps K (hS mb (.inr (.inl rfl))), h.row.keeps K (fun q hq => hS q (.inr (.inr (by rw [← own_of A n cp]; exact hq)))), h.heap, h.sub, h.unl, h.ok, h.few, h.clk⟩
theorem TS.keep0 (h : TS w g mb A n cp c H L N) (K : Keeps (fun _ => False) w w') : TS w' g mb A n cp c H L N := h.keep K (fun _ _ h => h)
theorem TS.lt (h : TS w g mb A n cp c H L N) {q : Nat} (hq : tfoot g mb A q) : q < w.heap.size := by
  rcases hq with rfl | rfl | hq
  · exact h.box.lt
  · exact h.map.lt
  · exact h.row.lt (by rw [own_of]; exact hq)
/-- The answer of what is due first. -/
def firstV (o : Option DU) : Value := match o with
  | some x => .tuple #[.agg #[.int .i64 x.at_, .string x.key, .int .i64 x.kind], .bool true]
  | none => .tuple #[.agg #[.int .i64 0, .string ⟨#[]⟩, .int .i64 0], .bool false]
/-- How long the row in a cell is. -/
def lenAt (v : Option Value) : Nat := match v with
  | some (.slice _ n _) => n
  | _ => 0
set_option maxHeartbeats 6400000 in
theorem first_any (h : TS w g mb A n cp c H L N) (hN : N < 1000000) :
    Calls Try.prog 26 #[.pointer (some ⟨g, 0, none⟩)] w fun e w' => e = .returned (firstV (minD L)) ∧ ∃ n' H', TS w' g mb A n' cp c H' L N ∧ (∀ x, minD L = some x → fn H' 0 = x ∧ 0 < n') ∧ Keeps (tfoot g mb A) w w' := by
  obtain ⟨w1, hw1⟩ : ∃ w1, w1 = w.alloc (.cells #[.int .i64 0, .string ⟨#[]⟩, .int .i64 0] 34) := ⟨_, rfl⟩
  have k1 : Keeps (fun _ => False) w w1 := by rw [hw1]; exact (Keeps.refl _ w).alloc _
  have r1 : Blk w1 w.heap.size 34 #[.int .i64 0, .string ⟨#[]⟩, .int .i64 0] := by rw [hw1]; exact Blk.new w 34 _ _ rfl
  have T0 := Lib.hid h
  have T1 := Lib.hid (h.keep0 k1)
  have R1 := Lib.hid r1
  have K1 := Lib.hid k1
  have HW := Lib.hid hw1
  have hgl := h.box.lt
  clear h k1 r1 hw1
  go_enter Try.func26, Try.ntmps26
  go_upto_region 1 with fail
  rw [← HW.out]
  go_loopw [4] (fun _ wr => ∃ (n' : Nat) (H' : List DU), TS wr g mb A n' cp c H' L N ∧ Blk wr w.heap.size 34 #[.int .i64 0, .string ⟨#[]⟩, .int .i64 0] ∧ Keeps (tfoot g mb A) w1 wr) (fun _ wr => lenAt (wr.cell? ⟨g, 2, none⟩))
  case atStart => exact ⟨n, H, T1.out, R1.out, Keeps.refl _ _⟩
  case round =>
    obtain ⟨n', H', ts, rr, kk⟩ := hrel
    have TR := Lib.hid ts
    have RR := Lib.hid rr
    have KK := Lib.hid kk
    have hl := ts.len
    have b1 := ts.box.cell 1
    have b2 := ts.box.cell 2
    have l0 := rr.cell 0
    have l1 := rr.cell 1
    have l2 := rr.cell 2
    have e0 := rr.frozen 0
    have e1 := rr.frozen 1
    have e2 := rr.frozen 2
    simp at b1 b2 l0 l1 l2
    clear ts rr kk
    rcases Nat.eq_zero_or_pos n' with h0 | h0
    · subst h0
      have hH : H' = [] := List.length_eq_zero_iff.1 hl
      subst hH
      have hL : L = [] := List.eq_nil_iff_forall_not_mem.2 fun d hd => by have := TR.out.sub d hd; cases this
      have hm : minD L = none := minD_none.2 hL
      clear hl
      go_wp2_with fail
      have hb3 : Blk (((wr.setCell ⟨w.heap.size, 0, none⟩ (.int .i64 0)).setCell ⟨w.heap.size, 1, none⟩ (.string ⟨#[]⟩)).setCell ⟨w.heap.size, 2, none⟩ (.int .i64 0)) w.heap.size 34 #[.int .i64 0, .string ⟨#[]⟩, .int .i64 0] := ((RR.out.set 0 _).set 1 _).set 2 _
      (try simp only [Exit.inBlock, Exit.then])
      refine bodyPost_ret (results_cell_row_tmp rfl _ _ w.heap.size 34 #[.int .i64 0, .string ⟨#[]⟩, .int .i64 0] (0, 0) _ rfl hb3 Try.underlying34 rfl (by kernel_rfl)) rfl ?_
      have kz : Keeps (fun q => q = w.heap.size) wr (((wr.setCell ⟨w.heap.size, 0, none⟩ (.int .i64 0)).setCell ⟨w.heap.size, 1, none⟩ (.string ⟨#[]⟩)).setCell ⟨w.heap.size, 2, none⟩ (.int .i64 0)) := (((Keeps.refl (fun q => q = w.heap.size) wr).setCell _ _ (fun _ => rfl)).setCell _ _ (fun _ => rfl)).setCell _ _ (fun _ => rfl)
      refine ⟨by rw [hm]; rfl, 0, [], TR.out.keep kz (fun q hq e => by have := T0.out.lt hq; omega), (fun x hx => by rw [hm] at hx; cases hx), ((K1.out.mono (S' := tfoot g mb A) (fun _ _ h => h.elim)).trans KK.out (fun _ _ h => h)).trans kz (fun q hq e => by omega)⟩
    · obtain ⟨b, _, hv, _⟩ := TR.out.row.form (by rw [hl]; exact h0)
      injection hv with hA hn2 hc2
      subst hA
      obtain ⟨m, hm⟩ : ∃ m, n' = m + 1 := ⟨n' - 1, by omega⟩
      subst hm
      have hg0 : H'[0]? = some (fn H' 0) := get_fn (by omega)
      obtain ⟨x, hx⟩ : ∃ x, x = fn H' 0 := ⟨_, rfl⟩
      rw [← hx] at hg0
      have p0 := TR.out.row.at_ hg0 (j := 0) rfl
      have p1 := TR.out.row.at_ hg0 (j := 1) rfl
      have p2 := TR.out.row.at_ hg0 (j := 2) rfl
      simp [due] at p0 p1 p2
      have hxm : x ∈ H' := List.mem_of_getElem? hg0
      have hok := TR.out.ok x hxm
      have hblt : b < wr.heap.size := TR.out.row.lt rfl
      have t1 : (0 : Int) < ((m : Int) + 1) := by omega
      have el := elem34
      obtain ⟨w5, hw5⟩ : ∃ w5, w5 = wr.alloc (.cells #[.int .i64 x.at_, .string x.key, .int .i64 x.kind] 34) := ⟨_, rfl⟩
      have k5 : Keeps (fun _ => False) wr w5 := by rw [hw5]; exact (Keeps.refl _ wr).alloc _
      have x5 : Blk w5 wr.heap.size 34 #[.int .i64 x.at_, .string x.key, .int .i64 x.kind] := by rw [hw5]; exact Blk.new wr 34 _ _ rfl
      have ts5 := TR.out.keep0 k5
      have rr5 := RR.out.keeps k5 (fun h => h)
      have y0 := x5.cell 0
      have y1 := x5.cell 1
      have y2 := x5.cell 2
      have d1 := ts5.box.cell 1
      have l0' := rr5.cell 0
      have l1' := rr5.cell 1
      have l2' := rr5.cell 2
      have e0' := rr5.frozen 0
      have e1' := rr5.frozen 1
      have e2' := rr5.frozen 2
      simp at y0 y1 y2 d1 l0' l1' l2'
      obtain ⟨gv, hgv⟩ : ∃ gv, gv = (getA L x.key x.kind).getD 0 := ⟨_, rfl⟩
      obtain ⟨gb, hgb⟩ : ∃ gb, gb = (getA L x.key x.kind).isSome := ⟨_, rfl⟩
      have hlook : ∀ q, (Instr.lookup 51 (.map (some mb)) (.agg #[.string x.key, .int .i64 x.kind]) true).run Try.prog (w5.drewN q) = .ok (.tuple #[.int .i64 gv, .bool gb]) (w5.drewN q) := fun q => by rw [hgv, hgb]; exact (ts5.map.drewN q).look hok.1 hok.2.1
      have HGV := Lib.hid (And.intro hgv hgb)
      clear hgv hgb
      have T5 := Lib.hid ts5
      have R5 := Lib.hid rr5
      have K5 := Lib.hid (KK.out.trans k5 (fun _ _ h => h.elim))
      have HW5 := Lib.hid hw5
      clear ts5 rr5 x5 k5 hw5 l0 l1 l2 e0 e1 e2
      have HX := Lib.hid hx
      have HG0 := Lib.hid hg0
      have HXM := Lib.hid hxm
      have HOK := Lib.hid hok
      have HLL := Lib.hid hl
      clear hn2 hc2 hx hg0 hxm hok hl
      rcases (show (gb = true ∧ gv = x.at_ ∧ getA L x.key x.kind = some x.at_) ∨ (∀ d ∈ L, d ≠ x) ∧ (gb = false ∨ (gb = true ∧ gv ≠ x.at_)) by
        obtain ⟨h1, h2⟩ := HGV.out
        cases hg : getA L x.key x.kind with
        | none =>
          refine .inr ⟨fun d hd e => ?_, .inl (by rw [h2, hg]; rfl)⟩
          subst e
          have := getA_none.1 hg d hd
          rw [same_self] at this
          cases this
        | some v =>
          rw [hg] at h1 h2
          by_cases hv : v = x.at_
          · exact .inl ⟨h2, by rw [h1]; exact hv, by rw [hv]⟩
          · refine .inr ⟨fun d hd e => ?_, .inr ⟨h2, by rw [h1]; exact hv⟩⟩
            subst e
            have := (getA_some T5.out.unl).2 (show (⟨d.at_, d.key, d.kind⟩ : DU) ∈ L from hd)
            rw [hg] at this
            injection this with this
            exact hv this) with ⟨rfl, rfl, hlive⟩ | ⟨hst, hcase⟩
      · have hxL : x ∈ L := (getA_some T5.out.unl).1 hlive
        have hmin : minD L = some x := minD_of ⟨hxL, fun y hy => by
          obtain ⟨k, hk, e⟩ := (fn_mem H' y).1 (T5.out.sub y hy)
          have hf := T5.out.heap.first k (by have := T5.out.len; omega)
          rw [← HX.out, e] at hf
          exact hf⟩
        have HMIN := Lib.hid hmin
        clear hlive hxL hmin
        go_upto_region 3 with fail
        rw [← HW5.out]
        go_quiet (fail)
        go_wp2_with fail
        have hb3 : Blk ((((w5.drewN nq).setCell ⟨w.heap.size, 0, none⟩ (.int .i64 x.at_)).setCell ⟨w.heap.size, 1, none⟩ (.string x.key)).setCell ⟨w.heap.size, 2, none⟩ (.int .i64 x.kind)) w.heap.size 34 #[.int .i64 x.at_, .string x.key, .int .i64 x.kind] := (((R5.out.drewN nq).set 0 _).set 1 _).set 2 _
        (try simp only [Exit.inBlock, Exit.then])
        refine bodyPost_ret (results_cell_row_tmp rfl _ _ w.heap.size 34 #[.int .i64 x.at_, .string x.key, .int .i64 x.kind] (0, 0) _ rfl hb3 Try.underlying34 rfl (by kernel_rfl)) rfl ?_
        have kz : Keeps (fun q => q = w.heap.size) w5 ((((w5.drewN nq).setCell ⟨w.heap.size, 0, none⟩ (.int .i64 x.at_)).setCell ⟨w.heap.size, 1, none⟩ (.string x.key)).setCell ⟨w.heap.size, 2, none⟩ (.int .i64 x.kind)) := ((((Keeps.refl (fun q => q = w.heap.size) w5).drewN nq).setCell _ _ (fun _ => rfl)).setCell _ _ (fun _ => rfl)).setCell _ _ (fun _ => rfl)
        refine ⟨by rw [HMIN.out]; rfl, m + 1, H', T5.out.keep kz (fun q hq e => by have := T0.out.lt hq; omega), (fun y hy => by rw [HMIN.out] at hy; injection hy with hy; exact ⟨by rw [← hy]; exact HX.out.symm, Nat.succ_pos _⟩), ((K1.out.mono (S' := tfoot g mb (some ⟨b, 0, none⟩)) (fun _ _ h => h.elim)).trans K5.out (fun _ _ h => h)).trans kz (fun q hq e => by omega)⟩
      · have HST := Lib.hid hst
        clear hst
        rcases hcase with rfl | ⟨rfl, hne⟩
        · go_upto_region 3 with fail
          rw [← HW5.out]
          go_quiet (fail)
          go_wp2_with (
            go_at_call 27; refine (hpop_any g c (.map (some mb)) b m cp H' 0 (w5.drewN nq) ⟨T5.out.box.drewN _, T5.out.row.drewN _⟩ (by have := T5.out.few; omega) T5.out.heap).mono ?_
            rintro e w6 ⟨⟨v6, rfl⟩, H6, q6, h6, m6, n6, k6⟩
            have k6' : Keeps (fun q => q = g ∨ q = b) w5 w6 := ((Keeps.refl (fun q => q = g ∨ q = b) w5).drewN nq).trans k6 (fun _ _ h => h)
            have Q6 := Lib.hid q6
            have H6' := Lib.hid (And.intro h6 (And.intro m6 n6))
            have K6 := Lib.hid k6'
            clear q6 h6 m6 n6 k6 k6')
          have hs := HST.out
          have hb54 : ∀ q, q = g ∨ q = b → tfoot g mb (some ⟨b, 0, none⟩) q := fun q hq => by
            rcases hq with rfl | rfl
            · exact .inl rfl
            · exact .inr (.inr rfl)
          have hn0 : ¬ (mb = g ∨ mb = b) := fun e => by
            rcases e with e | e
            · exact T5.out.map.ne_blk T5.out.box e
            · exact T5.out.map.ne_own T5.out.row (by rw [e]; rfl)
          have ts6 : TS w6 g mb (some ⟨b, 0, none⟩) m cp c H6 L N := ⟨Q6.out.box, T5.out.map.keeps K6.out hn0, Q6.out.row, H6'.out.1, fun d hd => H6'.out.2.2 d (T5.out.sub d hd) (fun e => hs d hd (by rw [HX.out]; exact e)), T5.out.unl, fun d hd => T5.out.ok d (H6'.out.2.1 d hd), by have := T5.out.few; omega, T5.out.clk⟩
          refine ⟨⟨m, H6, ts6, R5.out.keeps K6.out (fun e => by have := T0.out.lt (hb54 _ e); omega), K5.out.trans K6.out (fun q _ hq => hb54 q hq)⟩, ?_⟩
          have m1 := ts6.box.cell 2
          have m2 := TR.out.box.cell 2
          simp at m1 m2
          rw [m1, m2]
          simp [lenAt]
        · have hne2 : (gv == x.at_) = false := by simpa using hne
          clear hne
          go_upto_region 3 with fail
          rw [← HW5.out]
          go_quiet (fail)
          go_wp2_with (
            go_at_call 27; refine (hpop_any g c (.map (some mb)) b m cp H' 0 (w5.drewN nq) ⟨T5.out.box.drewN _, T5.out.row.drewN _⟩ (by have := T5.out.few; omega) T5.out.heap).mono ?_
            rintro e w6 ⟨⟨v6, rfl⟩, H6, q6, h6, m6, n6, k6⟩
            have k6' : Keeps (fun q => q = g ∨ q = b) w5 w6 := ((Keeps.refl (fun q => q = g ∨ q = b) w5).drewN nq).trans k6 (fun _ _ h => h)
            have Q6 := Lib.hid q6
            have H6' := Lib.hid (And.intro h6 (And.intro m6 n6))
            have K6 := Lib.hid k6'
            clear q6 h6 m6 n6 k6 k6')
          have hs := HST.out
          have hb54 : ∀ q, q = g ∨ q = b → tfoot g mb (some ⟨b, 0, none⟩) q := fun q hq => by
            rcases hq with rfl | rfl
            · exact .inl rfl
            · exact .inr (.inr rfl)
          have hn0 : ¬ (mb = g ∨ mb = b) := fun e => by
            rcases e with e | e
            · exact T5.out.map.ne_blk T5.out.box e
            · exact T5.out.map.ne_own T5.out.row (by rw [e]; rfl)
          have ts6 : TS w6 g mb (some ⟨b, 0, none⟩) m cp c H6 L N := ⟨Q6.out.box, T5.out.map.keeps K6.out hn0, Q6.out.row, H6'.out.1, fun d hd => H6'.out.2.2 d (T5.out.sub d hd) (fun e => hs d hd (by rw [HX.out]; exact e)), T5.out.unl, fun d hd => T5.out.ok d (H6'.out.2.1 d hd), by have := T5.out.few; omega, T5.out.clk⟩
          refine ⟨⟨m, H6, ts6, R5.out.keeps K6.out (fun e => by have := T0.out.lt (hb54 _ e); omega), K5.out.trans K6.out (fun q _ hq => hb54 q hq)⟩, ?_⟩
          have m1 := ts6.box.cell 2
          have m2 := TR.out.box.cell 2
          simp at m1 m2
          rw [m1, m2]
          simp [lenAt]
end
end Go.Proofs.Yteeginfbonfhlaa
