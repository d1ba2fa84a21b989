/- Entries and configurations that came in, opened. -/
import Derived.Test.YtklcooepolmemaaRecs
import Derived.Test.YtklcooepolmemaaBulk
import Derived.Test.YtklcooepolmemaaW7
import Derived.Laws.IdiomArrays
namespace Go.Proofs.Ytklcooepolmemaa
open Go.ChangeShapes Go.WideShapes Go.ChangeAt Go.RowKit Mem
section
variable {H : Type} {enc : TypeId × Value → H} {W : World} {base b0 : Nat} {spare : Nat → Bool} {held : Bool} {r : Reach}
theorem cut_one {α : Type} {cs : List α} {i : Nat} {a : α} (h : (cs.drop i).take 1 = [a]) : cs[i]? = some a := by
  have : ((cs.drop i).take 1)[0]? = some a := by rw [h]; rfl
  simpa using this
theorem int_wf {i : Int} (h : (Lit.int .i64 i).wf = true) : isInt i := by
  simp [Lit.wf, IntKind.min, IntKind.max, IntKind.signed, IntKind.bits] at h
  unfold isInt
  omega
theorem cells3 : Try.prog.cellsOf 3 = 1 := by kernel_rfl
theorem dec_entry (fuel : Nat) (cs : List Value) (y : DataW H × List MemPlace) (h : DataW.trod enc Try.prog W base spare held fuel 30 cs = some y) : ∃ p : Int × Int, cs = entry.enc p ∧ okE p := by
  obtain ⟨xs, n, _, _, hl, hx, hf⟩ := DataW.trod_struct Try.underlying30 h
  have hl2 : cs.length = 2 := by rw [hl]; kernel_rfl
  have hx2 : xs.length = 2 := hx
  have h0 : DataW.trod enc Try.prog W base spare held n 3 ((cs.drop 0).take (Try.prog.cellsOf 3)) = xs[0]? := hf 0 _ rfl
  have h1 : DataW.trod enc Try.prog W base spare held n 3 ((cs.drop 1).take (Try.prog.cellsOf 3)) = xs[1]? := hf 1 _ rfl
  rw [List.getElem?_eq_getElem (by omega)] at h0 h1
  obtain ⟨a, ha, _, wa⟩ := DataW.trod_int Try.underlying3 h0
  obtain ⟨b, hb, _, wb⟩ := DataW.trod_int Try.underlying3 h1
  rw [cells3] at ha hb
  have ha := cut_one ha
  have hb := cut_one hb
  refine ⟨(a, b), ?_, int_wf wa, int_wf wb⟩
  match cs, hl2, ha, hb with
  | [u, v], _, ha, hb =>
    simp at ha hb
    rw [ha, hb]
    rfl
/-- A rate's cells. -/
theorem dec_rate (fuel : Nat) (cs : List Value) (y : DataW H × List MemPlace) (h : DataW.trod enc Try.prog W base spare held fuel 47 cs = some y) : ∃ p : RateT, cs = [.int .i64 p.p, .int .i64 p.l, .int .i64 p.m] := by
  obtain ⟨xs, n, _, _, hl, hx, hf⟩ := DataW.trod_struct Try.underlying47 h
  have hl2 : cs.length = 3 := by rw [hl]; kernel_rfl
  have hx2 : xs.length = 3 := hx
  have h0 : DataW.trod enc Try.prog W base spare held n 3 ((cs.drop 0).take (Try.prog.cellsOf 3)) = xs[0]? := hf 0 _ rfl
  have h1 : DataW.trod enc Try.prog W base spare held n 3 ((cs.drop 1).take (Try.prog.cellsOf 3)) = xs[1]? := hf 1 _ rfl
  have h2 : DataW.trod enc Try.prog W base spare held n 3 ((cs.drop 2).take (Try.prog.cellsOf 3)) = xs[2]? := hf 2 _ rfl
  rw [List.getElem?_eq_getElem (by omega)] at h0 h1 h2
  obtain ⟨a, ha, _, _⟩ := DataW.trod_int Try.underlying3 h0
  obtain ⟨b, hb, _, _⟩ := DataW.trod_int Try.underlying3 h1
  obtain ⟨c, hc, _, _⟩ := DataW.trod_int Try.underlying3 h2
  rw [cells3] at ha hb hc
  have ha := cut_one ha
  have hb := cut_one hb
  have hc := cut_one hc
  refine ⟨⟨a, b, c⟩, ?_⟩
  match cs, hl2, ha, hb, hc with
  | [u, v, w], _, ha, hb, hc =>
    simp at ha hb hc
    rw [ha, hb, hc]
theorem dec_slice {t e : TypeId} (ht : Try.prog.underlying t = some (.slice e)) (fuel : Nat) (cs : List Value) (y : DataW H × List MemPlace) (h : DataW.trod enc Try.prog W base spare held fuel t cs = some y) : ∃ (A : Option Addr) (n c : Nat), cs = [.slice A n c] ∧ n ≤ 9223372036854775807 := by
  rcases DataW.trod_slice ht h with ⟨rfl, _⟩ | ⟨a, len, cap, elems, rest, n, _, rfl, _, _, hl, hm, _⟩
  · exact ⟨none, 0, 0, rfl, by omega⟩
  · unfold maxLen at hm
    exact ⟨some a, len, cap, rfl, by omega⟩
theorem open_cfg {v : Value} {d : DataW H} {p : List MemPlace} (hv : Value.okWide Try.prog W r b0 49 v) (h : DataW.Trod enc Try.prog W base spare held 49 v d p) :
    ∃ (A1 : Option Addr) (n c : Nat) (A2 : Option Addr) (n2 c2 : Nat) (r1 r2 : RateT) (u1 u2 u3 : Int), v = cfgV A1 n c A2 n2 c2 r1 r2 u1 u2 u3 ∧ n ≤ 9223372036854775807 := by
  obtain ⟨cs, rfl, hsz⟩ := okWide_struct Try.underlying49 hv
  obtain ⟨fuel, hf⟩ := h
  have hcells : (Value.agg cs).cells.toList = cs.toList := rfl
  obtain ⟨xs, n, _, _, hl, hx, hf⟩ := DataW.trod_struct Try.underlying49 hf
  have hc49 : Try.prog.cellsOf 49 = 11 := by kernel_rfl
  have hl2 : cs.toList.length = 11 := by simpa [hc49] using hsz
  have hx2 : xs.length = 7 := hx
  generalize hq : (Value.agg cs).cells.toList = L at *
  have h0 : DataW.trod enc Try.prog W base spare held n 44 ((L.drop 0).take (Try.prog.cellsOf 44)) = xs[0]? := hf 0 _ rfl
  have h1 : DataW.trod enc Try.prog W base spare held n 45 ((L.drop 1).take (Try.prog.cellsOf 45)) = xs[1]? := hf 1 _ rfl
  have h2 : DataW.trod enc Try.prog W base spare held n 47 ((L.drop 2).take (Try.prog.cellsOf 47)) = xs[2]? := hf 2 _ rfl
  have h3 : DataW.trod enc Try.prog W base spare held n 47 ((L.drop 5).take (Try.prog.cellsOf 47)) = xs[3]? := hf 3 _ rfl
  have h4 : DataW.trod enc Try.prog W base spare held n 3 ((L.drop 8).take (Try.prog.cellsOf 3)) = xs[4]? := hf 4 _ rfl
  have h5 : DataW.trod enc Try.prog W base spare held n 3 ((L.drop 9).take (Try.prog.cellsOf 3)) = xs[5]? := hf 5 _ rfl
  have h6 : DataW.trod enc Try.prog W base spare held n 3 ((L.drop 10).take (Try.prog.cellsOf 3)) = xs[6]? := hf 6 _ rfl
  rw [List.getElem?_eq_getElem (by omega)] at h0 h1 h2 h3 h4 h5 h6
  rw [show Try.prog.cellsOf 44 = 1 by kernel_rfl] at h0
  rw [show Try.prog.cellsOf 45 = 1 by kernel_rfl] at h1
  rw [show Try.prog.cellsOf 47 = 3 by kernel_rfl] at h2 h3
  rw [cells3] at h4 h5 h6
  obtain ⟨A1, n1, c1, e0, hn1⟩ := dec_slice Try.underlying44 _ _ _ h0
  obtain ⟨A2, n2, c2, e1, _⟩ := dec_slice Try.underlying45 _ _ _ h1
  obtain ⟨r1, e2⟩ := dec_rate _ _ _ h2
  obtain ⟨r2, e3⟩ := dec_rate _ _ _ h3
  obtain ⟨u1, e4, _, _⟩ := DataW.trod_int Try.underlying3 h4
  obtain ⟨u2, e5, _, _⟩ := DataW.trod_int Try.underlying3 h5
  obtain ⟨u3, e6, _, _⟩ := DataW.trod_int Try.underlying3 h6
  refine ⟨A1, n1, c1, A2, n2, c2, r1, r2, u1, u2, u3, ?_, hn1⟩
  have key : cs.toList = [.slice A1 n1 c1, .slice A2 n2 c2, .int .i64 r1.p, .int .i64 r1.l, .int .i64 r1.m, .int .i64 r2.p, .int .i64 r2.l, .int .i64 r2.m, .int .i64 u1, .int .i64 u2, .int .i64 u3] := by
    rw [← hcells]
    clear hf h0 h1 h2 h3 h4 h5 h6 hl
    rw [← hcells] at hl2
    match L, hl2, e0, e1, e2, e3, e4, e5, e6 with
    | [a0, a1, a2, a3, a4, a5, a6, a7, a8, a9, a10], _, e0, e1, e2, e3, e4, e5, e6 =>
      simp at e0 e1 e2 e3 e4 e5 e6
      simp [e0, e1, e2, e3, e4, e5, e6]
  unfold cfgV
  rw [← Array.toArray_toList (xs := cs), key]
theorem open_three {v : Value} {d : DataW H} {p : List MemPlace} (hv : Value.okWide Try.prog W r b0 50 v) (h : DataW.Trod enc Try.prog W base spare held 50 v d p) :
    ∃ a b c : Int, v = .agg #[.int .i64 a, .int .i64 b, .int .i64 c] ∧ isInt a ∧ isInt b ∧ isInt c := by
  have hv' := hv
  unfold Value.okWide at hv'
  rw [Try.underlying50] at hv'
  obtain ⟨cs, rfl, hsz, _⟩ := hv'
  have hc50 : Try.prog.cellsOf 50 = 3 := by kernel_rfl
  rw [hc50] at hsz
  obtain ⟨fuel, hf⟩ := h
  obtain ⟨a0, a1, a2, rfl⟩ : ∃ a0 a1 a2, cs = #[a0, a1, a2] := by
    match cs, hsz with
    | ⟨[a0, a1, a2]⟩, _ => exact ⟨a0, a1, a2, rfl⟩
  have hf : DataW.trod enc Try.prog W base spare held fuel 50 [a0, a1, a2] = some (d, p) := hf
  obtain ⟨y0, y1, y2, m, _, h0, h1, h2⟩ := trod_array3 Try.underlying50 cells3 hf
  obtain ⟨u1, e4, _, w4⟩ := DataW.trod_int Try.underlying3 h0
  obtain ⟨u2, e5, _, w5⟩ := DataW.trod_int Try.underlying3 h1
  obtain ⟨u3, e6, _, w6⟩ := DataW.trod_int Try.underlying3 h2
  simp at e4 e5 e6
  subst e4 e5 e6
  exact ⟨u1, u2, u3, rfl, int_wf w4, int_wf w5, int_wf w6⟩
/-- How long a row is, and how much it weighs. -/
theorem recs_bulk {α : Type} {D : α → DataW H → Prop} {d : DataW H} {xs : List α} (h : Recs D d xs) : xs.length ≤ Rows.uptoBulk d := by
  rcases h with ⟨_, rfl⟩ | ⟨el, sp, rfl, h, _⟩
  · simp
  · have := bulks.slice_le el sp
    omega
/-- How long a row of entries is, by its weight. -/
theorem recs_room {α : Type} {D : α → DataW H → Prop} {d : DataW H} {xs : List α} {b : Nat} (h : Recs D d xs) (hs : ∀ el sp, d = .slice el sp → (el.length + sp.length) * b ≤ reachBytes) : xs.length * b ≤ 140737488355328 := by
  rcases h with ⟨_, rfl⟩ | ⟨el, sp, rfl, h, _⟩
  · simp
  · have h1 := hs el sp rfl
    unfold reachBytes at h1
    rw [← h]
    have : el.length * b ≤ (el.length + sp.length) * b := Nat.mul_le_mul_right _ (by omega)
    omega
end
end Go.Proofs.Ytklcooepolmemaa
