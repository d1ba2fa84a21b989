/- Calls that came in, opened. -/
import Derived.Test.YtfidhnplaieacaaWRoom
import Derived.Test.YtfidhnplaieacaaRows2
import Derived.SizedLaws
namespace Go.Proofs.Ytfidhnplaieacaa
open Go.ChangeShapes Go.WideShapes Go.ChangeAt Go.RowKit Mem
theorem room_row (most : Int) (hm : -9223372036854775808 ≤ most ∧ most ≤ 9223372036854775807) (S : Option Addr) (ns cs : Nat) (os : List OD) (w : World) (hr : Reads opE w S ns os) (hns : ns ≤ 9223372036854775807) (hok : ∀ o ∈ os, okO w o) :
    Calls Try.prog 4 #[.int .i64 most, .slice S ns cs] w fun e w' => e = .returned (.bool true) ∧ Below w.heap.size w w' :=
  (room_law most hm S ns cs os w hr hns hok).mono fun _ _ ⟨h, k⟩ => ⟨h, k.below (Nat.le_refl _) (fun _ _ h => h)⟩
section
variable {H : Type} {enc : TypeId × Value → H} {W : World} {base b0 : Nat} {spare : Nat → Bool} {held : Bool} {r : Reach}
theorem cut_one {α : Type} {cs : List α} {i : Nat} {a : α} (h : (cs.drop i).take 1 = [a]) : cs[i]? = some a := by
  have : ((cs.drop i).take 1)[0]? = some a := by rw [h]; rfl
  simpa using this
theorem cells3 : Try.prog.cellsOf 3 = 1 := by kernel_rfl
theorem cells9 : Try.prog.cellsOf 9 = 1 := by kernel_rfl
theorem cells30 : Try.prog.cellsOf 30 = 1 := by kernel_rfl
theorem cells32 : Try.prog.cellsOf 32 = 2 := by kernel_rfl
theorem dec_fld (fuel : Nat) (cs : List Value) (y : DataW H × List MemPlace) (h : DataW.trod enc Try.prog W base spare held fuel 51 cs = some y) : ∃ f : FD, cs = fld.enc f ∧ True := by
  obtain ⟨xs, n, _, _, hl, hx, hf⟩ := DataW.trod_struct Try.underlying51 h
  have hl2 : cs.length = 2 := by rw [hl]; kernel_rfl
  have hx2 : xs.length = 2 := hx
  have h0 : DataW.trod enc Try.prog W base spare held n 3 ((cs.drop 0).take (Try.prog.cellsOf 3)) = xs[0]? := hf 0 _ rfl
  have h1 : DataW.trod enc Try.prog W base spare held n 9 ((cs.drop 1).take (Try.prog.cellsOf 9)) = xs[1]? := hf 1 _ rfl
  rw [List.getElem?_eq_getElem (by omega)] at h0 h1
  obtain ⟨a, ha, _, _⟩ := DataW.trod_int Try.underlying3 h0
  obtain ⟨b, hb, _, _⟩ := DataW.trod_string Try.underlying9 h1
  rw [cells3] at ha
  rw [cells9] at hb
  have ha := cut_one ha
  have hb := cut_one hb
  refine ⟨⟨a, b⟩, ?_, trivial⟩
  match cs, hl2, ha, hb with
  | [u, v], _, ha, hb =>
    simp at ha hb
    rw [ha, hb]
    rfl
/-- What a call's reading tells. -/
def opD (W : World) (o : OD) (d : DataW H) : Prop := (-9223372036854775808 ≤ o.kind ∧ o.kind ≤ 9223372036854775807) ∧ Reads fld W o.A o.n o.fs ∧ ∃ a b c fd, d = .agg [a, b, .agg [c, fd]] ∧ (o.n = 0 ∨ ∃ el sp, fd = .slice el sp ∧ el.length = o.n)
theorem dec_op (fuel : Nat) (cs : List Value) (y : DataW H × List MemPlace) (h : DataW.trod enc Try.prog W base spare held fuel 40 cs = some y) : ∃ o : OD, cs = opE.enc o ∧ opD W o y.1 := by
  obtain ⟨xs, n, _, hy, hl, hx, hf⟩ := DataW.trod_struct Try.underlying40 h
  have hl2 : cs.length = 4 := by rw [hl]; kernel_rfl
  have hx2 : xs.length = 3 := hx
  have h0 : DataW.trod enc Try.prog W base spare held n 3 ((cs.drop 0).take (Try.prog.cellsOf 3)) = xs[0]? := hf 0 _ rfl
  have h1 : DataW.trod enc Try.prog W base spare held n 9 ((cs.drop 1).take (Try.prog.cellsOf 9)) = xs[1]? := hf 1 _ rfl
  have h2 : DataW.trod enc Try.prog W base spare held n 32 ((cs.drop 2).take (Try.prog.cellsOf 32)) = xs[2]? := hf 2 _ rfl
  match xs, hx2 with
  | [x0, x1, x2], _ =>
    simp only [List.getElem?_cons_zero, List.getElem?_cons_succ] at h0 h1 h2
    obtain ⟨a, ha, _, wa⟩ := DataW.trod_int Try.underlying3 h0
    obtain ⟨b, hb, _, _⟩ := DataW.trod_string Try.underlying9 h1
    obtain ⟨zs, n2, _, hy2, hl3, hz, hg⟩ := DataW.trod_struct Try.underlying32 h2
    have g0 : DataW.trod enc Try.prog W base spare held n2 3 ((((cs.drop 2).take (Try.prog.cellsOf 32)).drop 0).take (Try.prog.cellsOf 3)) = zs[0]? := hg 0 _ rfl
    have g1 : DataW.trod enc Try.prog W base spare held n2 30 ((((cs.drop 2).take (Try.prog.cellsOf 32)).drop 1).take (Try.prog.cellsOf 30)) = zs[1]? := hg 1 _ rfl
    have hz2 : zs.length = 2 := hz
    match zs, hz2 with
    | [z0, z1], _ =>
      simp only [List.getElem?_cons_zero, List.getElem?_cons_succ] at g0 g1
      obtain ⟨t, ht, _, _⟩ := DataW.trod_int Try.underlying3 g0
      obtain ⟨A, nf, c, fs, hs, hr, _, _, hd⟩ := recs_of_trod fld (fun _ _ => True) Try.underlying30 (by kernel_rfl) dec_fld g1
      rw [cells3] at ha ht
      rw [cells9] at hb
      rw [cells32] at ht hs
      rw [cells30] at hs
      refine ⟨⟨a, b, t, A, nf, c, fs⟩, ?_, int_wf wa, hr, ?_⟩
      · match cs, hl2, ha, hb, ht, hs with
        | [u0, u1, u2, u3], _, ha, hb, ht, hs =>
          simp at ha hb ht hs
          rw [ha, hb, ht, hs]
          rfl
      · refine ⟨x0.1, x1.1, z0.1, z1.1, ?_, ?_⟩
        · rw [hy]
          show DataW.agg [x0.1, x1.1, x2.1] = _
          rw [hy2]
          rfl
        · rcases hd with ⟨_, rfl⟩ | ⟨el, sp, e, hel, _⟩
          · exact .inl (hr.1.symm)
          · exact .inr ⟨el, sp, e, hel.trans hr.1⟩
theorem weights_mem_all {P : Program} {e : TypeId} : ∀ {ds : List (DataW H)} {d : DataW H}, d ∈ ds → ∀ n ∈ d.weights P e, n ∈ DataW.weightsAll P e ds
  | d0 :: ds, d, hd, n, hn => by
    simp only [DataW.weightsAll, List.mem_append]
    rcases List.mem_cons.1 hd with rfl | h
    · exact Or.inl hn
    · exact Or.inr (weights_mem_all h n hn)
  | [], _, h, _, _ => by simp at h
theorem ops_ok {ts : List TypeId} {ds : List (DataW H)} {j : Nat} {d : DataW H} {os : List OD} (h : Recs (opD W) d os) (hs : (DataW.weightsEach Try.prog ts ds).all (· ≤ reachBytes) = true) (ht : ts[j]? = some 38) (hd : ds[j]? = some d) : ∀ o ∈ os, okO W o := by
  intro o ho
  rcases h with ⟨_, rfl⟩ | ⟨el, sp, rfl, hlen, h⟩
  · simp at ho
  · obtain ⟨i, hi⟩ := List.getElem?_of_mem ho
    obtain ⟨y, hy, hk, hr, a, b, c, fd, rfl, hfd⟩ := h i o hi
    refine ⟨hk, hr, ?_⟩
    rcases hfd with h0 | ⟨fel, fsp, rfl, hfl⟩
    · rw [h0]; omega
    · have hb : Try.prog.bytesOf 51 = 24 := by kernel_rfl
      have w1 : (fel.length + fsp.length) * 24 ∈ DataW.weights Try.prog 30 (.slice fel fsp) := by
        simp [DataW.weights, Try.underlying30, hb]
      have w2 : (fel.length + fsp.length) * 24 ∈ DataW.weights Try.prog 32 (.agg [c, .slice fel fsp]) := by
        simp only [DataW.weights, Try.underlying32]
        exact DataW.weights_mem_each (j := 1) (t := 30) rfl rfl _ w1
      have w3 : (fel.length + fsp.length) * 24 ∈ DataW.weights Try.prog 40 (.agg [a, b, .agg [c, .slice fel fsp]]) := by
        simp only [DataW.weights, Try.underlying40]
        exact DataW.weights_mem_each (j := 2) (t := 32) rfl rfl _ w2
      have w4 : (fel.length + fsp.length) * 24 ∈ DataW.weights Try.prog 38 (.slice el sp) := by
        simp only [DataW.weights, Try.underlying38]
        exact List.mem_cons_of_mem _ (List.mem_append.2 (.inl (weights_mem_all (List.mem_of_getElem? hy) _ w3)))
      have := List.all_eq_true.1 hs _ (DataW.weights_mem_each ht hd _ w4)
      unfold reachBytes at this
      simp at this
      rw [← hfl]
      omega
end
end Go.Proofs.Ytfidhnplaieacaa
