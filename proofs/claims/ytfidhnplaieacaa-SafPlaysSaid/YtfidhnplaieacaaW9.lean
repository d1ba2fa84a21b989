/- Calls on a queue of one's own; the examples: walked. -/
import Derived.Test.YtfidhnplaieacaaW8
namespace Go.Proofs.Ytfidhnplaieacaa
open Go.RowKit Mem
/-- A queue that lies in blocks from B on. -/
structure QB (B : Nat) (w : World) (g : Nat) (most : Nat) (A : Option Addr) (n c : Nat) (way : Bool) (l : List AD) : Prop where
  q : QS w g most A n c way l
  gB : B ≤ g
  rB : ∀ k, (Value.slice A n c).ownBlock = some k → B ≤ k
section
variable {B : Nat} {w w' : World} {g most : Nat} {A : Option Addr} {n c : Nat} {way : Bool} {l : List AD}
theorem QB.keep (h : QB B w g most A n c way l) (K : Keeps (fun _ => False) w w') : QB B w' g most A n c way l := ⟨h.q.keep K, h.gB, h.rB⟩
/-- A box of another type stays. -/
theorem QB.box_ (h : QB B w g most A n c way l) (K : Keeps (fun b => b = g ∨ (Value.slice A n c).ownBlock = some b) w w') {x : Nat} {cs : Array Value} (hx : Blk w x 32 cs) : Blk w' x 32 cs :=
  hx.keeps K (fun e => by
    rcases e with rfl | e
    · exact (hx.ne_ h.q.box (by decide)) rfl
    · exact h.q.row.blk_ne hx (by decide) e)
theorem newB (n : Nat) (w : World) (h1 : 1 ≤ n) (h7 : n ≤ 16) (hB : B ≤ w.heap.size) :
    Calls Try.prog 7 #[.int .i64 n] w fun e w' => ∃ g, e = .returned (.tuple #[.pointer (some ⟨g, 0, none⟩), .int .i64 0]) ∧ QB B w' g n none 0 0 false [] ∧ Keeps (fun _ => False) w w' := by
  refine (new_any n w h1 h7).mono ?_
  rintro e w' ⟨g, rfl, q, hg, k⟩
  exact ⟨g, rfl, ⟨q, Nat.le_trans hB hg, fun k hk => by cases hk⟩, k⟩
theorem putB_ok (d : QB B w g most A n c way l) (hB : B ≤ w.heap.size) (s : ByteArray) (ty : Int) (Am : Option Addr) (nm cm : Nat) (fs : List FD) (hr : Reads fld w Am nm fs) (hn : nm * 24 ≤ 140737488355328) (hE : putE l n most s = 0) :
    Calls Try.prog 8 #[.pointer (some ⟨g, 0, none⟩), .string s, .agg #[.int .i64 ty, .slice Am nm cm]] w fun e w' => e = .returned (.int .i64 0) ∧ ∃ a A' c', a.name = s ∧ a.ty = ty ∧ a.fs = fs ∧ QB B w' g most A' (n + 1) c' way (l ++ [a]) ∧ Keeps (fun b => B ≤ b) w w' ∧ Keeps (fun b => b = g ∨ (Value.slice A n c).ownBlock = some b) w w' := by
  refine (put_any d.q s ty Am nm cm fs hr hn).mono ?_
  rintro e w' ⟨he, h⟩
  rw [hE] at he h
  rw [if_pos rfl] at h
  obtain ⟨a, A', c', h1, h2, h3, h4, h5, h6, h7⟩ := h
  refine ⟨he, a, A', c', h1, h2, h3, ⟨h5, d.gB, fun k hk => ?_⟩, h7.mono ?_, h7⟩
  · rcases h6 k hk with h | h
    · exact d.rB k h
    · omega
  · rintro b _ (rfl | h)
    · exact d.gB
    · exact d.rB b h
theorem putB_no (d : QB B w g most A n c way l) (s : ByteArray) (ty : Int) (Am : Option Addr) (nm cm : Nat) (fs : List FD) (hr : Reads fld w Am nm fs) (hn : nm * 24 ≤ 140737488355328) {x : Int} (hE : putE l n most s = x) (hx : x ≠ 0) :
    Calls Try.prog 8 #[.pointer (some ⟨g, 0, none⟩), .string s, .agg #[.int .i64 ty, .slice Am nm cm]] w fun e w' => e = .returned (.int .i64 x) ∧ Keeps (fun _ => False) w w' := by
  refine (put_any d.q s ty Am nm cm fs hr hn).mono ?_
  rintro e w' ⟨he, h⟩
  rw [hE] at he h
  rw [if_neg hx] at h
  exact ⟨he, h⟩
theorem sendB_no (d : QB B w g most A n c way l) (hno : n = 0 ∨ way = true) :
    Calls Try.prog 11 #[.pointer (some ⟨g, 0, none⟩)] w fun e w' => e = .returned (.tuple #[.string ⟨#[]⟩, .agg #[.int .i64 0, .slice none 0 0], .bool false]) ∧ QB B w' g most A n c way l ∧ Keeps (fun b => B ≤ b) w w' ∧ Keeps (fun b => b = g ∨ (Value.slice A n c).ownBlock = some b) w w' := by
  refine (send_no d.q hno).mono ?_
  rintro e w' ⟨he, h, k⟩
  exact ⟨he, ⟨h, d.gB, d.rB⟩, k.mono (fun b _ e => by rw [e]; exact d.gB), k.mono (fun _ _ h => .inl h)⟩
theorem sendB_yes (d : QB B w g most A n c false l) {a : AD} {l' : List AD} (hl : l = a :: l') :
    Calls Try.prog 11 #[.pointer (some ⟨g, 0, none⟩)] w fun e w' => ∃ A' c', e = .returned (.tuple #[.string a.name, .agg #[.int .i64 a.ty, .slice A' a.n c'], .bool true]) ∧ Own fld w' w.heap.size 51 (.slice A' a.n c') a.fs ∧ QB B w' g most A n c true l ∧ Keeps (fun b => B ≤ b) w w' ∧ Keeps (fun b => b = g ∨ (Value.slice A n c).ownBlock = some b) w w' := by
  refine (send_yes d.q hl).mono ?_
  rintro e w' ⟨A', c', he, o, _, h, k⟩
  exact ⟨A', c', he, o, ⟨h, d.gB, d.rB⟩, k.mono (fun b _ e => by rw [e]; exact d.gB), k.mono (fun _ _ h => .inl h)⟩
theorem doneB_yes (d : QB B w g most A n c true l) {a : AD} {l' : List AD} (hl : l = a :: l') (s : ByteArray) (hs : (a.name.toList == s.toList) = true) :
    Calls Try.prog 13 #[.pointer (some ⟨g, 0, none⟩), .string s] w fun e w' => e = .returned (.bool true) ∧ QB B w' g most A (n - 1) c false l' ∧ Keeps (fun b => B ≤ b) w w' ∧ Keeps (fun b => b = g ∨ (Value.slice A n c).ownBlock = some b) w w' := by
  refine (done_yes d.q hl s hs).mono ?_
  rintro e w' ⟨he, h, k⟩
  obtain ⟨b6, c6, hv6, _⟩ := d.q.row.form (by rw [hl]; simp)
  injection hv6 with hA6 _ _
  refine ⟨he, ⟨h, d.gB, fun k hk => d.rB k ?_⟩, k.mono ?_, k⟩
  · rw [hA6] at hk ⊢
    exact hk
  · rintro b _ (rfl | h)
    · exact d.gB
    · exact d.rB b h
theorem stopB (d : QB B w g most A n c way l) : Calls Try.prog 12 #[.pointer (some ⟨g, 0, none⟩)] w fun e w' => e = .returned (.tuple #[]) ∧ QB B w' g most A n c false l ∧ Keeps (fun b => B ≤ b) w w' ∧ Keeps (fun b => b = g ∨ (Value.slice A n c).ownBlock = some b) w w' := by
  refine (stop_any d.q).mono ?_
  rintro e w' ⟨he, h, k⟩
  exact ⟨he, ⟨h, d.gB, d.rB⟩, k.mono (fun b _ e => by rw [e]; exact d.gB), k.mono (fun _ _ h => .inl h)⟩
end
theorem bytes_eq (s t : ByteArray) : (s.toList == t.toList) = (s.data.toList == t.data.toList) := by rw [ByteArray.toList_eq, ByteArray.toList_eq]
end Go.Proofs.Ytfidhnplaieacaa
