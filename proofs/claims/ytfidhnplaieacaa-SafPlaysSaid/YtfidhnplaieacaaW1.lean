/- A queue: what it lies in; its small calls: walked. -/
import Derived.Test.YtfidhnplaieacaaProg
import Derived.Test.YtfidhnplaieacaaCopy
import Derived.Test.YtfidhnplaieacaaStep
import Derived.Test.YtfidhnplaieacaaLem
import Derived.Test.YtfidhnplaieacaaOpen
import Derived.Laws.MakeOwn
import Derived.Laws.ResultCell
import Derived.IntWalk
import Derived.Deep.QuietTactic
import Derived.BigQuiet
import Derived.BigRegion
import Derived.Outline
import Derived.RegionTactic
import Derived.Deep.RegionHeld3
import Derived.Deep.Cut
import Derived.StillTailTactics
import Derived.ChangeAlike
namespace Go.Proofs.Ytfidhnplaieacaa
open Go.RowKit Mem
/-- A field of a message. -/
structure FD where
  no : Int
  text : ByteArray
def fld : Enc FD where
  enc := fun f => [.int .i64 f.no, .string f.text]
  size := 2
  len := fun _ => rfl
  one := fun x u h => by
    simp at h
    rcases h with rfl | rfl <;> rfl
  pos := by decide
/-- An advice: its name, its message's type, and where the fields lie. -/
structure AD where
  name : ByteArray
  ty : Int
  A : Option Addr
  n : Nat
  c : Nat
  fs : List FD
def adv : Enc AD where
  enc := fun a => [.string a.name, .int .i64 a.ty, .slice a.A a.n a.c]
  size := 3
  len := fun _ => rfl
  one := fun x u h => by
    simp at h
    rcases h with rfl | rfl | rfl <;> rfl
  pos := by decide
theorem elem31 : Elem Try.prog 30 51 fld 24 := Elem.of Try.underlying30 (z := .agg #[.int .i64 0, .string ⟨#[]⟩]) (by kernel_rfl) rfl
theorem elem59 : Elem Try.prog 54 59 adv 48 := Elem.of Try.underlying54 (z := .agg #[.string ⟨#[]⟩, .int .i64 0, .slice none 0 0]) (by kernel_rfl) rfl
def okA (w : World) (a : AD) : Prop := Own fld w 0 51 (.slice a.A a.n a.c) a.fs ∧ a.n * 24 ≤ 140737488355328
theorem okA.keeps {w w' : World} {a : AD} {S : Nat → Prop} (h : okA w a) (K : Keeps S w w') (hn : ∀ q, (Value.slice a.A a.n a.c).ownBlock = some q → ¬ S q) : okA w' a := ⟨h.1.keeps K hn, h.2⟩
theorem okA.reads {w : World} {a : AD} (h : okA w a) : Reads fld w a.A a.n a.fs := by
  obtain ⟨_, _, er, hr, _⟩ := h.1.slice
  injection er with e1 e2 e3
  rw [← e1, ← e2] at hr
  exact hr
theorem own_reads {α : Type} {E : Enc α} {w : World} {base : Nat} {e : TypeId} {A : Option Addr} {n c : Nat} {l : List α} (h : Own E w base e (.slice A n c) l) : Reads E w A n l := by
  obtain ⟨_, _, er, hr, _⟩ := h.slice
  injection er with e1 e2 e3
  rw [← e1, ← e2] at hr
  exact hr
theorem own_none {α : Type} {E : Enc α} {w : World} {base : Nat} {e : TypeId} {A : Option Addr} {n c : Nat} {l : List α} (h : Own E w base e (.slice A n c) l) : A = none → n = 0 ∧ c = 0 := by
  rintro rfl
  rcases h.2 with ⟨h', _⟩ | ⟨_, _, _, h', _⟩
  · injection h' with _ h1 h2; exact ⟨h1, h2⟩
  · cases h'
theorem own_empty {α : Type} (E : Enc α) (w : World) (e : TypeId) (base H : Nat) (hH : w.heap.size = H) (hb : base ≤ H) : Own E (w.alloc (.cells #[] e)) base e (.slice (some ⟨H, 0, none⟩) 0 0) [] :=
  Own.new w base e #[] [] rfl H hH hb 0 rfl (Nat.zero_le _)
theorem app_empty {t : TypeId} (w : World) (H : Nat) (hH : w.heap.size = H) {w' : World} (gr : (w.alloc (.cells #[] t)).grownBy w' (Value.slice (some ⟨H, 0, none⟩) 0 0).ownBlock) : Keeps (fun _ => False) w w' :=
  (Keeps.grown (S := fun k => k = H) ((Keeps.refl _ w).alloc _) gr (fun k hk _ => by simpa [Value.ownBlock] using hk.symm)).mono (fun b hb e => by omega)
theorem own_grow {w W w' : World} {v : Value} (h : Keeps (fun _ => False) w W) (gr : W.grownBy w' v.ownBlock) (hv : ∀ q, v.ownBlock = some q → w.heap.size ≤ q) : Keeps (fun _ => False) w w' :=
  (Keeps.grown (S := fun b => w.heap.size ≤ b) (h.mono (fun _ _ h => h.elim)) gr (fun k hk _ => hv k hk)).mono (fun b hb h => by omega)
/-- Blocks of another type stay. -/
theorem Mem.Own.keept {α : Type} {E : Enc α} {w w' : World} {base : Nat} {e : TypeId} {v : Value} {l : List α} {S : Nat → Prop} (h : Own E w base e v l) (K : Keeps S w w') {t : TypeId} (hne : e ≠ t) (hS : ∀ k, S k → ∃ cs, Blk w k t cs) : Own E w' base e v l :=
  h.keeps K (fun q hq hs => by
    obtain ⟨cs, hb⟩ := hS q hs
    exact h.blk_ne hb hne hq)
theorem Mem.Own.keep1 {α : Type} {E : Enc α} {w w' : World} {base : Nat} {e : TypeId} {v : Value} {l : List α} (h : Own E w base e v l) {g : Nat} (K : Keeps (fun b => b = g) w w') {t : TypeId} {cs : Array Value} (hb : Blk w g t cs) (hne : e ≠ t) : Own E w' base e v l :=
  h.keeps K (fun q hq hs => by rw [hs] at hq; exact h.blk_ne hb hne hq)
/-- A queue: at most so many; one under way. -/
structure QS (w : World) (g : Nat) (most : Nat) (A : Option Addr) (n c : Nat) (way : Bool) (l : List AD) : Prop where
  box : Blk w g 56 #[.int .i64 most, .slice A n c, .bool way]
  row : Own adv w 0 59 (.slice A n c) l
  ok : ∀ a ∈ l, okA w a
  one : 1 ≤ most
  few : most ≤ 16
  room : n ≤ most
  way1 : way = true → 0 < n
section
variable {w w' : World} {g most : Nat} {A : Option Addr} {n c : Nat} {way : Bool} {l : List AD}
theorem QS.keep (h : QS w g most A n c way l) (K : Keeps (fun _ => False) w w') : QS w' g most A n c way l :=
  ⟨h.box.keeps K (fun h => h), h.row.keeps K (fun _ _ h => h), fun a ha => (h.ok a ha).keeps K (fun _ _ h => h), h.one, h.few, h.room, h.way1⟩
theorem QS.keepg (h : QS w g most A n c way l) {S : Nat → Prop} (K : Keeps S w w') (hS : ∀ k, S k → ∃ cs, Blk w k 56 cs) (hg : ¬ S g) : QS w' g most A n c way l :=
  ⟨h.box.keeps K hg, h.row.keept K (t := 56) (by decide) hS, fun a ha => ⟨(h.ok a ha).1.keept K (t := 56) (by decide) hS, (h.ok a ha).2⟩, h.one, h.few, h.room, h.way1⟩
theorem QS.len (h : QS w g most A n c way l) : l.length = n := h.row.len_eq rfl
theorem new_any (n : Nat) (w : World) (h1 : 1 ≤ n) (h7 : n ≤ 16) :
    Calls Try.prog 7 #[.int .i64 n] w fun e w' => ∃ g, e = .returned (.tuple #[.pointer (some ⟨g, 0, none⟩), .int .i64 0]) ∧ QS w' g n none 0 0 false [] ∧ w.heap.size ≤ g ∧ Keeps (fun _ => False) w w' := by
  have t1 : decide ((n : Int) < 1) = false := by simp; omega
  have t2 : decide ((16 : Int) < (n : Int)) = false := by simp; omega
  have t3 : decide (16 < n) = false := by simp; omega
  have t4 : decide (n < 1) = false := by simp; omega
  go_enter Try.func7, Try.ntmps7
  go_wp2_with fail
  go_ret2
  exact ⟨w.heap.size, rfl, ⟨Blk.new w 56 _ _ rfl, Own.nil _ _ _ _, by simp, h1, h7, Nat.zero_le _, by simp⟩, Nat.le_refl _, (Keeps.refl _ w).alloc _⟩
theorem new_no (n : Int) (w : World) (h : n < 1 ∨ 16 < n) : Calls Try.prog 7 #[.int .i64 n] w fun e w' => e = .returned (.tuple #[.pointer none, .int .i64 1]) ∧ w' = w := by
  rcases (show n < 1 ∨ (¬ n < 1 ∧ 16 < n) by omega) with h1 | ⟨h1, h2⟩
  all_goals
    clear h
    go_enter Try.func7, Try.ntmps7
    go_wp2_with fail
    go_ret2
    exact ⟨rfl, rfl⟩
theorem len_any (d : QS w g most A n c way l) : Calls Try.prog 10 #[.pointer (some ⟨g, 0, none⟩)] w fun e w' => e = .returned (.int .i64 n) ∧ w' = w := by
  have c1 := d.box.cell 1
  simp at c1
  clear d
  go_enter Try.func10, Try.ntmps10
  go_wp2_with fail
  go_ret
  exact ⟨rfl, rfl⟩
theorem room_any (d : QS w g most A n c way l) : Calls Try.prog 16 #[.pointer (some ⟨g, 0, none⟩)] w fun e w' => e = .returned (.int .i64 ((most : Int) - n)) ∧ Keeps (fun _ => False) w w' := by
  have c0 := d.box.cell 0
  have c1 := d.box.cell 1
  simp at c0 c1
  have h1 := d.few
  have h2 := d.room
  have hw : IntKind.i64.wrap ((most : Int) - n) = (most : Int) - n := IntWalk.i64_in _ (by omega)
  clear d
  go_enter Try.func16, Try.ntmps16
  go_wp2_with fail
  go_quiet (fail)
  go_wp2_with fail
  go_ret
  exact ⟨rfl, (Keeps.refl _ w).drewN _⟩
theorem stop_any (d : QS w g most A n c way l) : Calls Try.prog 12 #[.pointer (some ⟨g, 0, none⟩)] w fun e w' => e = .returned (.tuple #[]) ∧ QS w' g most A n c false l ∧ Keeps (fun b => b = g) w w' := by
  have c2 := d.box.cell 2
  have f2 := d.box.frozen 2
  simp at c2
  have D := Lib.hid d
  clear d
  go_enter Try.func12, Try.ntmps12
  go_wp2_with fail
  go_end0
  have hk : Keeps (fun b => b = g) w (w.setCell ⟨g, 2, none⟩ (.bool false)) := (Keeps.refl (fun b => b = g) w).setCell _ _ (fun _ => rfl)
  refine ⟨rfl, ⟨D.out.box.set 2 _, D.out.row.keeps hk (fun q hq e => by rw [e] at hq; exact D.out.row.blk_ne D.out.box (by decide) hq), fun a ha => ⟨(D.out.ok a ha).1.keep1 hk D.out.box (by decide), (D.out.ok a ha).2⟩, D.out.one, D.out.few, D.out.room, by simp⟩, hk⟩
end
end Go.Proofs.Ytfidhnplaieacaa
