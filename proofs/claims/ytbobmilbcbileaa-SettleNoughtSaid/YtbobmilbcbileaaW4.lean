/- Entries counted: walked. -/
import Derived.Test.YtbobmilbcbileaaW3p
import Derived.Test.YtbobmilbcbileaaW3q
import Derived.Test.YtbobmilbcbileaaW3n
import Derived.Test.YtbobmilbcbileaaW3m
import Derived.Test.YtbobmilbcbileaaW3z
namespace Go.Proofs.Ytbobmilbcbileaa
open Go.RowKit Mem
/-- An entry: an account, an amount. -/
def entry : Enc (Int × Int) where
  enc := fun p => [.int .i64 p.1, .int .i64 p.2]
  size := 2
  len := fun _ => rfl
  one := fun x u h => by
    simp at h
    rcases h with rfl | rfl <;> rfl
  pos := by decide
def okE (p : Int × Int) : Prop := isInt p.1 ∧ isInt p.2
theorem count_ok (no : Int) (T : List T6) (b n c base i : Nat) (a : Int) (t : T6) (w : World) (ho : Own total w base 41 (.slice (some ⟨b, 0, none⟩) n c) T) (hi : T[i]? = some t) (hin : i < n) (hn : n ≤ 7) (ha' : isInt a) (ht : isT t) (hs : ok1 t a) :
    Calls Try.prog 25 #[.agg #[.int .i64 no, .slice (some ⟨b, 0, none⟩) n c], .agg #[.int .i64 i, .int .i64 a]] w fun e w' => e = .returned (.int .i64 0) ∧ Own total w' base 41 (.slice (some ⟨b, 0, none⟩) n c) (T.set i (step1 t a)) ∧ Keeps (fun k => k = b) w w' := by
  rcases (show 0 < a ∨ a < 0 ∨ a = 0 by omega) with h | h | h
  · exact count_pos no T b n c base i a t w ho hi hin hn h ha' ht (hs.1 h)
  · exact count_neg no T b n c base i a t w ho hi hin hn h ha' ht (hs.2 h)
  · exact count_zero no T b n c base i a t w ho hi hin hn h
theorem count_no (no : Int) (T : List T6) (b n c base i : Nat) (a : Int) (t : T6) (w : World) (ho : Own total w base 41 (.slice (some ⟨b, 0, none⟩) n c) T) (hi : T[i]? = some t) (hin : i < n) (hn : n ≤ 7) (ha' : isInt a) (ht : isT t) (hs : ¬ ok1 t a) :
    Calls Try.prog 25 #[.agg #[.int .i64 no, .slice (some ⟨b, 0, none⟩) n c], .agg #[.int .i64 i, .int .i64 a]] w fun e w' => e = .returned (.int .i64 100) ∧ Keeps (fun k => k = b) w w' := by
  have hc : (0 < a ∧ ¬ isInt (t.cs + a)) ∨ (a < 0 ∧ ¬ isInt (t.ds - a)) := by
    unfold ok1 at hs
    by_cases h1 : 0 < a
    · left
      refine ⟨h1, fun h => hs ⟨fun _ => h, fun h' => by omega⟩⟩
    · right
      by_cases h2 : a < 0
      · exact ⟨h2, fun h => hs ⟨fun h' => by omega, fun _ => h⟩⟩
      · exact absurd ⟨fun h' => absurd h' h1, fun h' => absurd h' h2⟩ hs
  rcases hc with ⟨h, hh⟩ | ⟨h, hh⟩
  · exact (count_pos_no no T b n c base i a t w ho hi hin hn h ha' ht hh).mono (fun _ _ ⟨h1, _, h3⟩ => ⟨h1, h3⟩)
  · exact (count_neg_no no T b n c base i a t w ho hi hin hn h ha' ht hh).mono (fun _ _ ⟨h1, _, h3⟩ => ⟨h1, h3⟩)
/-- Entries on a book; none: a sum passes. -/
def foldT : List T6 → List (Int × Int) → Option (List T6)
  | T, [] => some T
  | T, e :: es => match T[e.1.toNat]? with
    | none => none
    | some t => if ok1 t e.2 then foldT (T.set e.1.toNat (step1 t e.2)) es else none
theorem foldT_cons (T : List T6) (e : Int × Int) (es : List (Int × Int)) : foldT T (e :: es) = match T[e.1.toNat]? with
    | none => none
    | some t => if ok1 t e.2 then foldT (T.set e.1.toNat (step1 t e.2)) es else none := rfl
theorem foldT_append (T : List T6) (a b : List (Int × Int)) : foldT T (a ++ b) = (foldT T a).bind (fun T' => foldT T' b) := by
  induction a generalizing T with
  | nil => rfl
  | cons e a ih =>
    rw [List.cons_append, foldT_cons, foldT_cons]
    cases T[e.1.toNat]? with
    | none => rfl
    | some t =>
      by_cases h : ok1 t e.2
      · simp only [if_pos h]
        exact ih _
      · simp only [if_neg h]
        rfl
theorem foldT_succ {T T' : List T6} {es : List (Int × Int)} {k : Nat} {e : Int × Int} (h : foldT T (es.take k) = some T') (hk : es[k]? = some e) : foldT T (es.take (k + 1)) = foldT T' [e] := by
  rw [List.take_add_one, hk]
  show foldT T (es.take k ++ [e]) = _
  rw [foldT_append, h]
  rfl
theorem foldT_length {T T' : List T6} {es : List (Int × Int)} (h : foldT T es = some T') : T'.length = T.length := by
  induction es generalizing T with
  | nil => unfold foldT at h; injection h with h; rw [h]
  | cons e es ih =>
    unfold foldT at h
    split at h
    · cases h
    · split at h
      · rw [ih h, List.length_set]
      · cases h
theorem step1_isT {t : T6} {a : Int} (h : isT t) (ho : ok1 t a) : isT (step1 t a) := by
  unfold step1
  by_cases h1 : 0 < a
  · rw [if_pos h1]
    exact ⟨ho.1 h1, h.2⟩
  · rw [if_neg h1]
    by_cases h2 : a < 0
    · rw [if_pos h2]
      exact ⟨h.1, ho.2 h2⟩
    · rw [if_neg h2]
      exact h
theorem foldT_isT {T T' : List T6} {es : List (Int × Int)} (h : foldT T es = some T') (ht : ∀ t ∈ T, isT t) : ∀ t ∈ T', isT t := by
  induction es generalizing T with
  | nil => unfold foldT at h; injection h with h; rw [← h]; exact ht
  | cons e es ih =>
    unfold foldT at h
    split at h
    · cases h
    · next t hte =>
      split at h
      · refine ih h (fun x hx => ?_)
        rcases List.mem_or_eq_of_mem_set hx with hx | rfl
        · exact ht x hx
        · exact step1_isT (ht _ (List.mem_of_getElem? hte)) (by assumption)
      · cases h
def inAll (n : Nat) (es : List (Int × Int)) : Prop := ∀ e ∈ es, 0 ≤ e.1 ∧ e.1 < n
instance (n : Nat) (es : List (Int × Int)) : Decidable (inAll n es) := by unfold inAll; infer_instance
def countE (T : List T6) (es : List (Int × Int)) : Int := if ¬ inAll T.length es then 121 else match foldT T es with
  | none => 100
  | some _ => 0
def countT (T : List T6) (es : List (Int × Int)) : List T6 := if ¬ inAll T.length es then T else (foldT T es).getD T
/-- The totals of an open day, and of the last one. -/
structure S5 (w : World) (g : Nat) (no : Int) (A : Option Addr) (n c : Nat) (no2 : Int) (A2 : Option Addr) (n2 c2 : Nat) (cl : Bool) (T T2 : List T6) : Prop where
  box : Blk w g 64 #[.int .i64 no, .slice A n c, .int .i64 no2, .slice A2 n2 c2, .bool cl]
  row : Own total w 0 41 (.slice A n c) T
  last : Own total w 0 41 (.slice A2 n2 c2) T2
  ts : ∀ t ∈ T, isT t
  few : n ≤ 7
  few2 : n2 ≤ 7
section
variable {w w' : World} {g : Nat} {no : Int} {A : Option Addr} {n c : Nat} {no2 : Int} {A2 : Option Addr} {n2 c2 : Nat} {cl : Bool} {T T2 : List T6} {S : Nat → Prop}
theorem S5.keep (h : S5 w g no A n c no2 A2 n2 c2 cl T T2) (K : Keeps (fun _ => False) w w') : S5 w' g no A n c no2 A2 n2 c2 cl T T2 :=
  ⟨h.box.keeps K (fun h => h), h.row.keeps K (fun _ _ h => h), h.last.keeps K (fun _ _ h => h), h.ts, h.few, h.few2⟩
theorem S5.keepg (h : S5 w g no A n c no2 A2 n2 c2 cl T T2) {g' : Nat} {cs : Array Value} (hb : Blk w g' 64 cs) (hne : g ≠ g') (K : Keeps (fun b => b = g') w w') : S5 w' g no A n c no2 A2 n2 c2 cl T T2 :=
  ⟨h.box.keeps K hne, h.row.keeps K (fun k hk e => by subst e; exact h.row.blk_ne hb (by decide) hk), h.last.keeps K (fun k hk e => by subst e; exact h.last.blk_ne hb (by decide) hk), h.ts, h.few, h.few2⟩
end
theorem own_none {α : Type} {E : Enc α} {w : World} {base : Nat} {e : TypeId} {A : Option Addr} {n c : Nat} {l : List α} (h : Own E w base e (.slice A n c) l) : A = none → n = 0 ∧ c = 0 := by
  rintro rfl
  rcases h.2 with ⟨h', _⟩ | ⟨_, _, _, h', _⟩
  · injection h' with _ h1 h2; exact ⟨h1, h2⟩
  · cases h'
end Go.Proofs.Ytbobmilbcbileaa
