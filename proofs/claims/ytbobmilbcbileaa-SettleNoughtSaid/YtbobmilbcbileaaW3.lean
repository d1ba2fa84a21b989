/- An entry counted: walked. -/
import Derived.Test.YtbobmilbcbileaaW2
namespace Go.Proofs.Ytbobmilbcbileaa
open Go.RowKit Mem
/-- An entry on an account's totals. -/
def ok1 (t : T6) (a : Int) : Prop := (0 < a → isInt (t.cs + a)) ∧ (a < 0 → isInt (t.ds - a))
instance (t : T6) (a : Int) : Decidable (ok1 t a) := by unfold ok1; infer_instance
def step1 (t : T6) (a : Int) : T6 :=
  if 0 < a then { t with credits := wrap64 (t.credits + 1), cs := t.cs + a, net := wrap64 (t.cs + a - t.ds) }
  else if a < 0 then { t with debits := wrap64 (t.debits + 1), ds := t.ds - a, net := wrap64 (t.cs - (t.ds - a)) }
  else { t with net := wrap64 (t.cs - t.ds) }
def isT (t : T6) : Prop := isInt t.cs ∧ isInt t.ds
theorem tot_at {w : World} {base g n c : Nat} {T : List T6} (h : Own total w base 41 (.slice (some ⟨g, 0, none⟩) n c) T) {i : Nat} {t : T6} (hi : T[i]? = some t) :
    w.cell? ⟨g, i * 6, none⟩ = some (.int .i64 t.member) ∧ w.cell? ⟨g, i * 6 + 1, none⟩ = some (.int .i64 t.credits) ∧ w.cell? ⟨g, i * 6 + 2, none⟩ = some (.int .i64 t.debits) ∧ w.cell? ⟨g, i * 6 + 3, none⟩ = some (.int .i64 t.cs) ∧ w.cell? ⟨g, i * 6 + 4, none⟩ = some (.int .i64 t.ds) ∧ w.cell? ⟨g, i * 6 + 5, none⟩ = some (.int .i64 t.net) :=
  ⟨h.at_ hi (j := 0) rfl, h.at_ hi (j := 1) rfl, h.at_ hi (j := 2) rfl, h.at_ hi (j := 3) rfl, h.at_ hi (j := 4) rfl, h.at_ hi (j := 5) rfl⟩
theorem wrap_eq (n : Int) : IntKind.i64.wrap n = wrap64 n := by
  rw [IntKind.wrap_i64]
  unfold wrap64
  omega
theorem net_set {w : World} {base g n c : Nat} {T : List T6} {i : Nat} {t : T6} (h : Own total w base 41 (.slice (some ⟨g, 0, none⟩) n c) (T.set i t)) (hi : i < T.length) (z : Int) :
    Own total (w.setCell ⟨g, i * 6 + 5, none⟩ (.int .i64 z)) base 41 (.slice (some ⟨g, 0, none⟩) n c) (T.set i { t with net := z }) := by
  have h := h.store (j := 5) (y := { t with net := z }) (u := .int .i64 z) (List.getElem?_set_self hi) (by decide) rfl
  rw [List.set_set] at h
  exact h
end Go.Proofs.Ytbobmilbcbileaa
