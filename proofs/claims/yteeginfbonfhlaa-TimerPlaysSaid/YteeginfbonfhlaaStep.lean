/- append, at a step of a region that draws its order. For any program. -/
import Derived.Test.YteeginfbonfhlaaStr
import Derived.Deep.RegionHeld3
namespace Go.Proofs.Yteeginfbonfhlaa.Mem
open Go.RowKit
section
variable {α : Type} {E : Enc α} {P : Program} {t e : TypeId} {bytes : Nat}
theorem step_append (T : Elem P t e E bytes) {ops : Array Oper} {o : Oper} {a : Act} {K : Act → World → Prop} {Q : Exit → Act → World → Prop} {w : World} {EE : Prop} (hgd : o.guard = none) (s x : Operand)
    (ho : o.op = .call { callee := .builtin .append, args := #[s, x], argTypes := #[t, t] }) (base : Nat) (v : Value) (l m : List α) (A : Option Addr) (n c : Nat) (hs : a.eval s = v) (hx : a.eval x = .slice A n c)
    (hown : Own E w base e v l) (hm : Reads E w A n m) (hl : (l.length + n) * bytes ≤ 140737488355328) (hl2 : l.length + n ≤ maxLen) (hb : base ≤ w.heap.size)
    (h : ∀ k A' c' w', k = l.length + n → Own E w' base e (.slice A' k c') (l ++ m) → w.grownBy w' v.ownBlock → ((Value.slice A' k c').ownBlock = v.ownBlock ∨ (Value.slice A' k c').ownBlock = some w.heap.size) → K (a.put o.dst (.slice A' k c')) w') :
    if Region.wanted o (yielded ops a.tmps) = true then Oper.wp P o a w K Q else EE := by
  have hw : Region.wanted o (yielded ops a.tmps) = true := by simp [Region.wanted, hgd]
  rw [if_pos hw]
  obtain ⟨v', w', hr, h1, h2, h3⟩ := append_run T w base v l m A n c hown hm hl hl2 hb o.type
  obtain ⟨A', c', hv, _⟩ := Own.val h1 rfl
  subst hv
  unfold Oper.wp execOp
  simp only [ho, resolve, invoke, builtin, Sem.run_bind, Sem.run_pure, Result.andThen_ok, List.map_toArray, List.map_cons, List.map_nil, hs, hx, hr]
  exact h _ _ _ _ (by rw [List.length_append, hm.1]) h1 h2 h3
end
end Go.Proofs.Yteeginfbonfhlaa.Mem
