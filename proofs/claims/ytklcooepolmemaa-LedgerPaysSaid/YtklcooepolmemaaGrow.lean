/- append to a slice that is full: a new block. For any program. -/
import Derived.Test.YtklcooepolmemaaMem
import Derived.ArgAppend
namespace Go.Proofs.Ytklcooepolmemaa.Mem
open Go.RowKit
section
variable {α : Type} {E : Enc α} {P : Program} {t e : TypeId} {bytes : Nat}
theorem wp_append_full (T : Elem P t e E bytes) {ops : Array Oper} {rest : List Oper} {o : Oper} {a : Act} {Q : Exit → Act → World → Prop} {w : World} (hw : Region.wanted o (yielded ops a.tmps) = true) (s x : Operand)
    (ho : o.op = .call { callee := .builtin .append, args := #[s, x], argTypes := #[t, t] }) (l m : List α) (A : Option Addr) (n c : Nat) (A' : Option Addr) (n' c' : Nat) (hs : a.eval s = .slice A n c) (hx : a.eval x = .slice A' n' c')
    (hr : Reads E w A n l) (hm : Reads E w A' n' m) (hnone : A = none → n = 0 ∧ c = 0) (hfull : c < n + n') (hpos : 0 < n') (hl : (n + n') * bytes ≤ 140737488355328) (hl2 : n + n' ≤ maxLen)
    (h : ∀ v' w', Own E w' w.heap.size e v' (l ++ m) → w.grownBy w' none → wpList P ops Q rest (a.put o.dst v') w') :
    wpList P ops Q (o :: rest) a w := by
  obtain ⟨i, z, hi, hz0, hz1, hz2, hz3⟩ := T.info
  obtain ⟨ad', rfl, hc'⟩ := hm.2 hpos
  have hnews : ∀ j u, (E.all m)[j]? = some u → w.cell? (ad'.add j) = some u := fun k u h => by
    obtain ⟨x, hx, hu⟩ := E.all_at m k u h
    have := hc' _ x _ u hx hu
    rwa [show k / E.size * E.size + k % E.size = k by rw [Nat.mul_comm]; exact Nat.div_add_mod k E.size] at this
  have hlm : (E.all m).length = n' * E.size := by rw [E.all_length, hm.1]
  have hll : (E.all l).length = n * E.size := by rw [E.all_length, hr.1]
  refine BigFrame.wpList_want hw fun K hK => ?_
  have key : ∃ v' w', (Builtin.append_ #[t, t] o.type #[.slice A n c, .slice (some ad') n' c']).run P w = .ok v' w' ∧ w'.ownsRow w.heap.size e E.size v' (n + n') (E.all l ++ E.all m) ∧ w.grownBy w' none := by
    cases A with
    | some b =>
      have holds : ∀ j u, (E.all l)[j]? = some u → w.cell? (b.add j) = some u := fun k u h => by
        obtain ⟨x, hx, hu⟩ := E.all_at l k u h
        have hn0 : 0 < n := by
          have h1 := (List.getElem?_eq_some_iff.1 hx).1
          rw [hr.1] at h1
          exact Nat.lt_of_le_of_lt (Nat.zero_le _) h1
        obtain ⟨ad, e1, hc⟩ := hr.2 hn0
        injection e1 with e1
        subst e1
        have := hc _ x _ u hx hu
        rwa [show k / E.size * E.size + k % E.size = k by rw [Nat.mul_comm]; exact Nat.div_add_mod k E.size] at this
      exact run_append_arg_grows (P := P) w t o.type e i z E.size bytes T.ht hi hz0 hz1 hz2 hz3 E.pos b n c (E.all l) hll holds ad' n' c' (E.all m) hlm hnews hfull hl2 hl
    | none =>
      obtain ⟨rfl, rfl⟩ := hnone rfl
      have hl0 : E.all l = [] := List.eq_nil_of_length_eq_zero (by simpa using hll)
      rw [hl0]
      obtain ⟨v', w', hrun, r1, r2, _⟩ := run_append_own (P := P) w w.heap.size t o.type e i z E.size bytes T.ht hi hz0 hz1 hz2 hz3 E.pos (.slice none 0 0) 0 [] (World.ownsRow_nil w _ e E.size) ad' n' c' (E.all m) hlm hnews (E.all_one m) hl2 hl (Nat.le_refl _)
      exact ⟨v', w', hrun, r1, r2⟩
  obtain ⟨v', w', hrun, r1, r2⟩ := key
  unfold Oper.wp execOp
  simp only [ho, resolve, invoke, builtin, Sem.run_bind, Sem.run_pure, Result.andThen_ok, List.map_toArray, List.map_cons, List.map_nil, hs, hx, hrun]
  refine hK _ _ (h v' w' ?_ r2)
  unfold Own
  rw [List.length_append, hr.1, hm.1, E.all_append]
  exact r1
end
end Go.Proofs.Ytklcooepolmemaa.Mem
