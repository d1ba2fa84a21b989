/- Calls on timers: how they lie. -/
import Derived.Test.YteeginfbonfhlaaW9
namespace Go.Proofs.Yteeginfbonfhlaa
open Go.RowKit Mem
/-- A call: which, of what, how much, of which key. -/
structure OT where
  kind : Int
  what : Int
  num : Int
  key : ByteArray
def opE : Enc OT where
  enc := fun o => [.int .i64 o.kind, .int .i64 o.what, .int .i64 o.num, .string o.key]
  size := 4
  len := fun _ => rfl
  one := fun x u h => by
    simp at h
    rcases h with rfl | rfl | rfl | rfl <;> rfl
  pos := by decide
theorem elem45 : Elem Try.prog 38 45 opE 40 := Elem.of Try.underlying38 (z := .agg #[.int .i64 0, .int .i64 0, .int .i64 0, .string ⟨#[]⟩]) (by kernel_rfl) rfl
def okO (o : OT) : Prop := isInt o.kind ∧ isInt o.what ∧ isInt o.num ∧ isStr o.key
end Go.Proofs.Yteeginfbonfhlaa
