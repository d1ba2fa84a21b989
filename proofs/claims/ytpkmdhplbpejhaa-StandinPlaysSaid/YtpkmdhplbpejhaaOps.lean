/- Calls. -/
import Derived.Test.YtpkmdhplbpejhaaW1
namespace Go.Proofs.Ytpkmdhplbpejhaa
open Go.RowKit Mem
/-- A call: its kind, its member, its amount, its card. -/
structure Op4 where
  kind : Int
  member : Int
  amount : Int
  pan : ByteArray
def op4 : Enc Op4 where
  enc := fun o => [.int .i64 o.kind, .int .i64 o.member, .int .i64 o.amount, .string o.pan]
  size := 4
  len := fun _ => rfl
  one := fun x u h => by
    simp at h
    rcases h with rfl | rfl | rfl | rfl <;> rfl
  pos := by decide
def okOp (o : Op4) : Prop := isInt o.kind ∧ isInt o.member ∧ isInt o.amount ∧ isStr o.pan
end Go.Proofs.Ytpkmdhplbpejhaa
