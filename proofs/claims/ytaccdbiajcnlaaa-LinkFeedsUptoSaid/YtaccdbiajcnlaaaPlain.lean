/- Frames on a line, in plain lists: what a link tells of bytes. -/
import Derived.Test.YtaccdbiajcnlaaaMem
namespace Go.Proofs.Ytaccdbiajcnlaaa
/-- The length that two bytes tell, the higher one first. -/
def num2 (l : List Nat) : Nat := 256 * Mem.nth l 0 + Mem.nth l 1
/-- The frames that are whole, the error, and what is left. -/
def parse (l : List Nat) : List (List Nat) × Int × List Nat :=
  if l.length < 2 then ([], 0, l)
  else if num2 l = 0 ∨ 512 < num2 l then ([], 60, [])
  else if l.length < 2 + num2 l then ([], 0, l)
  else (((l.drop 2).take (num2 l)) :: (parse (l.drop (2 + num2 l))).1, (parse (l.drop (2 + num2 l))).2.1, (parse (l.drop (2 + num2 l))).2.2)
termination_by l.length
decreasing_by all_goals (simp; omega)
theorem parse_short {l : List Nat} (h : l.length < 2) : parse l = ([], 0, l) := by rw [parse, if_pos h]
theorem parse_bad {l : List Nat} (h : ¬ l.length < 2) (hb : num2 l = 0 ∨ 512 < num2 l) : parse l = ([], 60, []) := by rw [parse, if_neg h, if_pos hb]
theorem parse_part {l : List Nat} (h : ¬ l.length < 2) (hb : ¬ (num2 l = 0 ∨ 512 < num2 l)) (hp : l.length < 2 + num2 l) : parse l = ([], 0, l) := by rw [parse, if_neg h, if_neg hb, if_pos hp]
theorem parse_more {l : List Nat} (h : ¬ l.length < 2) (hb : ¬ (num2 l = 0 ∨ 512 < num2 l)) (hp : ¬ l.length < 2 + num2 l) :
    parse l = (((l.drop 2).take (num2 l)) :: (parse (l.drop (2 + num2 l))).1, (parse (l.drop (2 + num2 l))).2.1, (parse (l.drop (2 + num2 l))).2.2) := by
  conv => lhs; rw [parse, if_neg h, if_neg hb, if_neg hp]
/-- A frame with its length ahead. -/
def packed (l : List Nat) : List Nat := [l.length / 256, l.length % 256] ++ l
end Go.Proofs.Ytaccdbiajcnlaaa
