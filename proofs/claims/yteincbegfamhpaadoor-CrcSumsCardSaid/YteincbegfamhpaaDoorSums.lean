/- The law CrcSums, walked: the program's sums are the reference's. -/
import Derived.Test.YteincbegfamhpaaDoorW2
namespace Go.Proofs.YteincbegfamhpaaDoor
open Go.RowKit
set_option maxHeartbeats 400000 in
theorem sums_any (A : Option Addr) (n c : Nat) (L : List Nat) (s : Nat) (hs : s < 4294967296) (w : World) (ht : Tab w) (h0 : 0 < w.heap.size) (hr : Bytes w A n L) :
    Calls Tryd.prog 3 #[.slice A n c, .int .u32 s] w fun e w' => e = .returned (.bool true) ∧ Below w.heap.size w w' := by
  have HT := Lib.hid ht
  have HR := Lib.hid hr
  clear ht hr
  go_enter Tryd.func3, Tryd.ntmps3
  go_wp2_with fail
  refine (shown_any _ HT.out h0).mono ?_
  rintro e w1 ⟨rfl, hb⟩
  have HT1 := Lib.hid (HT.out.below h0 hb)
  have HR1 := Lib.hid (HR.out.below hb)
  have HB := Lib.hid hb
  clear hb
  go_wp2_with fail
  refine (sum_any _ _ _ L _ HT1.out HR1.out).mono ?_
  rintro e w2 ⟨rfl, rfl⟩
  go_wp2_with fail
  refine (ref_sum _ _ _ L _ HR1.out).mono ?_
  rintro e w2 ⟨rfl, rfl⟩
  go_wp2_with fail
  refine (more_any s hs _ _ _ L _ HT1.out HR1.out).mono ?_
  rintro e w2 ⟨rfl, rfl⟩
  go_wp2_with fail
  refine (ref_more s hs _ _ _ L _ HR1.out).mono ?_
  rintro e w2 ⟨rfl, rfl⟩
  go_wp2_with fail
  go_ret
  exact ⟨rfl, HB.out⟩
end Go.Proofs.YteincbegfamhpaaDoor
