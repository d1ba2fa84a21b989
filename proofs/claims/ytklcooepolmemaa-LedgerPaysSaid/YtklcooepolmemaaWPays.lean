/- LedgerPays, walked. -/
import Derived.Test.YtklcooepolmemaaW9
namespace Go.Proofs.Ytklcooepolmemaa
open Go.RowKit Mem
set_option maxRecDepth 100000 in
set_option maxHeartbeats 6400000 in
theorem pays_any (A1 : Option Addr) (n c : Nat) (A2 : Option Addr) (n2 c2 : Nat) (r1 r2 : RateT) (u1 u2 u3 a i x : Int) (hn : n ≤ 9223372036854775807) (es : List (Int × Int)) (A0 : Option Addr) (n0 c0 : Nat) (w : World) (h0 : Reads entry w A0 n0 es) (hok : ∀ e ∈ es, okE e) (hn0 : n0 * 16 ≤ 140737488355328) :
    Calls Try.prog 6 #[cfgV A1 n c A2 n2 c2 r1 r2 u1 u2 u3, .agg #[.int .i64 a, .int .i64 i, .int .i64 x], .slice A0 n0 c0] w fun e w' => e = .returned (.bool true) ∧ Below w.heap.size w w' := by
  have HL := Lib.hid h0.1
  have R0 := Lib.hid h0
  have OK := Lib.hid hok
  clear h0 hok
  obtain ⟨w0, hw0⟩ : ∃ w0, w0 = (w.alloc (.cells #[.slice A1 n c, .slice A2 n2 c2, .int .i64 r1.p, .int .i64 r1.l, .int .i64 r1.m, .int .i64 r2.p, .int .i64 r2.l, .int .i64 r2.m, .int .i64 u1, .int .i64 u2, .int .i64 u3] 49)).alloc (.cells #[.int .i64 a, .int .i64 i, .int .i64 x] 50) := ⟨_, rfl⟩
  have bc : Blk w0 w.heap.size 49 #[.slice A1 n c, .slice A2 n2 c2, .int .i64 r1.p, .int .i64 r1.l, .int .i64 r1.m, .int .i64 r2.p, .int .i64 r2.l, .int .i64 r2.m, .int .i64 u1, .int .i64 u2, .int .i64 u3] := by rw [hw0]; exact (Blk.new w 49 _ _ rfl).alloc _
  have bn : Blk w0 (w.heap.size + 1) 50 #[.int .i64 a, .int .i64 i, .int .i64 x] := by rw [hw0]; exact Blk.new _ 50 _ _ (by simp)
  have K0 := Lib.hid (show Keeps (fun _ => False) w w0 by rw [hw0]; exact ((Keeps.refl _ w).alloc _).alloc _)
  have BC := Lib.hid bc
  have BN := Lib.hid bn
  have HW0 := Lib.hid hw0
  clear bc bn hw0
  have m0 : True := trivial
  have m1 : True := trivial
  unfold cfgV
  go_enter Try.func6, Try.ntmps6
  go_wp2_with fail
  rw [← HW0.out]
  go_wp2_with (first
    | (go_at_call 8; refine (shown_any w0).mono ?_
       rintro e w1 ⟨rfl, k1⟩
       have b1 := BC.out.keeps k1 (fun h => h)
       have n1 := BN.out.keeps k1 (fun h => h)
       have x0 := b1.cell 0
       have x1 := b1.cell 1
       have x2 := b1.cell 2
       have x3 := b1.cell 3
       have x4 := b1.cell 4
       have x5 := b1.cell 5
       have x6 := b1.cell 6
       have x7 := b1.cell 7
       have x8 := b1.cell 8
       have x9 := b1.cell 9
       have x10 := b1.cell 10
       have y0 := n1.cell 0
       have y1 := n1.cell 1
       have y2 := n1.cell 2
       simp at x0 x1 x2 x3 x4 x5 x6 x7 x8 x9 x10 y0 y1 y2
       have B1 := Lib.hid b1
       have N1 := Lib.hid n1
       have K1 := Lib.hid (K0.out.trans k1 (fun _ _ h => h))
       clear k1 b1 n1)
    | (go_at_call 17; refine (payment_any A1 n c A2 n2 c2 r1 r2 u1 u2 u3 a i x w1 hn).mono ?_
       rintro e w2 ⟨A3, n3, c3, rfl, o2, k2⟩
       have b1 := B1.out.keeps k2 (fun h => h)
       have n1 := N1.out.keeps k2 (fun h => h)
       have z0 := b1.cell 0
       have z1 := b1.cell 1
       have z2 := b1.cell 2
       have z3 := b1.cell 3
       have z4 := b1.cell 4
       have z5 := b1.cell 5
       have z6 := b1.cell 6
       have z7 := b1.cell 7
       have z8 := b1.cell 8
       have z9 := b1.cell 9
       have z10 := b1.cell 10
       have v0 := n1.cell 0
       have v1 := n1.cell 1
       have v2 := n1.cell 2
       simp at z0 z1 z2 z3 z4 z5 z6 z7 z8 z9 z10 v0 v1 v2
       have K2 := Lib.hid (K1.out.trans k2 (fun _ _ h => h))
       have O2 := Lib.hid o2
       have hn3 := o2.len_eq rfl
       have HN3 := Lib.hid hn3
       clear k2 b1 n1 o2 hn3)
    | (go_at_call 18; refine (refPayment_any A1 n c A2 n2 c2 r1 r2 u1 u2 u3 a i x w2 hn).mono ?_
       rintro e w3 ⟨A4, n4, c4, rfl, o3, k3⟩
       have hn4 : n4 = n3 := by rw [← HN3.out]; exact (o3.len_eq rfl).symm
       subst hn4
       have hz3 := k3.size
       have R2 := Lib.hid ((own_reads O2.out).keeps k3 (fun _ _ _ h => h))
       have R3 := Lib.hid (own_reads o3)
       have K3 := Lib.hid (K2.out.trans k3 (fun _ _ h => h))
       have hn3 : n4 ≤ 9223372036854775807 := by
         rw [← HN3.out]
         unfold payL
         split
         · have a1 := mv_len i a x
           have a2 := mv_len a i (feeN r1 x)
           have a3 := mv_len a n (feeN r2 x)
           simp
           omega
         · simp
       have RW := Lib.hid (R0.out.keeps K3.out (fun _ _ _ h => h))
       clear k3 o3)
    | (at_builtin; refine wp_append elem30 (by rfl) (.tmp 43) (.tmp 44) (by rfl) w3.heap.size (.slice (some ⟨w3.heap.size, 0, none⟩) 0 0) [] es A0 n0 c0 rfl rfl (own_empty _ _ _ _ _ rfl (Nat.le_refl _)) (RW.out.alloc _) (by simp; omega) (by simp [maxLen]; omega) (by simp) ?_
       intro v4 w4 own4 gr4 at4
       rw [List.nil_append] at own4
       obtain ⟨A5, c5, hv5, _⟩ := Own.val own4 HL.out
       rw [hv5]
       rw [hv5] at own4
       have k4 := app_empty w3 w3.heap.size rfl gr4
       have O4 := Lib.hid own4
       have R24 := Lib.hid (R2.out.keeps k4 (fun _ _ _ h => h))
       have R34 := Lib.hid (R3.out.keeps k4 (fun _ _ _ h => h))
       have K4 := Lib.hid (K3.out.trans k4 (fun _ _ h => h))
       clear own4 gr4 at4 hv5 k4)
    | (go_at_call 19; refine (turned_any es A5 n0 c5 w4 (own_reads O4.out) (own_none O4.out) hn0 OK.out).mono ?_
       rintro e w5 ⟨A6, n6, c6, rfl, o5, k5⟩
       have hn6 := o5.len_eq rfl
       have HN6 := Lib.hid hn6
       have O5 := Lib.hid o5
       have R45 := Lib.hid ((own_reads O4.out).keeps k5 (fun _ _ _ h => h))
       have R25 := Lib.hid (R24.out.keeps k5 (fun _ _ _ h => h))
       have R35 := Lib.hid (R34.out.keeps k5 (fun _ _ _ h => h))
       have K5 := Lib.hid (K4.out.trans k5 (fun _ _ h => h))
       clear k5 o5 hn6)
    | (go_at_call 20; refine (refTurned_any es A0 n0 c0 w5 (R0.out.keeps K5.out (fun _ _ _ h => h)) hn0 OK.out).mono ?_
       rintro e w6 ⟨A7, n7, c7, rfl, o6, k6⟩
       have hn7 : n7 = n6 := by rw [← HN6.out]; exact (o6.len_eq rfl).symm
       subst hn7
       have hn7 : n7 ≤ 9223372036854775807 := by
         rw [← HN6.out]
         unfold turnL
         split
         · have := HL.out
           simp
           omega
         · simp
       have R56 := Lib.hid ((own_reads O5.out).keeps k6 (fun _ _ _ h => h))
       have R66 := Lib.hid (own_reads o6)
       have R46 := Lib.hid (R45.out.keeps k6 (fun _ _ _ h => h))
       have R26 := Lib.hid (R25.out.keeps k6 (fun _ _ _ h => h))
       have R36 := Lib.hid (R35.out.keeps k6 (fun _ _ _ h => h))
       have K6 := Lib.hid (K5.out.trans k6 (fun _ _ h => h))
       clear k6 o6)
    | (go_at_call 15; clear m0; refine (same_yes _ A3 n4 c3 A4 c4 w6 R26.out R36.out hn3).mono ?_
       rintro e w7 ⟨rfl, k7⟩
       have R57 := Lib.hid (R56.out.keeps k7 (fun _ _ _ h => h))
       have R67 := Lib.hid (R66.out.keeps k7 (fun _ _ _ h => h))
       have R47 := Lib.hid (R46.out.keeps k7 (fun _ _ _ h => h))
       have K7 := Lib.hid (K6.out.trans k7 (fun _ _ h => h))
       clear k7)
    | (go_at_call 15; clear m1; refine (same_yes _ A6 n7 c6 A7 c7 w7 R57.out R67.out hn7).mono ?_
       rintro e w8 ⟨rfl, k8⟩
       have R48 := Lib.hid (R47.out.keeps k8 (fun _ _ _ h => h))
       have K8 := Lib.hid (K7.out.trans k8 (fun _ _ h => h))
       clear k8)
    | (go_at_call 15; refine (same_yes es A5 n0 c5 A0 c0 w8 R48.out (R0.out.keeps K8.out (fun _ _ _ h => h)) (by omega)).mono ?_
       rintro e w9 ⟨rfl, k9⟩
       have K9 := Lib.hid (K8.out.trans k9 (fun _ _ h => h))
       clear k9))
  go_ret
  exact ⟨rfl, K9.out.below (Nat.le_refl _) (fun _ _ h => h)⟩
end Go.Proofs.Ytklcooepolmemaa
