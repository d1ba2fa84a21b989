/- What a row of entries does to balances: plain. -/
import Derived.Test.YtklcooepolmemaaW2
import Derived.Test.YtklcooepolmemaaRecs
import Derived.Test.YtklcooepolmemaaGrow
namespace Go.Proofs.Ytklcooepolmemaa
open Go.RowKit Mem
/-- An entry: an account, an amount. -/
def entry : Enc (Int × Int) where
  enc := fun p => [.int .i64 p.1, .int .i64 p.2]
  size := 2
  len := fun _ => rfl
  one := fun x u h => by
    simp at h
    rcases h with rfl | rfl <;> rfl
  pos := by decide
/-- A wide number. -/
def wid : Enc Int where
  enc := fun v => [.int .u64 (hi v), .int .u64 (lo v)]
  size := 2
  len := fun _ => rfl
  one := fun x u h => by
    simp at h
    rcases h with rfl | rfl <;> rfl
  pos := by decide
def okE (p : Int × Int) : Prop := isInt p.1 ∧ isInt p.2
def inAll (n : Nat) (es : List (Int × Int)) : Prop := ∀ e ∈ es, 0 ≤ e.1 ∧ e.1 < n
instance (n : Nat) (es : List (Int × Int)) : Decidable (inAll n es) := by unfold inAll; infer_instance
def tot : List (Int × Int) → Int
  | [] => 0
  | e :: es => e.2 + tot es
def ofA (a : Nat) : List (Int × Int) → Int
  | [] => 0
  | e :: es => (if e.1 = a then e.2 else 0) + ofA a es
theorem tot_append (a b : List (Int × Int)) : tot (a ++ b) = tot a + tot b := by
  induction a with
  | nil => simp [tot]
  | cons e a ih => rw [List.cons_append]; show e.2 + tot (a ++ b) = e.2 + tot a + tot b; omega
theorem ofA_append (i : Nat) (a b : List (Int × Int)) : ofA i (a ++ b) = ofA i a + ofA i b := by
  induction a with
  | nil => simp [ofA]
  | cons e a ih => rw [List.cons_append]; show (if e.1 = i then e.2 else 0) + ofA i (a ++ b) = (if e.1 = i then e.2 else 0) + ofA i a + ofA i b; omega
theorem tot_succ {es : List (Int × Int)} {k : Nat} {e : Int × Int} (h : es[k]? = some e) : tot (es.take (k + 1)) = tot (es.take k) + e.2 := by
  rw [List.take_add_one, h, tot_append]
  simp [tot]
theorem ofA_succ {es : List (Int × Int)} {k : Nat} {e : Int × Int} (h : es[k]? = some e) (i : Nat) : ofA i (es.take (k + 1)) = ofA i (es.take k) + (if e.1 = i then e.2 else 0) := by
  rw [List.take_add_one, h, ofA_append]
  simp [ofA]
theorem tot_le {es : List (Int × Int)} (hok : ∀ e ∈ es, okE e) : -(es.length * 9223372036854775808) ≤ tot es ∧ tot es ≤ es.length * 9223372036854775808 := by
  induction es with
  | nil => simp [tot]
  | cons e es ih =>
    have h1 := ih (fun x hx => hok x (List.mem_cons_of_mem _ hx))
    have h2 := (hok e (List.mem_cons_self ..)).2
    unfold isInt at h2
    unfold tot
    rw [List.length_cons]
    omega
theorem ofA_le (i : Nat) {es : List (Int × Int)} (hok : ∀ e ∈ es, okE e) : -(es.length * 9223372036854775808) ≤ ofA i es ∧ ofA i es ≤ es.length * 9223372036854775808 := by
  induction es with
  | nil => simp [ofA]
  | cons e es ih =>
    have h1 := ih (fun x hx => hok x (List.mem_cons_of_mem _ hx))
    have h2 := (hok e (List.mem_cons_self ..)).2
    unfold isInt at h2
    unfold ofA
    rw [List.length_cons]
    split <;> omega
/-- The balances behind some entries. -/
def nb (bs : List Int) (es : List (Int × Int)) : List Int := bs.mapIdx (fun i b => b + ofA i es)
theorem nb_length (bs : List Int) (es : List (Int × Int)) : (nb bs es).length = bs.length := by simp [nb]
theorem nb_get (bs : List Int) (es : List (Int × Int)) (i : Nat) : (nb bs es)[i]? = bs[i]?.map (fun b => b + ofA i es) := by simp [nb]
theorem nb_nil (bs : List Int) : nb bs [] = bs := by
  apply List.ext_getElem?
  intro i
  rw [nb_get]
  cases bs[i]? <;> simp [ofA]
theorem nb_succ {bs : List Int} {es : List (Int × Int)} {k : Nat} {e : Int × Int} (h : es[k]? = some e) (h0 : 0 ≤ e.1) {x : Int} (hx : (nb bs (es.take k))[e.1.toNat]? = some x) :
    nb bs (es.take (k + 1)) = (nb bs (es.take k)).set e.1.toNat (x + e.2) := by
  have hl := (List.getElem?_eq_some_iff.1 hx).1
  apply List.ext_getElem?
  intro i
  rw [nb_get, ofA_succ h, List.getElem?_set]
  by_cases hi : e.1.toNat = i
  · subst hi
    rw [if_pos rfl, if_pos hl, if_pos (by omega)]
    rw [nb_get] at hx
    cases hb : bs[e.1.toNat]? with
    | none => rw [hb] at hx; cases hx
    | some b =>
      rw [hb] at hx
      simp at hx
      simp
      omega
  · rw [if_neg hi, nb_get, if_neg (by omega)]
    simp
theorem nb_le {bs : List Int} {es : List (Int × Int)} (hb : ∀ b ∈ bs, isInt b) (hok : ∀ e ∈ es, okE e) (hn : es.length ≤ 9223372036854775807) {x : Int} (hx : x ∈ nb bs es) : -85070591730234615865843651857942052864 ≤ x ∧ x ≤ 85070591730234615865843651857942052864 := by
  obtain ⟨i, hi⟩ := List.mem_iff_getElem?.1 hx
  rw [nb_get] at hi
  cases hbi : bs[i]? with
  | none => rw [hbi] at hi; cases hi
  | some b =>
    rw [hbi] at hi
    have h1 := hb b (List.mem_of_getElem? hbi)
    have h2 := ofA_le i hok
    unfold isInt at h1
    simp at hi
    omega
/-- What Post answers, and the balances behind it. -/
def allInt (l : List Int) : Prop := ∀ b ∈ l, isInt b
instance (l : List Int) : Decidable (allInt l) := by unfold allInt; infer_instance
def postE (bs : List Int) (es : List (Int × Int)) : Int := if ¬ inAll bs.length es then 121 else if tot es ≠ 0 then 120 else if ¬ allInt (nb bs es) then 100 else 0
def postB (bs : List Int) (es : List (Int × Int)) : List Int := if postE bs es = 0 then nb bs es else bs
theorem postE_acc {bs : List Int} {es : List (Int × Int)} (h : ¬ inAll bs.length es) : postE bs es = 121 := if_pos h
theorem postE_sum {bs : List Int} {es : List (Int × Int)} (h : inAll bs.length es) (h2 : tot es ≠ 0) : postE bs es = 120 := by unfold postE; rw [if_neg (fun h' => h' h), if_pos h2]
theorem postE_money {bs : List Int} {es : List (Int × Int)} (h : inAll bs.length es) (h2 : tot es = 0) (h3 : ¬ allInt (nb bs es)) : postE bs es = 100 := by unfold postE; rw [if_neg (fun h' => h' h), if_neg (fun h' => h' h2), if_pos h3]
theorem postE_ok {bs : List Int} {es : List (Int × Int)} (h : inAll bs.length es) (h2 : tot es = 0) (h3 : allInt (nb bs es)) : postE bs es = 0 := by unfold postE; rw [if_neg (fun h' => h' h), if_neg (fun h' => h' h2), if_neg (fun h' => h' h3)]
theorem postB_no {bs : List Int} {es : List (Int × Int)} (h : postE bs es ≠ 0) : postB bs es = bs := if_neg h
theorem postB_ok {bs : List Int} {es : List (Int × Int)} (h : postE bs es = 0) : postB bs es = nb bs es := if_pos h
theorem postE_zero {bs : List Int} {es : List (Int × Int)} : postE bs es = 0 ↔ inAll bs.length es ∧ tot es = 0 ∧ allInt (nb bs es) := by
  by_cases h1 : inAll bs.length es
  · by_cases h2 : tot es = 0
    · by_cases h3 : allInt (nb bs es)
      · simp [postE_ok h1 h2 h3, h1, h2, h3]
      · simp [postE_money h1 h2 h3, h3]
    · simp [postE_sum h1 h2, h2]
  · simp [postE_acc h1, h1]
theorem sum_zero {s : Int} (h1 : -170141183460469231731687303715884105727 ≤ s) (h2 : s ≤ 170141183460469231731687303715884105727) : (hi s = 0 ∧ lo s = 0) ↔ s = 0 := by
  unfold hi lo
  omega
theorem all_wides (n : Nat) : wid.all (List.replicate n 0) = (List.replicate n [Value.int .u64 0, Value.int .u64 0]).flatten := by
  induction n with
  | zero => rfl
  | succ n ih =>
    rw [List.replicate_succ, List.replicate_succ]
    show wid.enc 0 ++ wid.all (List.replicate n 0) = _
    rw [ih, List.flatten_cons]
    rfl
theorem made_two (z : Value) (n : Nat) : (madeCells #[z, z] (n * 2)).toList = (List.replicate n [z, z]).flatten := by
  have e : (List.replicate n [z, z]).flatten = List.replicate (n * 2) z := by
    induction n with
    | zero => rfl
    | succ n ih =>
      rw [List.replicate_succ, List.flatten_cons, ih, Nat.succ_mul]
      rfl
  rw [e]
  apply List.ext_getElem?
  intro k
  by_cases h : k < n * 2
  · rw [List.getElem?_eq_getElem (by simp [madeCells]; omega), List.getElem?_eq_getElem (by simp; exact h)]
    have hm := Nat.mod_two_eq_zero_or_one k
    rcases hm with hm | hm <;> simp [madeCells, hm]
  · rw [List.getElem?_eq_none (by simp [madeCells]; omega), List.getElem?_eq_none (by simp; omega)]
theorem make_wides (n : Nat) (hn : n ≤ 1000) (W : World) : (Instr.makeSlice 63 (.int .i64 n) (.int .i64 n)).run Try.prog W = .ok (.slice (some ⟨W.heap.size, 0, none⟩) n n) (W.alloc (.cells (madeCells #[.int .u64 0, .int .u64 0] (n * 2)) 62)) := by
  have hinf : (Try.prog.info? 62).map (fun i => (i.zero, i.size, i.bytes)) = some (some (.agg #[.int .u64 0, .int .u64 0]), 2, 16) := by kernel_rfl
  obtain ⟨i, hi, hz⟩ := Option.map_eq_some_iff.1 hinf
  simp only [Prod.mk.injEq] at hz
  obtain ⟨hz0, hz1, hz2⟩ := hz
  have := run_makeSlice (P := Try.prog) W 63 62 i (.agg #[.int .u64 0, .int .u64 0]) Try.underlying63 hi hz0 .i64 .i64 n n (by omega) (Int.le_refl _) (by rw [hz1]; simp; omega) (by rw [hz2]; omega) (by omega)
  rw [hz1] at this
  simpa [Value.cells] using this
theorem wides_new {w : World} {base H : Nat} (hH : w.heap.size = H) (hb : base ≤ H) (n : Nat) (hn : n ≤ 1000) : Own wid (w.alloc (.cells (madeCells #[.int .u64 0, .int .u64 0] (n * 2)) 62)) base 62 (.slice (some ⟨H, 0, none⟩) n n) (List.replicate n 0) :=
  Own.new w base 62 _ _ (by rw [made_two, all_wides]) H hH hb n (by simp) (by unfold maxLen; omega)
theorem eq62 (a b c d : Int) (w : World) : (Op.equalIn 10000 62 (.agg #[.int .u64 a, .int .u64 b]) (.agg #[.int .u64 c, .int .u64 d])).run Try.prog w = .ok (a == c && b == d) w := by
  rw [show (10000 : Nat) = 9999 + 1 from rfl, Op.equalIn]
  simp only [Sem.run_bind, run_underlying Try.underlying62, Result.andThen_ok]
  simp only [Std.Legacy.Range.forIn_eq_forIn_range', Std.Legacy.Range.size, Nat.sub_zero, Nat.add_sub_cancel, Nat.div_one, List.range'_succ, List.range'_zero, List.forIn_cons, List.forIn_nil]
  go_simp
  by_cases h1 : a = c <;> by_cases h2 : b = d <;> simp [h1, h2]
theorem sum_test {s : Int} (h1 : -170141183460469231731687303715884105727 ≤ s) (h2 : s ≤ 170141183460469231731687303715884105727) (W : World) :
    (Op.equalIn 10000 62 (.agg #[.int .u64 (hi s), .int .u64 (lo s)]) (.agg #[.int .u64 0, .int .u64 0])).run Try.prog W = .ok (decide (s = 0)) W := by
  rw [eq62]
  have h := sum_zero h1 h2
  by_cases hs : s = 0
  · rw [decide_eq_true hs, (h.2 hs).1, (h.2 hs).2]; rfl
  · rw [decide_eq_false hs]
    have : ¬ (hi s = 0 ∧ lo s = 0) := fun h' => hs (h.1 h')
    by_cases ha : hi s = 0
    · have hb : lo s ≠ 0 := fun hb => this ⟨ha, hb⟩
      simp [hb]
    · simp [ha]
theorem mixed (x y : Int) : hi (hi y * 18446744073709551616 + lo x) = hi y ∧ lo (hi y * 18446744073709551616 + lo x) = lo x := by
  unfold hi lo
  omega
theorem wid_set {w : World} {base g n c : Nat} {l : List Int} (h : Own wid w base 62 (.slice (some ⟨g, 0, none⟩) n c) l) {i : Nat} {x : Int} (hi' : l[i]? = some x) (y : Int) :
    Own wid ((w.setCell ⟨g, i * 2, none⟩ (.int .u64 (hi y))).setCell ⟨g, i * 2 + 1, none⟩ (.int .u64 (lo y))) base 62 (.slice (some ⟨g, 0, none⟩) n c) (l.set i y) := by
  have hm := mixed x y
  have hlt := (List.getElem?_eq_some_iff.1 hi').1
  have h1 := h.store (j := 0) (y := hi y * 18446744073709551616 + lo x) (u := .int .u64 (hi y)) hi' (by decide) (by simp [wid, hm.1, hm.2])
  have h2 := h1.store (j := 1) (y := y) (u := .int .u64 (lo y)) (List.getElem?_set_self hlt) (by decide) (by simp [wid, hm.1])
  rw [List.set_set] at h2
  exact h2
end Go.Proofs.Ytklcooepolmemaa
