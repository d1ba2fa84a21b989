/- Each call of a queue and of the document's, in one form. -/
import Derived.Test.YtfidhnplaieacaaR6
import Derived.Test.YtfidhnplaieacaaR7
namespace Go.Proofs.Ytfidhnplaieacaa
open Go.RowKit Mem
/-- What an advice says. -/
abbrev Inf := ByteArray × Int × List FD
def info (a : AD) : Inf := (a.name, a.ty, a.fs)
theorem hasN_info (l : List AD) (s : ByteArray) : hasN l s = (l.map info).any (fun i => i.1.toList == s.toList) := by
  unfold hasN
  rw [List.any_map]
  rfl
theorem names_info (l : List AD) : l.map AD.name = (l.map info).map (·.1) := by
  rw [List.map_map]
  rfl
theorem putE_info {l m : List AD} (h : l.map info = m.map info) (n most : Nat) (s : ByteArray) : putE l n most s = putE m n most s := by
  unfold putE
  rw [hasN_info, hasN_info, h]
/-- What is told of the first one: its name, type and fields, and whether there is one. -/
def told (b : Bool) (I : List Inf) : Inf × Bool := match b, I with
  | true, i :: _ => (i, true)
  | _, _ => ((⟨#[]⟩, 0, []), false)
def doneB (way : Bool) (I : List Inf) (s : ByteArray) : Bool := match way, I with
  | true, i :: _ => i.1.toList == s.toList
  | _, _ => false
def outV (r : Inf × Bool) (A : Option Addr) (n c : Nat) : Value := .tuple #[.string r.1.1, .agg #[.int .i64 r.1.2.1, .slice A n c], .bool r.2]
section
variable {w w' : World} {g most : Nat} {A : Option Addr} {n c : Nat} {way : Bool} {l : List AD}
theorem put_u (d : QS w g most A n c way l) (s : ByteArray) (ty : Int) (Am : Option Addr) (nm cm : Nat) (fs : List FD) (hr : Reads fld w Am nm fs) (hn : nm * 24 ≤ 140737488355328) :
    Calls Try.prog 8 #[.pointer (some ⟨g, 0, none⟩), .string s, .agg #[.int .i64 ty, .slice Am nm cm]] w fun e w' => e = .returned (.int .i64 (putE l n most s)) ∧ ∃ A' n' c' l', QS w' g most A' n' c' way l' ∧ (l'.map info = if putE l n most s = 0 then l.map info ++ [(s, ty, fs)] else l.map info) ∧ n' = (if putE l n most s = 0 then n + 1 else n) ∧ (∀ a ∈ l', a ∈ l ∨ ∀ q, (Value.slice a.A a.n a.c).ownBlock = some q → w.heap.size ≤ q) ∧ (∀ q, (Value.slice A' n' c').ownBlock = some q → (Value.slice A n c).ownBlock = some q ∨ w.heap.size ≤ q) ∧ Keeps (fun b => b = g ∨ (Value.slice A n c).ownBlock = some b) w w' := by
  refine (put_any d s ty Am nm cm fs hr hn).mono ?_
  rintro e w' ⟨he, h⟩
  refine ⟨he, ?_⟩
  by_cases hE : putE l n most s = 0
  · rw [if_pos hE] at h
    obtain ⟨a, A', c', h1, h2, h3, h4, h5, h6, h7⟩ := h
    refine ⟨A', n + 1, c', l ++ [a], h5, ?_, by rw [if_pos hE], ?_, h6, h7⟩
    · rw [if_pos hE, List.map_append]
      show _ ++ [info a] = _
      unfold info
      rw [h1, h2, h3]
    · intro x hx
      rcases List.mem_append.1 hx with hx | hx
      · exact .inl hx
      · rw [List.mem_singleton.1 hx]
        exact .inr h4
  · rw [if_neg hE] at h
    exact ⟨A, n, c, l, d.keep h, by rw [if_neg hE], by rw [if_neg hE], fun a ha => .inl ha, fun q hq => .inl hq, h.mono (fun _ _ h => h.elim)⟩
theorem refPut_u (d : QR w g most A n c way l) (s : ByteArray) (ty : Int) (Am : Option Addr) (nm cm : Nat) (fs : List FD) (hr : Reads fld w Am nm fs) (hn : nm * 24 ≤ 140737488355328) :
    Calls Try.prog 21 #[.pointer (some ⟨g, 0, none⟩), .string s, .agg #[.int .i64 ty, .slice Am nm cm]] w fun e w' => e = .returned (.int .i64 (putE l n most s)) ∧ ∃ A' n' c' l', QR w' g most A' n' c' way l' ∧ (l'.map info = if putE l n most s = 0 then l.map info ++ [(s, ty, fs)] else l.map info) ∧ n' = (if putE l n most s = 0 then n + 1 else n) ∧ Keeps (fun b => b = g) w w' := by
  by_cases h1 : hasN l s = true
  · have hE : putE l n most s = 161 := by unfold putE; rw [if_pos h1]
    rw [hE]
    refine (refPut_twice d s ty Am nm cm fs hr h1).mono ?_
    rintro e w' ⟨he, k⟩
    exact ⟨he, A, n, c, l, d.keep k, by rw [if_neg (by decide)], by rw [if_neg (by decide)], k.mono (fun _ _ h => h.elim)⟩
  · have h1' : hasN l s = false := by simpa using h1
    by_cases h2 : n = most
    · have hE : putE l n most s = 3 := by unfold putE; rw [if_neg h1, if_pos h2]
      rw [hE]
      refine (refPut_full d s ty Am nm cm fs hr h1' h2).mono ?_
      rintro e w' ⟨he, k⟩
      exact ⟨he, A, n, c, l, d.keep k, by rw [if_neg (by decide)], by rw [if_neg (by decide)], k.mono (fun _ _ h => h.elim)⟩
    · have hE : putE l n most s = 0 := by unfold putE; rw [if_neg h1, if_neg h2]
      rw [hE]
      refine (refPut_ok d s ty Am nm cm fs hr h1' h2 hn).mono ?_
      rintro e w' ⟨he, a, A', c', h1, h2, h3, h4, h5, h6, h7⟩
      refine ⟨he, A', n + 1, c', l ++ [a], h5, ?_, by rw [if_pos rfl], h7⟩
      rw [if_pos rfl, List.map_append]
      show _ ++ [info a] = _
      unfold info
      rw [h1, h2, h3]
theorem again_u (d : QS w g most A n c way l) :
    Calls Try.prog 14 #[.pointer (some ⟨g, 0, none⟩)] w fun e w' => ∃ A' n' c', e = .returned (outV (told way (l.map info)) A' n' c') ∧ Own fld w' w.heap.size 51 (.slice A' n' c') (told way (l.map info)).1.2.2 ∧ n' * 24 ≤ 140737488355328 ∧ Keeps (fun _ => False) w w' := by
  cases way with
  | false =>
    refine (again_no d).mono ?_
    rintro e w' ⟨he, k⟩
    exact ⟨none, 0, 0, he, Own.nil _ _ _ _, by decide, k⟩
  | true =>
    cases l with
    | nil => exact absurd (d.way1 rfl) (by rw [← d.len]; simp)
    | cons a l' =>
      refine (again_yes d rfl).mono ?_
      rintro e w' ⟨A', c', he, o, _, k⟩
      exact ⟨A', a.n, c', he, o, (d.ok a (by simp)).2, k⟩
theorem refAgain_u (d : QR w g most A n c way l) :
    Calls Try.prog 22 #[.pointer (some ⟨g, 0, none⟩)] w fun e w' => ∃ A' n' c', e = .returned (outV (told way (l.map info)) A' n' c') ∧ Own fld w' 0 51 (.slice A' n' c') (told way (l.map info)).1.2.2 ∧ Keeps (fun _ => False) w w' := by
  cases way with
  | false =>
    refine (refAgain_no d).mono ?_
    rintro e w' ⟨he, k⟩
    exact ⟨none, 0, 0, he, Own.nil _ _ _ _, k⟩
  | true =>
    cases l with
    | nil => exact absurd (d.way1 rfl) (by rw [← d.row.len_eq rfl]; simp)
    | cons a l' =>
      refine (refAgain_yes d rfl).mono ?_
      rintro e w' ⟨he, k⟩
      exact ⟨a.A, a.n, a.c, he, (d.ok a (by simp)).1.keeps k (fun _ _ h => h), k⟩
theorem send_u (d : QS w g most A n c way l) :
    Calls Try.prog 11 #[.pointer (some ⟨g, 0, none⟩)] w fun e w' => ∃ A' n' c', e = .returned (outV (told (!way) (l.map info)) A' n' c') ∧ Own fld w' w.heap.size 51 (.slice A' n' c') (told (!way) (l.map info)).1.2.2 ∧ n' * 24 ≤ 140737488355328 ∧ QS w' g most A n c (way || (told (!way) (l.map info)).2) l ∧ Keeps (fun b => b = g) w w' := by
  cases way with
  | true =>
    refine (send_no d (.inr rfl)).mono ?_
    rintro e w' ⟨he, q, k⟩
    exact ⟨none, 0, 0, he, Own.nil _ _ _ _, by decide, q, k⟩
  | false =>
    cases l with
    | nil =>
      refine (send_no d (.inl d.len.symm)).mono ?_
      rintro e w' ⟨he, q, k⟩
      exact ⟨none, 0, 0, he, Own.nil _ _ _ _, by decide, q, k⟩
    | cons a l' =>
      refine (send_yes d rfl).mono ?_
      rintro e w' ⟨A', c', he, o, _, q, k⟩
      exact ⟨A', a.n, c', he, o, (d.ok a (by simp)).2, q, k⟩
/-- Another word in the box. -/
theorem QR.way_ {way' : Bool} (d : QR w g most A n c way l) (hX : Blk w' g 67 #[.int .i64 most, .slice A n c, .bool way']) (K : Keeps (fun b => b = g) w w') (hw : way' = true → 0 < n) : QR w' g most A n c way' l :=
  ⟨hX, d.row.keep1 K d.box (by decide), fun a ha => ⟨(d.ok a ha).1.keep1 K d.box (by decide), (d.ok a ha).2⟩, d.one, d.few, d.room, hw⟩
theorem refSend_u (d : QR w g most A n c way l) :
    Calls Try.prog 23 #[.pointer (some ⟨g, 0, none⟩)] w fun e w' => ∃ A' n' c', e = .returned (outV (told (!way) (l.map info)) A' n' c') ∧ Own fld w' 0 51 (.slice A' n' c') (told (!way) (l.map info)).1.2.2 ∧ QR w' g most A n c (way || (told (!way) (l.map info)).2) l ∧ Keeps (fun b => b = g) w w' := by
  cases way with
  | true =>
    refine (refSend_no d (.inr rfl)).mono ?_
    rintro e w' ⟨he, k⟩
    exact ⟨none, 0, 0, he, Own.nil _ _ _ _, d.keep k, k.mono (fun _ _ h => h.elim)⟩
  | false =>
    cases l with
    | nil =>
      refine (refSend_no d (.inl (d.row.len_eq rfl).symm)).mono ?_
      rintro e w' ⟨he, k⟩
      exact ⟨none, 0, 0, he, Own.nil _ _ _ _, d.keep k, k.mono (fun _ _ h => h.elim)⟩
    | cons a l' =>
      refine (refSend_yes d rfl).mono ?_
      rintro e w' ⟨he, q, k⟩
      have hq := d.way_ q k (fun _ => by rw [← d.row.len_eq rfl]; simp)
      exact ⟨a.A, a.n, a.c, he, (hq.ok a (by simp)).1, hq, k⟩
theorem done_u (d : QS w g most A n c way l) (s : ByteArray) :
    Calls Try.prog 13 #[.pointer (some ⟨g, 0, none⟩), .string s] w fun e w' => e = .returned (.bool (doneB way (l.map info) s)) ∧ ∃ n' way' l', QS w' g most A n' c way' l' ∧ n' = (if doneB way (l.map info) s then n - 1 else n) ∧ way' = (way && !doneB way (l.map info) s) ∧ l'.map info = (if doneB way (l.map info) s then (l.map info).tail else l.map info) ∧ (∀ q, (Value.slice A n' c).ownBlock = some q → (Value.slice A n c).ownBlock = some q) ∧ Keeps (fun b => b = g ∨ (Value.slice A n c).ownBlock = some b) w w' := by
  cases way with
  | false =>
    refine (done_off d s).mono ?_
    rintro e w' ⟨he, rfl⟩
    exact ⟨he, n, false, l, d, rfl, rfl, rfl, fun _ h => h, Keeps.refl _ _⟩
  | true =>
    cases l with
    | nil => exact absurd (d.way1 rfl) (by rw [← d.len]; simp)
    | cons a l' =>
      by_cases hs : (a.name.toList == s.toList) = true
      · have hd : doneB true ((a :: l').map info) s = true := hs
        rw [hd]
        refine (done_yes d rfl s hs).mono ?_
        rintro e w' ⟨he, q, k⟩
        obtain ⟨b6, c6, hv6, _⟩ := d.row.form (by simp)
        injection hv6 with hA6 _ _
        refine ⟨he, n - 1, false, l', q, rfl, rfl, rfl, fun q hq => ?_, k⟩
        rw [hA6] at hq ⊢
        exact hq
      · have hs' : (a.name.toList == s.toList) = false := by simpa using hs
        have hd : doneB true ((a :: l').map info) s = false := hs'
        rw [hd]
        refine (done_not d rfl s hs').mono ?_
        rintro e w' ⟨he, rfl⟩
        exact ⟨he, n, true, a :: l', d, rfl, rfl, rfl, fun _ h => h, Keeps.refl _ _⟩
theorem refDone_u (d : QR w g most A n c way l) (s : ByteArray) :
    Calls Try.prog 25 #[.pointer (some ⟨g, 0, none⟩), .string s] w fun e w' => e = .returned (.bool (doneB way (l.map info) s)) ∧ ∃ A' n' c' way' l', QR w' g most A' n' c' way' l' ∧ n' = (if doneB way (l.map info) s then n - 1 else n) ∧ way' = (way && !doneB way (l.map info) s) ∧ l'.map info = (if doneB way (l.map info) s then (l.map info).tail else l.map info) ∧ Keeps (fun b => b = g) w w' := by
  cases way with
  | false =>
    refine (refDone_off d s).mono ?_
    rintro e w' ⟨he, rfl⟩
    exact ⟨he, A, n, c, false, l, d, rfl, rfl, rfl, Keeps.refl _ _⟩
  | true =>
    cases l with
    | nil => exact absurd (d.way1 rfl) (by rw [← d.row.len_eq rfl]; simp)
    | cons a l' =>
      by_cases hs : (a.name.toList == s.toList) = true
      · have hd : doneB true ((a :: l').map info) s = true := hs
        rw [hd]
        refine (refDone_yes d rfl s hs).mono ?_
        rintro e w' ⟨A', c', he, q, _, k⟩
        exact ⟨he, A', n - 1, c', false, l', q, rfl, rfl, rfl, k⟩
      · have hs' : (a.name.toList == s.toList) = false := by simpa using hs
        have hd : doneB true ((a :: l').map info) s = false := hs'
        rw [hd]
        refine (refDone_not d rfl s hs').mono ?_
        rintro e w' ⟨he, rfl⟩
        exact ⟨he, A, n, c, true, a :: l', d, rfl, rfl, rfl, Keeps.refl _ _⟩
theorem refStop_u (d : QR w g most A n c way l) : Calls Try.prog 26 #[.pointer (some ⟨g, 0, none⟩)] w fun e w' => e = .returned (.tuple #[]) ∧ QR w' g most A n c false l ∧ Keeps (fun b => b = g) w w' := by
  refine (refStop_any d).mono ?_
  rintro e w' ⟨he, q, k⟩
  exact ⟨he, d.way_ q k (fun h => by cases h), k⟩
end
end Go.Proofs.Ytfidhnplaieacaa
