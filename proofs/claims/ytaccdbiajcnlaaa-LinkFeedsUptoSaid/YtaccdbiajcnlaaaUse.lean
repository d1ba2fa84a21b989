/- A Feed, as the laws use it; how what is fed in pieces goes together. -/
import Derived.Test.YtaccdbiajcnlaaaShown
namespace Go.Proofs.Ytaccdbiajcnlaaa
open Go.RowKit Mem
theorem nth_append {a b : List Nat} {i : Nat} (h : i < a.length) : nth (a ++ b) i = nth a i := by
  unfold nth
  rw [List.getD_eq_getElem?_getD, List.getD_eq_getElem?_getD, List.getElem?_append_left h]
theorem num2_append {a b : List Nat} (h : 2 ≤ a.length) : num2 (a ++ b) = num2 a := by
  unfold num2
  rw [nth_append (by omega), nth_append (by omega)]
/-- Bytes may be fed in two pieces, as long as no length is wrong. -/
theorem parse_append (a b : List Nat) : (parse a).2.1 = 0 → parse (a ++ b) = ((parse a).1 ++ (parse ((parse a).2.2 ++ b)).1, (parse ((parse a).2.2 ++ b)).2.1, (parse ((parse a).2.2 ++ b)).2.2) := by
  induction hn : a.length using Nat.strongRecOn generalizing a with
  | _ n ih =>
    intro he
    by_cases h1 : a.length < 2
    · rw [parse_short h1]; simp
    · by_cases h2 : num2 a = 0 ∨ 512 < num2 a
      · rw [parse_bad h1 h2] at he; cases he
      · by_cases h3 : a.length < 2 + num2 a
        · rw [parse_part h1 h2 h3]; simp
        · have e1 := num2_append (a := a) (b := b) (by omega)
          rw [parse_more h1 h2 h3] at he ⊢
          rw [parse_more (l := a ++ b) (by rw [List.length_append]; omega) (by rw [e1]; exact h2) (by rw [e1, List.length_append]; omega), e1]
          have hd : (a ++ b).drop (2 + num2 a) = a.drop (2 + num2 a) ++ b := by rw [List.drop_append_of_le_length (by omega)]
          have ht : ((a ++ b).drop 2).take (num2 a) = (a.drop 2).take (num2 a) := by
            rw [List.drop_append_of_le_length (by omega), List.take_append_of_le_length (by rw [List.length_drop]; omega)]
          have := ih (a.drop (2 + num2 a)).length (by rw [List.length_drop]; omega) (a.drop (2 + num2 a)) rfl he
          rw [hd, ht, this]
          rfl
theorem parse_err (l : List Nat) : (parse l).2.1 = 0 ∨ ((parse l).2.1 = 60 ∧ (parse l).2.2 = []) := by
  induction hn : l.length using Nat.strongRecOn generalizing l with
  | _ n ih =>
    by_cases h1 : l.length < 2
    · rw [parse_short h1]; simp
    · by_cases h2 : num2 l = 0 ∨ 512 < num2 l
      · rw [parse_bad h1 h2]; simp
      · by_cases h3 : l.length < 2 + num2 l
        · rw [parse_part h1 h2 h3]; simp
        · rw [parse_more h1 h2 h3]
          exact ih _ (by rw [List.length_drop]; omega) _ rfl
/-- So much is told and held, at most. -/
theorem parse_count (l : List Nat) : 3 * (parse l).1.length + (parse l).2.2.length ≤ l.length ∧ (parse l).2.2.length ≤ 513 ∧ ∀ f ∈ (parse l).1, 0 < f.length ∧ f.length ≤ 512 := by
  induction hn : l.length using Nat.strongRecOn generalizing l with
  | _ n ih =>
    by_cases h1 : l.length < 2
    · rw [parse_short h1]; simp; omega
    · by_cases h2 : num2 l = 0 ∨ 512 < num2 l
      · rw [parse_bad h1 h2]; simp
      · by_cases h3 : l.length < 2 + num2 l
        · rw [parse_part h1 h2 h3]; simp; omega
        · rw [parse_more h1 h2 h3]
          have := ih _ (by rw [List.length_drop]; omega) (l.drop (2 + num2 l)) rfl
          rw [List.length_drop] at this
          refine ⟨by simp; omega, this.2.1, ?_⟩
          intro f hf
          rcases List.mem_cons.1 hf with rfl | hf
          · rw [List.length_take, List.length_drop]; omega
          · exact this.2.2 f hf
/-- A row of lines, and the blocks in which it lies. -/
structure LinesIn (F : Nat → Prop) (w : World) (A : Option Addr) (n : Nat) (hs : List Sl) (fs : List (List Nat)) : Prop where
  lines : Lines w A n hs fs
  headIn : ∀ ad, A = some ad → 0 < n → F ad.block
  eachIn : ∀ h, h ∈ hs → ∀ ad, h.A = some ad → 0 < h.n → F ad.block
theorem LinesIn.keeps {F S : Nat → Prop} {w w' : World} {A : Option Addr} {n : Nat} {hs : List Sl} {fs : List (List Nat)} (l : LinesIn F w A n hs fs) (k : Keeps S w w') (h : ∀ b, F b → ¬ S b) : LinesIn F w' A n hs fs :=
  ⟨⟨l.lines.heads.keeps k (fun ad e hn => h _ (l.headIn ad e hn)), l.lines.len, fun i a f ha hf => (l.lines.each i a f ha hf).keeps k (fun ad e hn => h _ (l.eachIn a (List.mem_of_getElem? ha) ad e hn)), l.lines.small⟩, l.headIn, l.eachIn⟩
theorem LinesIn.mono {F G : Nat → Prop} {w : World} {A : Option Addr} {n : Nat} {hs : List Sl} {fs : List (List Nat)} (l : LinesIn F w A n hs fs) (h : ∀ b, F b → G b) : LinesIn G w A n hs fs :=
  ⟨l.lines, fun ad e hn => h _ (l.headIn ad e hn), fun a ha ad e hn => h _ (l.eachIn a ha ad e hn)⟩
namespace Mem
theorem Own.slice_block {α : Type} {E : Enc α} {w : World} {base : Nat} {e : TypeId} {l : List α} {A : Option Addr} {n c : Nat} (h : Own E w base e (.slice A n c) l) {ad : Addr} (hA : A = some ad) : (Value.slice A n c).ownBlock = some ad.block ∧ base ≤ ad.block ∧ ad.block < w.heap.size := by
  subst hA
  rcases h.2 with ⟨h', _⟩ | ⟨g, cap, cur, h', hb, hh, _⟩
  · cases h'
  · injection h' with h1 h2 h3
    injection h1 with h1
    subst h1
    exact ⟨rfl, hb, (Array.getElem?_eq_some_iff.1 hh).1⟩
end Mem
/-- A Feed, as the laws use it. -/
theorem feed_use (g : Nat) (A' : Option Addr) (n' c' : Nat) (H Y : List Nat) (base : Nat) (A : Option Addr) (n c : Nat) (w : World) (hg : Blk w g 47 #[.slice A' n' c']) (hv : Own byte w base 5 (.slice A' n' c') H) (hy : Reads byte w A n Y) (hH : ∀ x ∈ H, x < 256) (hY : ∀ x ∈ Y, x < 256)
    (hb : base ≤ w.heap.size) (hl : H.length + n ≤ 5000000) :
    Calls Try.prog 13 #[.pointer (some ⟨g, 0, none⟩), .slice A n c] w fun e w' => ∃ Ao no co hs A2 n2 c2, ∃ F : Nat → Prop, e = .returned (.tuple #[.slice Ao no co, .int .i64 (parse (H ++ Y)).2.1]) ∧ no = (parse (H ++ Y)).1.length ∧ n2 = (parse (H ++ Y)).2.2.length ∧
      LinesIn F w' Ao no hs (parse (H ++ Y)).1 ∧ Blk w' g 47 #[.slice A2 n2 c2] ∧ Own byte w' w.heap.size 5 (.slice A2 n2 c2) (parse (H ++ Y)).2.2 ∧
      (∀ k, F k → k ≠ g ∧ (Value.slice A2 n2 c2).ownBlock ≠ some k ∧ k < w'.heap.size ∧ (w.heap.size ≤ k ∨ (Value.slice A' n' c').ownBlock = some k)) ∧ Keeps (fun k => k = g ∨ (Value.slice A' n' c').ownBlock = some k) w w' := by
  refine (feed_any g _ H Y base A n c w hg hv hy hH hY hb hl).mono ?_
  rintro e w2 ⟨vo, rfl, hs, v1, A1, c1, o1, o2, o3, o4, o5, o6, o7, o8⟩
  have hsm := parse_small (l := H ++ Y) (by
    intro x hx
    rcases List.mem_append.1 hx with h | h
    · exact hH x h
    · exact hY x h)
  obtain ⟨Ao, co, ho, hro⟩ := Own.val o1 (n := (parse (H ++ Y)).1.length) o3.1
  obtain ⟨A2, c2, hv1, hr1⟩ := Own.val o5 rfl
  subst ho hv1
  refine ⟨Ao, _, co, hs, A2, _, c2, fun k => (Value.slice Ao (parse (H ++ Y)).1.length co).ownBlock = some k ∨ (Value.slice A1 (H ++ Y).length c1).ownBlock = some k, rfl, rfl, rfl, ⟨⟨hro, o3.1, fun i h f hi hf => Fed.reads o3 o2 hi hf, hsm.1⟩, ?_, ?_⟩, o4, o5, ?_, o8⟩
  · intro ad e hn
    exact .inl (o1.slice_block e).1
  · intro h hh ad e hn
    obtain ⟨i, hi⟩ := List.getElem?_of_mem hh
    have hil := (List.getElem?_eq_some_iff.1 hi).1
    have hl2 : i < (parse (H ++ Y)).1.length := by have := o3.1; omega
    obtain ⟨o, hA, _⟩ := o3.2 i h _ hi (List.getElem?_eq_getElem hl2)
    rw [e] at hA
    cases A1 with
    | none => simp at hA
    | some a1 =>
      simp at hA
      right
      rw [(o2.slice_block rfl).1, hA, block_add]
  · intro k hk
    rcases hk with hk | hk
    · refine ⟨?_, ?_, o1.lt hk, .inl (o1.base_le hk)⟩
      · rintro rfl
        exact o1.blk_ne o4 (by decide) hk
      · exact o1.own_ne o5 (by decide) k hk
    · refine ⟨?_, ?_, o2.lt hk, ?_⟩
      · rintro rfl
        exact o2.blk_ne o4 (by decide) hk
      · intro h
        exact o6 k h hk
      · rcases o7 with h7 | h7
        · right; rw [← h7]; exact hk
        · left; rw [h7] at hk; injection hk with hk; omega
end Go.Proofs.Ytaccdbiajcnlaaa
