/- Two queues, each beside the document's, and what a call on one leaves of the other. -/
import Derived.Test.YtfidhnplaieacaaR8
namespace Go.Proofs.Ytfidhnplaieacaa
open Go.RowKit Mem
/-- A queue and the document's: they say the same. -/
structure PP (w : World) (gx gy most : Nat) (A : Option Addr) (n c : Nat) (way : Bool) (l : List AD) (A' : Option Addr) (c' : Nat) (m : List AD) : Prop where
  x : QS w gx most A n c way l
  y : QR w gy most A' n c' way m
  same : l.map info = m.map info
section
variable {w w' : World} {gx gy gz gw most : Nat} {A : Option Addr} {n c : Nat} {way : Bool} {l : List AD} {A' : Option Addr} {c' : Nat} {m : List AD}
  {Az : Option Addr} {nz cz : Nat} {wayz : Bool} {lz : List AD} {Aw : Option Addr} {cw : Nat} {mw : List AD}
theorem QR.keepg {g : Nat} (h : QR w g most A n c way l) {S : Nat → Prop} (K : Keeps S w w') (hS : ∀ k, S k → k ≠ g ∧ (Value.slice A n c).ownBlock ≠ some k ∧ ∀ a ∈ l, (Value.slice a.A a.n a.c).ownBlock ≠ some k) : QR w' g most A n c way l :=
  ⟨h.box.keeps K (fun e => (hS g e).1 rfl), h.row.keeps K (fun q hq e => (hS q e).2.1 hq), fun a ha => (h.ok a ha).keeps K (fun q hq e => (hS q e).2.2 a ha hq), h.one, h.few, h.room, h.way1⟩
theorem QS.keepq {g : Nat} (h : QS w g most A n c way l) {S : Nat → Prop} (K : Keeps S w w') (hS : ∀ k, S k → k ≠ g ∧ (Value.slice A n c).ownBlock ≠ some k ∧ ∀ a ∈ l, (Value.slice a.A a.n a.c).ownBlock ≠ some k) : QS w' g most A n c way l :=
  ⟨h.box.keeps K (fun e => (hS g e).1 rfl), h.row.keeps K (fun q hq e => (hS q e).2.1 hq), fun a ha => (h.ok a ha).keeps K (fun q hq e => (hS q e).2.2 a ha hq), h.one, h.few, h.room, h.way1⟩
theorem PP.keep (h : PP w gx gy most A n c way l A' c' m) (K : Keeps (fun _ => False) w w') : PP w' gx gy most A n c way l A' c' m := ⟨h.x.keep K, h.y.keep K, h.same⟩
theorem PP.names (h : PP w gx gy most A n c way l A' c' m) : l.map AD.name = m.map AD.name := by rw [names_info, names_info, h.same]
/-- Where a queue writes. -/
def foot (gx : Nat) (A : Option Addr) (n c : Nat) (b : Nat) : Prop := b = gx ∨ (Value.slice A n c).ownBlock = some b
/-- The document's stays where a queue writes. -/
theorem PP.yfoot (h : PP w gx gy most A n c way l A' c' m) (K : Keeps (foot gx A n c) w w') : QR w' gy most A' n c' way m :=
  h.y.keepg K (fun k hk => by
    rcases hk with rfl | hk
    · exact ⟨fun e => (h.x.box.ne_ h.y.box (by decide)) e, fun e => h.y.row.blk_ne h.x.box (by decide) e, fun a ha e => (h.y.ok a ha).1.blk_ne h.x.box (by decide) e⟩
    · exact ⟨fun e => h.x.row.blk_ne h.y.box (by decide) (by rw [← e]; exact hk), fun e => h.x.row.own_ne h.y.row (by decide) k hk e, fun a ha e => h.x.row.own_ne (h.y.ok a ha).1 (by decide) k hk e⟩)
/-- A queue stays where the document's writes. -/
theorem PP.xbox (h : PP w gx gy most A n c way l A' c' m) (q : QS w gx most A n c way l) (K : Keeps (fun b => b = gy) w w') : QS w' gx most A n c way l :=
  q.keepq K (fun k hk => by
    subst hk
    exact ⟨fun e => (q.box.ne_ h.y.box (by decide)) e.symm, fun e => q.row.blk_ne h.y.box (by decide) e, fun a ha e => (q.ok a ha).1.blk_ne h.y.box (by decide) e⟩)
/-- The other pair stays. -/
theorem PP.far (p : PP w gx gy most A n c way l A' c' m) (h : PP w gz gw most Az nz cz wayz lz Aw cw mw) (h1 : gx ≠ gz) (h2 : gy ≠ gw) (h3 : ∀ q, (Value.slice A n c).ownBlock = some q → (Value.slice Az nz cz).ownBlock ≠ some q) (K : Keeps (fun b => foot gx A n c b ∨ b = gy) w w') : PP w' gz gw most Az nz cz wayz lz Aw cw mw := by
  refine ⟨h.x.keepq K (fun k hk => ?_), h.y.keepg K (fun k hk => ?_), h.same⟩
  · rcases hk with (rfl | hk) | rfl
    · exact ⟨h1, fun e => h.x.row.blk_ne p.x.box (by decide) e, fun a ha e => (h.x.ok a ha).1.blk_ne p.x.box (by decide) e⟩
    · exact ⟨fun e => p.x.row.blk_ne h.x.box (by decide) (by rw [← e]; exact hk), h3 k hk, fun a ha e => p.x.row.own_ne (h.x.ok a ha).1 (by decide) k hk e⟩
    · exact ⟨fun e => (p.y.box.ne_ h.x.box (by decide)) e, fun e => h.x.row.blk_ne p.y.box (by decide) e, fun a ha e => (h.x.ok a ha).1.blk_ne p.y.box (by decide) e⟩
  · rcases hk with (rfl | hk) | rfl
    · exact ⟨fun e => (p.x.box.ne_ h.y.box (by decide)) e, fun e => h.y.row.blk_ne p.x.box (by decide) e, fun a ha e => (h.y.ok a ha).1.blk_ne p.x.box (by decide) e⟩
    · exact ⟨fun e => p.x.row.blk_ne h.y.box (by decide) (by rw [← e]; exact hk), fun e => p.x.row.own_ne h.y.row (by decide) k hk e, fun a ha e => p.x.row.own_ne (h.y.ok a ha).1 (by decide) k hk e⟩
    · exact ⟨h2, fun e => h.y.row.blk_ne p.y.box (by decide) e, fun a ha e => (h.y.ok a ha).1.blk_ne p.y.box (by decide) e⟩
end
/-- Two pairs that lie apart; the first one's boxes and row lie from B on. -/
def Inv (B most : Nat) (w : World) (gx gy gz gw : Nat) : Prop := ∃ (A : Option Addr) (n c : Nat) (way : Bool) (l : List AD) (A' : Option Addr) (c' : Nat) (m : List AD) (Az : Option Addr) (nz cz : Nat) (wayz : Bool) (lz : List AD) (Aw : Option Addr) (cw : Nat) (mw : List AD),
  PP w gx gy most A n c way l A' c' m ∧ PP w gz gw most Az nz cz wayz lz Aw cw mw ∧ gx ≠ gz ∧ gy ≠ gw ∧ (∀ q, (Value.slice A n c).ownBlock = some q → (Value.slice Az nz cz).ownBlock ≠ some q) ∧ B ≤ gx ∧ B ≤ gy ∧ (∀ q, (Value.slice A n c).ownBlock = some q → B ≤ q)
section
variable {B : Nat} {w w' : World} {gx gy gz gw most : Nat} {A : Option Addr} {n c : Nat} {way : Bool} {l : List AD} {A' : Option Addr} {c' : Nat} {m : List AD}
  {Az : Option Addr} {nz cz : Nat} {wayz : Bool} {lz : List AD} {Aw : Option Addr} {cw : Nat} {mw : List AD}
theorem Inv.keep (h : Inv B most w gx gy gz gw) (K : Keeps (fun _ => False) w w') : Inv B most w' gx gy gz gw := by
  obtain ⟨A, n, c, way, l, A', c', m, Az, nz, cz, wayz, lz, Aw, cw, mw, p, z, r⟩ := h
  exact ⟨A, n, c, way, l, A', c', m, Az, nz, cz, wayz, lz, Aw, cw, mw, p.keep K, z.keep K, r⟩
/-- A call on the first pair. -/
theorem Inv.step (p : PP w gx gy most A n c way l A' c' m) (z : PP w gz gw most Az nz cz wayz lz Aw cw mw) (h1 : gx ≠ gz) (h2 : gy ≠ gw) (h3 : ∀ q, (Value.slice A n c).ownBlock = some q → (Value.slice Az nz cz).ownBlock ≠ some q) (b1 : B ≤ gx) (b2 : B ≤ gy) (b3 : ∀ q, (Value.slice A n c).ownBlock = some q → B ≤ q) (hB : B ≤ w.heap.size)
    (K : Keeps (fun b => foot gx A n c b ∨ b = gy) w w') {A2 : Option Addr} {n2 c2 : Nat} {way2 : Bool} {l2 : List AD} {A2' : Option Addr} {c2' : Nat} {m2 : List AD} (p' : PP w' gx gy most A2 n2 c2 way2 l2 A2' c2' m2) (hr : ∀ q, (Value.slice A2 n2 c2).ownBlock = some q → (Value.slice A n c).ownBlock = some q ∨ w.heap.size ≤ q) : Inv B most w' gx gy gz gw := by
  refine ⟨A2, n2, c2, way2, l2, A2', c2', m2, Az, nz, cz, wayz, lz, Aw, cw, mw, p', p.far z h1 h2 h3 K, h1, h2, fun q hq => ?_, b1, b2, fun q hq => ?_⟩
  · rcases hr q hq with h | h
    · exact h3 q h
    · intro e
      have := z.x.row.lt e
      omega
  · rcases hr q hq with h | h
    · exact b3 q h
    · omega
/-- A clone takes its place. -/
theorem Inv.clone (p : PP w gx gy most A n c way l A' c' m) (hB : B ≤ w.heap.size) (K : Keeps (fun _ => False) w w') {gx' gy' : Nat} {A2 : Option Addr} {c2 : Nat} (qx : QS w' gx' most A2 n c2 way l) (qy : QR w' gy' most A' n c' way m) (hx : w.heap.size ≤ gx') (hy : w.heap.size ≤ gy') (hr : ∀ q, (Value.slice A2 n c2).ownBlock = some q → w.heap.size ≤ q) : Inv B most w' gx' gy' gx gy := by
  have l1 := p.x.box.lt
  have l2 := p.y.box.lt
  refine ⟨A2, n, c2, way, l, A', c', m, A, n, c, way, l, A', c', m, ⟨qx, qy, p.same⟩, p.keep K, by omega, by omega, fun q hq e => ?_, by omega, by omega, fun q hq => Nat.le_trans hB (hr q hq)⟩
  have h1 := hr q hq
  have h2 := p.x.row.lt e
  omega
/-- What came out, or was handed in, is spoilt: a row that no advice is of. -/
theorem QS.spoil {g : Nat} {As : Option Addr} {ns cs : Nat} {fs : List FD} {base : Nat} (h : QS w g most A n c way l) (o : Own fld w base 51 (.slice As ns cs) fs) (hl : ∀ a ∈ l, ∀ q, (Value.slice a.A a.n a.c).ownBlock = some q → (Value.slice As ns cs).ownBlock ≠ some q) (K : Keeps (fun b => (Value.slice As ns cs).ownBlock = some b) w w') : QS w' g most A n c way l :=
  h.keepq K (fun k hk => ⟨fun e => o.blk_ne h.box (by decide) (by rw [← e]; exact hk), fun e => h.row.own_ne o (by decide) k e hk, fun a ha e => hl a ha k e hk⟩)
theorem QR.spoil {g : Nat} {As : Option Addr} {ns cs : Nat} {fs : List FD} {base : Nat} (h : QR w g most A n c way l) (o : Own fld w base 51 (.slice As ns cs) fs) (hl : ∀ a ∈ l, ∀ q, (Value.slice a.A a.n a.c).ownBlock = some q → (Value.slice As ns cs).ownBlock ≠ some q) (K : Keeps (fun b => (Value.slice As ns cs).ownBlock = some b) w w') : QR w' g most A n c way l :=
  h.keepg K (fun k hk => ⟨fun e => o.blk_ne h.box (by decide) (by rw [← e]; exact hk), fun e => h.row.own_ne o (by decide) k e hk, fun a ha e => hl a ha k e hk⟩)
end
/-! The calls, as the law's text meets them. -/
section
variable {w w' : World} {g most : Nat} {A : Option Addr} {n c : Nat} {way : Bool} {l : List AD} {s0 : ByteArray} {t0 : Int} {f0 : List FD} {i0 : Bool}
theorem again_at (d : QS w g most A n c way l) (h : told way (l.map info) = ((s0, t0, f0), i0)) :
    Calls Try.prog 14 #[.pointer (some ⟨g, 0, none⟩)] w fun e w' => ∃ A' c', e = .returned (.tuple #[.string s0, .agg #[.int .i64 t0, .slice A' f0.length c'], .bool i0]) ∧ Own fld w' w.heap.size 51 (.slice A' f0.length c') f0 ∧ f0.length * 24 ≤ 140737488355328 ∧ Keeps (fun _ => False) w w' := by
  refine (again_u d).mono ?_
  rw [h]
  rintro e w' ⟨A', n', c', he, o, hn, k⟩
  obtain rfl : f0.length = n' := o.len_eq rfl
  exact ⟨A', c', he, o, hn, k⟩
theorem refAgain_at (d : QR w g most A n c way l) (h : told way (l.map info) = ((s0, t0, f0), i0)) :
    Calls Try.prog 22 #[.pointer (some ⟨g, 0, none⟩)] w fun e w' => ∃ A' c', e = .returned (.tuple #[.string s0, .agg #[.int .i64 t0, .slice A' f0.length c'], .bool i0]) ∧ Own fld w' 0 51 (.slice A' f0.length c') f0 ∧ Keeps (fun _ => False) w w' := by
  refine (refAgain_u d).mono ?_
  rw [h]
  rintro e w' ⟨A', n', c', he, o, k⟩
  obtain rfl : f0.length = n' := o.len_eq rfl
  exact ⟨A', c', he, o, k⟩
theorem send_at (d : QS w g most A n c way l) (h : told (!way) (l.map info) = ((s0, t0, f0), i0)) :
    Calls Try.prog 11 #[.pointer (some ⟨g, 0, none⟩)] w fun e w' => ∃ A' c', e = .returned (.tuple #[.string s0, .agg #[.int .i64 t0, .slice A' f0.length c'], .bool i0]) ∧ Own fld w' w.heap.size 51 (.slice A' f0.length c') f0 ∧ f0.length * 24 ≤ 140737488355328 ∧ QS w' g most A n c (way || i0) l ∧ Keeps (foot g A n c) w w' := by
  refine (send_u d).mono ?_
  rw [h]
  rintro e w' ⟨A', n', c', he, o, hn, q, k⟩
  obtain rfl : f0.length = n' := o.len_eq rfl
  exact ⟨A', c', he, o, hn, q, k.mono (fun _ _ h => .inl h)⟩
theorem refSend_at (d : QR w g most A n c way l) (h : told (!way) (l.map info) = ((s0, t0, f0), i0)) :
    Calls Try.prog 23 #[.pointer (some ⟨g, 0, none⟩)] w fun e w' => ∃ A' c', e = .returned (.tuple #[.string s0, .agg #[.int .i64 t0, .slice A' f0.length c'], .bool i0]) ∧ Own fld w' 0 51 (.slice A' f0.length c') f0 ∧ QR w' g most A n c (way || i0) l ∧ Keeps (fun b => b = g) w w' := by
  refine (refSend_u d).mono ?_
  rw [h]
  rintro e w' ⟨A', n', c', he, o, q, k⟩
  obtain rfl : f0.length = n' := o.len_eq rfl
  exact ⟨A', c', he, o, q, k⟩
/-- Blocks of other types stay where a queue writes. -/
theorem Mem.Blk.foot (d : QS w g most A n c way l) (K : Keeps (foot g A n c) w w') {x : Nat} {cs : Array Value} {t : TypeId} (hx : Blk w x t cs) (h1 : t ≠ 56) (h2 : t ≠ 59) : Blk w' x t cs :=
  hx.keeps K (fun e => by
    rcases e with rfl | e
    · exact (hx.ne_ d.box h1) rfl
    · exact d.row.blk_ne hx (fun h => h2 h.symm) e)
theorem Mem.Own.foot (d : QS w g most A n c way l) (K : Keeps (foot g A n c) w w') {α : Type} {E : Enc α} {base : Nat} {t : TypeId} {v : Value} {l2 : List α} (hx : Own E w base t v l2) (h1 : t ≠ 56) (h2 : t ≠ 59) : Own E w' base t v l2 :=
  hx.keeps K (fun q hq e => by
    rcases e with rfl | e
    · exact hx.blk_ne d.box h1 hq
    · exact d.row.own_ne hx (fun h => h2 h.symm) q e hq)
end
end Go.Proofs.Ytfidhnplaieacaa
