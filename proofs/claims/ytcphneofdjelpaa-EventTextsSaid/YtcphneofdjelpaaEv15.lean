/- What the law of the finds holds while it goes over the notes. -/
import Derived.Test.YtcphneofdjelpaaEv14
import Derived.Test.YtcphneofdjelpaaEv6
import Derived.Test.YtcphneofdjelpaaEv13
namespace Go.Proofs.Ytcphneofdjelpaa.W
open Go.RowKit Go.Proofs.Ytcphneofdjelpaa.Pl

/-- the state of the law's loop: the notes found (va), the last one (block L), the calls done (u9), the copies (u5) -/
structure EF (w : World) (L B0 : Nat) (u5 u9 : Go.Value) (xs ds ys : List NV) (va : Go.Value) (y : NV) (W : World) : Prop where
  of : W.ownsRow B0 36 22 va ys.length (flat ys)
  last : W.rangeAt L 0 y.cells
  thr : W.there L 0 22
  calls : W.ownsRow (L + 1) 33 16 u9 ds.length (flatC ds)
  callsLt : ∀ g, u9.ownBlock = some g → g < B0
  mine : W.ownsRow w.heap.size 40 22 u5 xs.length (flat xs)
  mineLt : ∀ g, u5.ownBlock = some g → g < L
  below : Below w.heap.size w W
  ltL : w.heap.size ≤ L
  ltB : L < B0
  size : B0 ≤ W.heap.size
section
variable {w : World} {L B0 : Nat} {u5 u9 : Go.Value} {xs ds ys : List NV} {va : Go.Value} {y : NV} {W W' : World}
theorem EF.keep (h : EF w L B0 u5 u9 xs ds ys va y W) (hb : Below W.heap.size W W') : EF w L B0 u5 u9 xs ds ys va y W' :=
  have hL : L < W.heap.size := Nat.lt_of_lt_of_le h.ltB h.size
  ⟨own_below5 h.of hb, fun j v hv => (hb.cell (p := ⟨L, 0 + j, none⟩) hL).trans (h.last j v hv), there_keep hb hL h.thr, own_below5 h.calls hb, h.callsLt, own_below5 h.mine hb, h.mineLt,
    h.below.trans (hb.mono (Nat.le_trans h.ltL (Nat.le_of_lt hL))), h.ltL, h.ltB, Nat.le_trans h.size hb.size⟩
theorem EF.alloc (h : EF w L B0 u5 u9 xs ds ys va y W) (o : Obj) : EF w L B0 u5 u9 xs ds ys va y (W.alloc o) := h.keep ((Below.refl _ _).alloc (Nat.le_refl _) o)
theorem EF.drew (h : EF w L B0 u5 u9 xs ds ys va y W) : EF w L B0 u5 u9 xs ds ys va y W.drew := h.keep ((Below.refl _ _).drew)
theorem EF.grown {va' : Go.Value} {ys' : List NV} (h : EF w L B0 u5 u9 xs ds ys va y W) (hg : W.grownBy W' va.ownBlock) (ho : W'.ownsRow B0 36 22 va' ys'.length (flat ys')) : EF w L B0 u5 u9 xs ds ys' va' y W' := by
  have hL : L < W.heap.size := Nat.lt_of_lt_of_le h.ltB h.size
  have hne : some L ≠ va.ownBlock := fun e => by have := (h.of.lt L e.symm).1; have := h.ltB; omega
  have hbl : W'.heap[L]? = W.heap[L]? := hg.block L hL hne
  have hne9 : u9.ownBlock = none ∨ u9.ownBlock ≠ va.ownBlock := by
    cases hu : u9.ownBlock with
    | none => exact .inl rfl
    | some g => exact .inr fun e => by have h1 := h.callsLt g hu; have h2 := (h.of.lt g e.symm).1; omega
  have hne5 : u5.ownBlock = none ∨ u5.ownBlock ≠ va.ownBlock := by
    cases hu : u5.ownBlock with
    | none => exact .inl rfl
    | some g => exact .inr fun e => by have h1 := h.mineLt g hu; have h2 := (h.of.lt g e.symm).1; have := h.ltB; omega
  exact ⟨ho, fun j v hv => (World.cell?_of_block (a := ⟨L, 0 + j, none⟩) hbl).trans (h.last j v hv), fun j hj => by
      rw [World.cell?_of_block (a := ⟨L, 0 + j, none⟩) hbl, World.frozen?_of_block (a := ⟨L, 0 + j, none⟩) hbl]; exact h.thr j hj,
    h.calls.kept hg hne9, h.callsLt, h.mine.kept hg hne5, h.mineLt,
    h.below.grown hg (Nat.le_trans h.ltL (Nat.le_of_lt hL)) (fun g e => by have := (h.of.lt g e).1; have := h.ltL; have := h.ltB; omega), h.ltL, h.ltB, Nat.le_trans h.size hg.size⟩
theorem EF.store (y' : NV) (h : EF w L B0 u5 u9 xs ds ys va y W) : EF w L B0 u5 u9 xs ds ys va y' (W.setCells L 0 y'.cells) := by
  have hg := grown_setCells W L 0 y'.cells
  have hL : L < W.heap.size := Nat.lt_of_lt_of_le h.ltB h.size
  refine ⟨h.of.kept hg (.inr fun e => ?_), World.rangeAt_setCells_same _ _ _ _ h.thr, World.there_setCells h.thr _ _ _, h.calls.kept hg (.inr fun e => ?_), h.callsLt, h.mine.kept hg (.inr fun e => ?_), h.mineLt,
    below_setCells _ _ _ h.below h.ltL, h.ltL, h.ltB, Nat.le_trans h.size hg.size⟩
  · have := (h.of.lt L e).1; have := h.ltB; omega
  · have := (h.calls.lt L e).1; omega
  · have := h.mineLt L e; omega
end
/-- the calls' row: its form -/
theorem calls_form {W : World} {base : Nat} {u : Go.Value} {ds : List NV} (h : W.ownsRow base 33 16 u ds.length (flatC ds)) :
    ∃ A cap, u = .slice A ds.length cap ∧ ds.length ≤ cap ∧ (0 < ds.length → ∃ b, A = some ⟨b, 0, none⟩ ∧ b < W.heap.size ∧ ∀ k x, ds[k]? = some x → W.rangeAt b (k * 16) x.call) := by
  rcases h.2 with ⟨rfl, h0⟩ | ⟨g, cap, cur, rfl, hb, hg, hc⟩
  · exact ⟨none, 0, by rw [h0], by omega, fun h => absurd h (by omega)⟩
  · refine ⟨some ⟨g, 0, none⟩, cap, rfl, hc.1, fun h0 => ⟨g, rfl, ?_, fun i x hx j u hu => ?_⟩⟩
    · rcases Nat.lt_or_ge g W.heap.size with hlt | hge
      · exact hlt
      · rw [Array.getElem?_eq_none hge] at hg; cases hg
    · have hj : j < 16 := by have := (List.getElem?_eq_some_iff.1 hu).1; rwa [NV.callLen] at this
      have hi : i < ds.length := (List.getElem?_eq_some_iff.1 hx).1
      rw [h.cellAt _ (by omega), flatC_get ds i x hx j hj, hu]
theorem filter_at {α : Type} {p : α → Bool} : ∀ {xs : List α} {i : Nat} {x : α}, xs[i]? = some x → p x = true → (xs.filter p)[((xs.take i).filter p).length]? = some x
  | [], i, x, h, _ => by simp at h
  | y :: r, 0, x, h, hp => by
    simp only [List.getElem?_cons_zero, Option.some.injEq] at h
    subst h
    simp [hp]
  | y :: r, i + 1, x, h, hp => by
    rw [List.getElem?_cons_succ] at h
    have ih := filter_at (p := p) h hp
    rw [List.take_succ_cons, List.filter_cons, List.filter_cons]
    by_cases hy : p y = true
    · rw [if_pos hy, if_pos hy, List.length_cons, List.getElem?_cons_succ]; exact ih
    · rw [if_neg hy, if_neg hy]; exact ih
theorem last_snoc (ys : List NV) (x : NV) : lastNV (ys ++ [x]) = x := by simp [lastNV]
theorem snoc_ne (ys : List NV) (x : NV) : (!(ys ++ [x]).isEmpty) = true := by cases ys <;> rfl
end Go.Proofs.Ytcphneofdjelpaa.W
