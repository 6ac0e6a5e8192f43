/- Plain laws on spans; no program in sight. -/
import Derived.Test.YtglihjdbbpohlaaPlS2
namespace Go.Proofs.Ytglihjdbbpohlaa.Pl

/-- the unit that a text begins with: its place, how long it is, how many bytes it has -/
def uD (r : List UInt8) : Option (Nat × Nat × Nat) :=
  if r.headD 0 = 104 then some (1, 3600000, 1) else if r.headD 0 = 109 then (if r.tail.headD 0 = 115 then some (4, 1, 2) else some (2, 60000, 1)) else if r.headD 0 = 115 then some (3, 1000, 1) else none
theorem uD_some {r : List UInt8} {p lg sz : Nat} (h : uD r = some (p, lg, sz)) :
    sz ≤ r.length ∧ ((p = 1 ∧ lg = 3600000 ∧ sz = 1 ∧ r.headD 0 = 104) ∨ (p = 4 ∧ lg = 1 ∧ sz = 2 ∧ r.headD 0 = 109 ∧ r.tail.headD 0 = 115) ∨ (p = 2 ∧ lg = 60000 ∧ sz = 1 ∧ r.headD 0 = 109 ∧ r.tail.headD 0 ≠ 115) ∨ (p = 3 ∧ lg = 1000 ∧ sz = 1 ∧ r.headD 0 = 115)) := by
  unfold uD at h
  have hne : ∀ c : UInt8, c ≠ 0 → r.headD 0 = c → 1 ≤ r.length := by
    intro c hc he
    cases r with
    | nil => exact absurd he.symm hc
    | cons a t => simp
  by_cases h1 : r.headD 0 = 104
  · rw [if_pos h1] at h; injection h with h; simp only [Prod.mk.injEq] at h
    exact ⟨by rw [← h.2.2]; exact hne _ (by decide) h1, .inl ⟨h.1.symm, h.2.1.symm, h.2.2.symm, h1⟩⟩
  rw [if_neg h1] at h
  by_cases h2 : r.headD 0 = 109
  · rw [if_pos h2] at h
    by_cases h3 : r.tail.headD 0 = 115
    · rw [if_pos h3] at h; injection h with h; simp only [Prod.mk.injEq] at h
      refine ⟨?_, .inr (.inl ⟨h.1.symm, h.2.1.symm, h.2.2.symm, h2, h3⟩)⟩
      rw [← h.2.2]
      match r, h3 with
      | [], h3 => exact absurd h3 (by decide)
      | [a], h3 => exact absurd h3 (by simp)
      | a :: b :: t, _ => simp
    · rw [if_neg h3] at h; injection h with h; simp only [Prod.mk.injEq] at h
      exact ⟨by rw [← h.2.2]; exact hne _ (by decide) h2, .inr (.inr (.inl ⟨h.1.symm, h.2.1.symm, h.2.2.symm, h2, h3⟩))⟩
  rw [if_neg h2] at h
  by_cases h4 : r.headD 0 = 115
  · rw [if_pos h4] at h; injection h with h; simp only [Prod.mk.injEq] at h
    exact ⟨by rw [← h.2.2]; exact hne _ (by decide) h4, .inr (.inr (.inr ⟨h.1.symm, h.2.1.symm, h.2.2.symm, h4⟩))⟩
  rw [if_neg h4] at h; exact absurd h (by simp)
theorem uD_none {r : List UInt8} (h : uD r = none) : r.headD 0 ≠ 104 ∧ r.headD 0 ≠ 109 ∧ r.headD 0 ≠ 115 := by
  unfold uD at h
  refine ⟨?_, ?_, ?_⟩
  · intro h1; rw [if_pos h1] at h; exact absurd h (by simp)
  · intro h2; rw [if_neg (by rw [h2]; decide), if_pos h2] at h; split at h <;> exact absurd h (by simp)
  · intro h4; rw [if_neg (by rw [h4]; decide), if_neg (by rw [h4]; decide), if_pos h4] at h; exact absurd h (by simp)

/-- groups, one behind the other: none: it is no such text; else the exact sum -/
def durF : Nat → List UInt8 → Nat → Nat → Option Nat
  | 0, _, _, _ => none
  | f + 1, l, last, T =>
    match uD (l.drop (lead l)) with
    | none => none
    | some (p, lg, sz) =>
      if wholeB (l.take (lead l)) = false ∨ p ≤ last then none
      else if val (l.take (lead l)) = 0 ∧ (0 < last ∨ l.drop (lead l + sz) ≠ []) then none
      else if l.drop (lead l + sz) = [] then some (T + val (l.take (lead l)) * lg)
      else durF f (l.drop (lead l + sz)) p (T + val (l.take (lead l)) * lg)
def durO (l : List UInt8) : Option Nat := durF 5 l 0 0
def durE (l : List UInt8) : Int := match durO l with | none => 3 | some T => if 1099511627776 < T then 9 else 0
def durV (l : List UInt8) : Int := match durO l with | none => 0 | some T => if 1099511627776 < T then 0 else T
theorem dur_none {l : List UInt8} (h : durO l = none) : durE l = 3 ∧ durV l = 0 := by unfold durE durV; rw [h]; exact ⟨rfl, rfl⟩
theorem dur_big {l : List UInt8} {T : Nat} (h : durO l = some T) (hT : 1099511627776 < T) : durE l = 9 ∧ durV l = 0 := by unfold durE durV; rw [h]; simp [hT]
theorem dur_ok {l : List UInt8} {T : Nat} (h : durO l = some T) (hT : T ≤ 1099511627776) : durE l = 0 ∧ durV l = T := by
  unfold durE durV; rw [h]
  have : ¬ 1099511627776 < T := by omega
  simp [this]
theorem durF_nounit {f : Nat} {l : List UInt8} {last T : Nat} (h : uD (l.drop (lead l)) = none) : durF f l last T = none := by
  cases f with
  | zero => rfl
  | succ f => simp only [durF]; rw [h]
theorem durF_nowhole {f : Nat} {l : List UInt8} {last T : Nat} (h : wholeB (l.take (lead l)) = false) : durF f l last T = none := by
  cases f with
  | zero => rfl
  | succ f =>
    simp only [durF]
    cases hu : uD (l.drop (lead l)) with
    | none => rfl
    | some x => obtain ⟨p, lg, sz⟩ := x; simp [h]
theorem durF_order {f : Nat} {l : List UInt8} {last T p lg sz : Nat} (hu : uD (l.drop (lead l)) = some (p, lg, sz)) (h : p ≤ last) : durF f l last T = none := by
  cases f with
  | zero => rfl
  | succ f => simp only [durF]; rw [hu]; simp [h]
theorem durF_zero {f : Nat} {l : List UInt8} {last T p lg sz : Nat} (hu : uD (l.drop (lead l)) = some (p, lg, sz)) (h : val (l.take (lead l)) = 0) (h2 : 0 < last ∨ l.drop (lead l + sz) ≠ []) : durF f l last T = none := by
  cases f with
  | zero => rfl
  | succ f =>
    simp only [durF]; rw [hu]
    simp only
    split
    · rfl
    · rw [if_pos ⟨h, h2⟩]
theorem durF_end {f : Nat} {l : List UInt8} {last T p lg sz : Nat} (hu : uD (l.drop (lead l)) = some (p, lg, sz)) (hw : wholeB (l.take (lead l)) = true) (hp : last < p) (h : val (l.take (lead l)) ≠ 0 ∨ last = 0) (h2 : l.drop (lead l + sz) = []) :
    durF (f + 1) l last T = some (T + val (l.take (lead l)) * lg) := by
  simp only [durF]; rw [hu]
  simp only
  rw [if_neg (by rw [hw]; simp; omega), if_neg (by rw [h2]; simp; omega), if_pos h2]
theorem durF_go {f : Nat} {l : List UInt8} {last T p lg sz : Nat} (hu : uD (l.drop (lead l)) = some (p, lg, sz)) (hw : wholeB (l.take (lead l)) = true) (hp : last < p) (h : val (l.take (lead l)) ≠ 0) (h2 : l.drop (lead l + sz) ≠ []) :
    durF (f + 1) l last T = durF f (l.drop (lead l + sz)) p (T + val (l.take (lead l)) * lg) := by
  simp only [durF]; rw [hu]
  simp only
  rw [if_neg (by rw [hw]; simp; omega), if_neg (by omega), if_neg h2]

/-- the nearest span -/
def nearM (n : Int) : Int := if n < 0 then 0 else if 1099511627776 < n then 1099511627776 else n
theorem nearM_bd (n : Int) : 0 ≤ nearM n ∧ nearM n ≤ 1099511627776 := by unfold nearM; split; omega; split <;> omega
theorem nearM_neg {n : Int} (h : n < 0) : nearM n = 0 := by unfold nearM; rw [if_pos h]
theorem nearM_big {n : Int} (h : 1099511627776 < n) : nearM n = 1099511627776 := by unfold nearM; rw [if_neg (by omega), if_pos h]
theorem nearM_in {n : Int} (h : 0 ≤ n) (h2 : n ≤ 1099511627776) : nearM n = n := by unfold nearM; rw [if_neg (by omega), if_neg (by omega)]

end Go.Proofs.Ytglihjdbbpohlaa.Pl
