/- Plain laws on thousandths; no program in sight. -/
import Derived.Test.YtglihjdbbpohlaaPlS
namespace Go.Proofs.Ytglihjdbbpohlaa.Pl

/-- the point, and the digits behind it -/
def frac (p : Nat) : List UInt8 :=
  if p % 1000 = 0 then [] else if p % 100 = 0 then [46, dgt (p / 100)] else if p % 10 = 0 then [46, dgt (p / 100), dgt (p / 10)] else [46, dgt (p / 100), dgt (p / 10), dgt p]
/-- the text of so many thousandths -/
def mtxt (n : Int) : List UInt8 := if n < 0 then [] else dec (n.toNat / 1000) ++ frac (n.toNat % 1000)
theorem mtxt_neg {n : Int} (h : n < 0) : mtxt n = [] := by unfold mtxt; rw [if_pos h]
theorem mtxt_nat (n : Nat) : mtxt n = dec (n / 1000) ++ frac (n % 1000) := by unfold mtxt; rw [if_neg (by omega), Int.toNat_natCast]
theorem frac_cases (p : Nat) (hp : p < 1000) :
    (p = 0 ∧ frac p = []) ∨ (p ≠ 0 ∧ p % 10 = 0 ∧ p / 10 % 10 = 0 ∧ p / 100 % 10 ≠ 0 ∧ frac p = [46, dgt (p / 100)]) ∨
    (p % 10 = 0 ∧ p / 10 % 10 ≠ 0 ∧ frac p = [46, dgt (p / 100), dgt (p / 10)]) ∨ (p % 10 ≠ 0 ∧ frac p = [46, dgt (p / 100), dgt (p / 10), dgt p]) := by
  unfold frac
  by_cases h1 : p % 1000 = 0
  · exact .inl ⟨by omega, if_pos h1⟩
  rw [if_neg h1]
  by_cases h2 : p % 100 = 0
  · rw [if_pos h2]; exact .inr (.inl ⟨by omega, by omega, by omega, by omega, rfl⟩)
  rw [if_neg h2]
  by_cases h3 : p % 10 = 0
  · rw [if_pos h3]; exact .inr (.inr (.inl ⟨h3, by omega, rfl⟩))
  rw [if_neg h3]; exact .inr (.inr (.inr ⟨h3, rfl⟩))
theorem bs_take (l : List UInt8) (k : Nat) : (bs l).extract 0 k = bs (l.take k) := by
  have h := Lib.extract_data (bs l) 0 k
  rw [← bs_of ((bs l).extract 0 k), h]; simp [bs_data]

end Go.Proofs.Ytglihjdbbpohlaa.Pl
