/- Plain sums. -/
namespace Go.Proofs.Ytglihjdbbpohlaa.Pl
/-- the sum of the first k -/
def su (f : Nat → Int) : Nat → Int
  | 0 => 0
  | k + 1 => su f k + f k
theorem su_bd {f : Nat → Int} {M : Int} {n : Nat} (h : ∀ i, i < n → 0 ≤ f i ∧ f i ≤ M) : ∀ k, k ≤ n → 0 ≤ su f k ∧ su f k ≤ (k : Int) * M
  | 0, _ => ⟨Int.le_refl _, by simp [su]⟩
  | k + 1, hk => by
    have ih := su_bd h k (by omega)
    have := h k (by omega)
    show 0 ≤ su f k + f k ∧ su f k + f k ≤ ((k + 1 : Nat) : Int) * M
    rw [show ((k + 1 : Nat) : Int) * M = (k : Int) * M + M by rw [Int.natCast_add, Int.add_mul]; simp]
    omega
theorem su_le {f : Nat → Int} {M : Int} {n : Nat} (N : Nat) (h : ∀ i, i < n → 0 ≤ f i ∧ f i ≤ M) (hn : n ≤ N) (hM : 0 ≤ M) {k : Nat} (hk : k ≤ n) : 0 ≤ su f k ∧ su f k ≤ (N : Int) * M := by
  have := su_bd h k hk
  have h2 : (k : Int) * M ≤ (N : Int) * M := Int.mul_le_mul_of_nonneg_right (by omega) hM
  omega
theorem su_congr {f g : Nat → Int} : ∀ {k : Nat}, (∀ i, i < k → f i = g i) → su f k = su g k
  | 0, _ => rfl
  | k + 1, h => by
    show su f k + f k = su g k + g k
    rw [su_congr (k := k) (fun i hi => h i (by omega)), h k (by omega)]
end Go.Proofs.Ytglihjdbbpohlaa.Pl
