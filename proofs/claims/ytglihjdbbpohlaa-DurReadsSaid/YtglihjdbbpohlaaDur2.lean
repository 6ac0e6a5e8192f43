/- Contracts of the reckoning of spans. -/
import Derived.Test.YtglihjdbbpohlaaDur1
namespace Go.Proofs.Ytglihjdbbpohlaa.W
open Go.RowKit Go.Proofs.Ytglihjdbbpohlaa.Pl

theorem kNear (n : Int) (w : World) :
    Calls Try.prog 76 #[.int .i64 n] w fun e w' => e = .returned (.int .i64 (nearM n)) ∧ w = w' := by
  by_cases h : n < 0
  · have HR := Lib.hid (nearM_neg h)
    have h1 : max n 0 = 0 := by omega
    have h2 : min (0 : Int) 1099511627776 = 0 := by omega
    go_enter Try.func76, Try.ntmps76
    go_wp2
    go_ret
    exact ⟨ret_int HR.out.symm, rfl⟩
  · have h1 : max n 0 = n := by omega
    by_cases h3 : 1099511627776 < n
    · have HR := Lib.hid (nearM_big h3)
      have h2 : min n 1099511627776 = 1099511627776 := by omega
      go_enter Try.func76, Try.ntmps76
      go_wp2
      go_ret
      exact ⟨ret_int HR.out.symm, rfl⟩
    · have HR := Lib.hid (nearM_in (n := n) (by omega) (by omega))
      have h2 : min n 1099511627776 = n := by omega
      go_enter Try.func76, Try.ntmps76
      go_wp2
      go_ret
      exact ⟨ret_int HR.out.symm, rfl⟩

theorem kRefNear (n : Int) (w : World) :
    Calls Try.prog 57 #[.int .i64 n] w fun e w' => e = .returned (.int .i64 (nearM n)) ∧ w = w' := by
  by_cases h : n < 0
  · have HR := Lib.hid (nearM_neg h)
    go_enter Try.func57, Try.ntmps57
    go_wp2
    go_ret
    exact ⟨ret_int HR.out.symm, rfl⟩
  · by_cases h3 : 1099511627776 < n
    · have HR := Lib.hid (nearM_big h3)
      go_enter Try.func57, Try.ntmps57
      go_wp2
      go_ret
      exact ⟨ret_int HR.out.symm, rfl⟩
    · have HR := Lib.hid (nearM_in (n := n) (by omega) (by omega))
      go_enter Try.func57, Try.ntmps57
      go_wp2
      go_ret
      exact ⟨ret_int HR.out.symm, rfl⟩

theorem kLeast (a b : Int) (w : World) :
    Calls Try.prog 54 #[.int .i64 a, .int .i64 b] w fun e w' => e = .returned (.int .i64 (min a b)) ∧ w = w' := by
  go_enter Try.func54, Try.ntmps54
  go_wp2
  all_goals
    go_ret
    exact ⟨ret_int (by omega), rfl⟩
theorem kMost (a b : Int) (w : World) :
    Calls Try.prog 55 #[.int .i64 a, .int .i64 b] w fun e w' => e = .returned (.int .i64 (max a b)) ∧ w = w' := by
  go_enter Try.func55, Try.ntmps55
  go_wp2
  all_goals
    go_ret
    exact ⟨ret_int (by omega), rfl⟩
theorem kAdd (a b : Int) (w : World) :
    Calls Try.prog 56 #[.int .i64 a, .int .i64 b] w fun e w' => e = .returned (.int .i64 (nearM (nearM a + nearM b))) ∧ w = w' := by
  have ha := nearM_bd a
  have hb := nearM_bd b
  obtain ⟨ha1, ha2⟩ := ha
  obtain ⟨hb1, hb2⟩ := hb
  have K1 := Lib.hid (fun w1 => kNear a w1)
  have K2 := Lib.hid (fun w1 => kNear b w1)
  generalize nearM a = x at *
  generalize nearM b = y at *
  go_enter Try.func56, Try.ntmps56
  go_wp2_with fail
  refine (K1.out _).mono ?_
  rintro e w1 ⟨rfl, rfl⟩
  go_wp2_with fail
  refine (K2.out _).mono ?_
  rintro e w1 ⟨rfl, rfl⟩
  go_wp2_with fail
  refine (kNear _ _).mono ?_
  rintro e w1 ⟨rfl, rfl⟩
  go_wp2_with fail
  go_ret
  exact ⟨rfl, rfl⟩

/-- so many times as long -/
def timesM (a n : Int) : Int := if n ≤ 0 ∨ nearM a = 0 then 0 else if 1099511627776 / nearM a < n then 1099511627776 else nearM a * n

theorem kTimes (a n : Int) (w : World) :
    Calls Try.prog 58 #[.int .i64 a, .int .i64 n] w fun e w' => e = .returned (.int .i64 (timesM a n)) ∧ w = w' := by
  have ha := nearM_bd a
  obtain ⟨ha1, ha2⟩ := ha
  have K1 := Lib.hid (fun w1 => kNear a w1)
  obtain ⟨v, hv⟩ : ∃ v, timesM a n = v := ⟨_, rfl⟩
  rw [hv]
  unfold timesM at hv
  generalize nearM a = x at *
  by_cases h0 : n ≤ 0 ∨ x = 0
  · rw [if_pos h0] at hv
    subst hv
    have h0' : n ≤ 0 ∨ (0 < n ∧ (x == 0) = true) := by
      rcases h0 with h | h
      · exact .inl h
      · by_cases hn : n ≤ 0
        · exact .inl hn
        · exact .inr ⟨by omega, beqT h⟩
    clear h0
    rcases h0' with h0 | ⟨h0, h1⟩
    all_goals
      go_enter Try.func58, Try.ntmps58
      go_wp2_with fail
      refine (K1.out _).mono ?_
      rintro e w1 ⟨rfl, rfl⟩
      go_wp2_with fail
      go_ret
      exact ⟨rfl, rfl⟩
  · rw [if_neg h0] at hv
    have hn : 0 < n := by omega
    have hx : 1 ≤ x := by omega
    have hx0 : (x == 0) = false := beqF (by omega)
    clear h0
    by_cases h1 : 1099511627776 / x < n
    · rw [if_pos h1] at hv
      subst hv
      go_enter Try.func58, Try.ntmps58
      go_wp2_with fail
      refine (K1.out _).mono ?_
      rintro e w1 ⟨rfl, rfl⟩
      go_wp2_with fail
      go_ret
      exact ⟨rfl, rfl⟩
    · rw [if_neg h1] at hv
      have hm1 : 0 ≤ x * n := Int.mul_nonneg (by omega) (by omega)
      have hm2 : x * n ≤ 1099511627776 := by
        have : n ≤ 1099511627776 / x := by omega
        calc x * n ≤ x * (1099511627776 / x) := Int.mul_le_mul_of_nonneg_left this (by omega)
          _ ≤ 1099511627776 := Int.mul_ediv_self_le (by omega)
      have HV := Lib.hid hv
      clear hv
      go_enter Try.func58, Try.ntmps58
      go_wp2_with fail
      refine (K1.out _).mono ?_
      rintro e w1 ⟨rfl, rfl⟩
      go_wp2_with fail
      go_ret
      exact ⟨ret_int HV.out, rfl⟩

/-- as the reference reckons it -/
theorem times_ref (a n : Int) : timesM a n = if nearM a = 0 ∨ nearM n = 0 then 0 else if 1099511627776 / nearM a < nearM n then 1099511627776 else nearM a * nearM n := by
  have ha := nearM_bd a
  unfold timesM
  by_cases h0 : nearM a = 0
  · simp [h0]
  · by_cases hn : n ≤ 0
    · have : nearM n = 0 := by unfold nearM; split; rfl; split <;> omega
      rw [if_pos (.inl hn), if_pos (.inr this)]
    · have hn' : nearM n ≠ 0 := by unfold nearM; split; omega; split <;> omega
      have hq1 : ¬ (n ≤ 0 ∨ nearM a = 0) := by omega
      have hq2 : ¬ (nearM a = 0 ∨ nearM n = 0) := by omega
      rw [if_neg hq1, if_neg hq2]
      by_cases hb : 1099511627776 < n
      · rw [nearM_big hb]
        have h1 : 1099511627776 / nearM a ≤ 1099511627776 := Int.ediv_le_self _ (by omega)
        have hq3 : 1099511627776 / nearM a < n := by omega
        rw [if_pos hq3]
        by_cases h2 : 1099511627776 / nearM a < 1099511627776
        · rw [if_pos h2]
        · rw [if_neg h2]
          have h3 : 1099511627776 / nearM a = 1099511627776 := by omega
          have h4 : nearM a * (1099511627776 / nearM a) ≤ 1099511627776 := Int.mul_ediv_self_le (by omega)
          rw [h3] at h4
          have h5 : nearM a = 1 := by omega
          rw [h5]; rfl
      · rw [nearM_in (n := n) (by omega) (by omega)]

theorem kRefTimes (a n : Int) (w : World) :
    Calls Try.prog 59 #[.int .i64 a, .int .i64 n] w fun e w' => e = .returned (.int .i64 (timesM a n)) ∧ w = w' := by
  have ha := nearM_bd a
  obtain ⟨ha1, ha2⟩ := ha
  have hb := nearM_bd n
  obtain ⟨hb1, hb2⟩ := hb
  have K1 := Lib.hid (fun w1 => kRefNear a w1)
  have K2 := Lib.hid (fun w1 => kRefNear n w1)
  obtain ⟨v, hv⟩ : ∃ v, timesM a n = v := ⟨_, rfl⟩
  rw [hv]
  rw [times_ref] at hv
  generalize nearM a = x at *
  generalize nearM n = y at *
  by_cases h0 : x = 0 ∨ y = 0
  · rw [if_pos h0] at hv
    subst hv
    have h0' : (x == 0) = true ∨ ((x == 0) = false ∧ (y == 0) = true) := by
      by_cases hx : x = 0
      · exact .inl (beqT hx)
      · exact .inr ⟨beqF hx, beqT (by omega)⟩
    clear h0
    rcases h0' with h0 | ⟨h0, h1⟩
    all_goals
      go_enter Try.func59, Try.ntmps59
      go_wp2_with fail
      refine (K1.out _).mono ?_
      rintro e w1 ⟨rfl, rfl⟩
      go_wp2_with fail
      refine (K2.out _).mono ?_
      rintro e w1 ⟨rfl, rfl⟩
      go_wp2_with fail
      go_ret
      exact ⟨rfl, rfl⟩
  · rw [if_neg h0] at hv
    have hn : 0 < y := by omega
    have hx : 1 ≤ x := by omega
    have hx0 : (x == 0) = false := beqF (by omega)
    have hy0 : (y == 0) = false := beqF (by omega)
    clear h0
    by_cases h1 : 1099511627776 / x < y
    · rw [if_pos h1] at hv
      subst hv
      go_enter Try.func59, Try.ntmps59
      go_wp2_with fail
      refine (K1.out _).mono ?_
      rintro e w1 ⟨rfl, rfl⟩
      go_wp2_with fail
      refine (K2.out _).mono ?_
      rintro e w1 ⟨rfl, rfl⟩
      go_wp2_with fail
      go_ret
      exact ⟨rfl, rfl⟩
    · rw [if_neg h1] at hv
      have hm1 : 0 ≤ x * y := Int.mul_nonneg (by omega) (by omega)
      have hm2 : x * y ≤ 1099511627776 := by
        have : y ≤ 1099511627776 / x := by omega
        calc x * y ≤ x * (1099511627776 / x) := Int.mul_le_mul_of_nonneg_left this (by omega)
          _ ≤ 1099511627776 := Int.mul_ediv_self_le (by omega)
      have HV := Lib.hid hv
      clear hv
      go_enter Try.func59, Try.ntmps59
      go_wp2_with fail
      refine (K1.out _).mono ?_
      rintro e w1 ⟨rfl, rfl⟩
      go_wp2_with fail
      refine (K2.out _).mono ?_
      rintro e w1 ⟨rfl, rfl⟩
      go_wp2_with fail
      go_ret
      exact ⟨ret_int HV.out, rfl⟩
end Go.Proofs.Ytglihjdbbpohlaa.W
