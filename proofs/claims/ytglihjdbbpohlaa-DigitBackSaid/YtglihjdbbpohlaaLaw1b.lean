/- The walk of DigitBack. -/
import Derived.Test.YtglihjdbbpohlaaLaw1
namespace Go.Proofs.Ytglihjdbbpohlaa.W
open Go.RowKit Go.Proofs.Ytglihjdbbpohlaa.Pl

theorem mlV_bd (h t : List UInt8) : 0 ≤ mlV h t ∧ mlV h t ≤ 9007199254740992 := by
  have hb := cntV_bd h 9007199254740 (by omega)
  unfold mlV
  split
  · omega
  · split
    · split <;> omega
    · omega
theorem milV_bd (l : List UInt8) : 0 ≤ milV l ∧ milV l ≤ 9007199254740992 := by
  unfold milV
  split
  · split
    · omega
    · exact mlV_bd _ _
  · exact mlV_bd _ _
theorem prsV_bd (l : List UInt8) : -9007199254740992 ≤ prsV l ∧ prsV l ≤ 9007199254740992 := by
  unfold prsV
  split
  · have := cntV_bd l.tail 9007199254740992 (by omega); omega
  · have := cntV_bd l 9007199254740992 (by omega); omega
theorem mtxt_len {n : Int} (h2 : n ≤ 9223372036854775807) : (mtxt n).length ≤ 24 := by
  by_cases h : n < 0
  · rw [mtxt_neg h]; decide
  · obtain ⟨m, rfl⟩ : ∃ m : Nat, n = (m : Int) := ⟨n.toNat, by omega⟩
    rw [mtxt_nat, List.length_append]
    have := dec_len_le 20 (m / 1000) (by omega) (by decide)
    have : (frac (m % 1000)).length ≤ 4 := by
      rcases frac_cases (m % 1000) (by omega) with ⟨_, h⟩ | ⟨_, _, _, _, h⟩ | ⟨_, _, h⟩ | ⟨_, h⟩ <;> rw [h] <;> simp
    omega
theorem kParseBs (l : List UInt8) (w : World) (hs : l.length ≤ 2000) (a b : Int) (ha : prsV l = a) (hb : prsE l = b) :
    Calls Try.prog 20 #[.string (bs l)] w fun e w' => e = .returned (.tuple #[.int .i64 a, .int .i64 b]) ∧ w = w' := by
  have := kParse (bs l) w (by rw [bs_size]; omega)
  rw [bs_data, ha, hb] at this
  exact this
theorem kMilliBs (l : List UInt8) (w : World) (hs : l.length ≤ 2000) (a b : Int) (ha : milV l = a) (hb : milE l = b) :
    Calls Try.prog 22 #[.string (bs l)] w fun e w' => e = .returned (.tuple #[.int .i64 a, .int .i64 b]) ∧ ∃ n, w' = w.drewN n := by
  have := kMilli (bs l) w (by rw [bs_size]; omega)
  rw [bs_data, ha, hb] at this
  exact this

set_option maxHeartbeats 4000000 in
theorem kDigitBack_rest (n : Int) (s : ByteArray) (w : World) (hs : s.size ≤ 4000) (h1 : -9223372036854775808 ≤ n) (h2 : n ≤ 9223372036854775807) :
    Calls Try.prog 11 #[.int .i64 n, .string s] w fun e w' => e = .returned (.bool true) ∧ Below w.heap.size w w' := by
  have hb0 := Below.refl w.heap.size w
  have hB0 : w.heap.size ≤ w.heap.size := Nat.le_refl _
  have C1 : ∃ a b, Hid (∀ w1, Calls Try.prog 20 #[.string (bs (txt n))] w1 fun e w' => e = .returned (.tuple #[.int .i64 a, .int .i64 b]) ∧ w1 = w') ∧
      ((-9007199254740992 ≤ n ∧ n ≤ 9007199254740992 ∧ (a != n) = false ∧ (b != 0) = false) ∨ ((n < -9007199254740992 ∨ 9007199254740992 < n) ∧ (b != 9) = false)) := by
    refine ⟨_, _, Lib.hid fun w1 => kParseBs (txt n) w1 (Nat.le_trans (txt_len h1 h2) (by omega)) _ _ rfl rfl, ?_⟩
    by_cases hn : -9007199254740992 ≤ n ∧ n ≤ 9007199254740992
    · have := prs_near hn.1 hn.2
      exact .inl ⟨hn.1, hn.2, bneF' this.2, bneF' this.1⟩
    · have hf : n < -9007199254740992 ∨ 9007199254740992 < n := by omega
      exact .inr ⟨hf, bneF' (prs_far hf)⟩
  have C2 : ∃ a b, Hid (∀ w1, Calls Try.prog 22 #[.string (bs (mtxt n))] w1 fun e w' => e = .returned (.tuple #[.int .i64 a, .int .i64 b]) ∧ ∃ n, w' = w1.drewN n) ∧
      (n < 0 ∨ 9007199254740992 < n ∨ (0 ≤ n ∧ n ≤ 9007199254740992 ∧ (a != n) = false ∧ (b != 0) = false)) := by
    refine ⟨_, _, Lib.hid fun w1 => kMilliBs (mtxt n) w1 (Nat.le_trans (mtxt_len h2) (by omega)) _ _ rfl rfl, ?_⟩
    by_cases h0 : n < 0
    · exact .inl h0
    · by_cases h3 : 9007199254740992 < n
      · exact .inr (.inl h3)
      · have := mil_back (n := n) (by omega) (by omega)
        exact .inr (.inr ⟨by omega, by omega, bneF' this.2, bneF' this.1⟩)
  have C3 : ∃ a b, Hid (∀ w1, Calls Try.prog 20 #[.string s] w1 fun e w' => e = .returned (.tuple #[.int .i64 a, .int .i64 b]) ∧ w1 = w') ∧ Hid (∀ w1, Calls Try.prog 39 #[.int .i64 a] w1 fun e w' => e = .returned (.string (bs (txt a))) ∧ Below w1.heap.size w1 w') ∧
      ((b == 0) = false ∨ ((b == 0) = true ∧ ((bs (txt a)).toList == s.toList) = true)) := by
    have hb := prsV_bd s.data.toList
    refine ⟨_, _, Lib.hid fun w1 => kParse s w1 (by omega), Lib.hid fun w1 => kText _ w1 (by omega) (by omega), ?_⟩
    by_cases h0 : prsE s.data.toList = 0
    · refine .inr ⟨beqT h0, ?_⟩
      rw [prs_back h0, bs_of]; simp
    · exact .inl (beqF h0)
  have C4 : ∃ a b, Hid (∀ w1, Calls Try.prog 22 #[.string s] w1 fun e w' => e = .returned (.tuple #[.int .i64 a, .int .i64 b]) ∧ ∃ n, w' = w1.drewN n) ∧ Hid (∀ w1, Calls Try.prog 41 #[.int .i64 a] w1 fun e w' => e = .returned (.string (bs (mtxt a))) ∧ Below w1.heap.size w1 w') ∧
      ((b == 0) = false ∨ ((b == 0) = true ∧ ((bs (mtxt a)).toList == s.toList) = true)) := by
    have hb := milV_bd s.data.toList
    refine ⟨_, _, Lib.hid fun w1 => kMilli s w1 (by omega), Lib.hid fun w1 => kMilliText _ w1 (by omega), ?_⟩
    by_cases h0 : milE s.data.toList = 0
    · refine .inr ⟨beqT h0, ?_⟩
      rw [mil_read h0, bs_of]; simp
    · exact .inl (beqF h0)
  obtain ⟨a1, x1, K1, c1⟩ := C1
  obtain ⟨a2, x2, K2, c2⟩ := C2
  obtain ⟨a3, x3, K3, K3t, c3⟩ := C3
  obtain ⟨a4, x4, K4, K4t, c4⟩ := C4
  generalize txt a3 = t3 at *
  generalize mtxt a4 = t4 at *
  rcases c1 with ⟨n1, n2, e1, e2⟩ | ⟨n1 | n1, e1⟩
  all_goals
    rcases c2 with m1 | m1 | ⟨m1, m2, m3, m4⟩
    all_goals
      first
        | (exfalso; omega)
        | (rcases c3 with g1 | ⟨g1, g2⟩
           all_goals
             rcases c4 with k1 | ⟨k1, k2⟩
             all_goals
               go_enter Try.func11, Try.ntmps11
               go_wp2_with fail
               refine (rl (by assumption) (by assumption) (kText n _ h1 h2)).mono ?_
               rintro e w1 ⟨rfl, hb1, hB1⟩
               go_wp2_with fail
               refine (K1.out _).mono ?_
               rintro e w2 ⟨rfl, rfl⟩
               go_wp2_with fail
               refine (rl (by assumption) (by assumption) (kMilliText n _ h2)).mono ?_
               rintro e w3 ⟨rfl, hb3, hB3⟩
               go_wp2_with fail
               refine (rlD (by assumption) (by assumption) (K2.out _)).mono ?_
               rintro e w4 ⟨rfl, hb4, hB4⟩
               go_wp2_with fail
               refine (K3.out _).mono ?_
               rintro e w2 ⟨rfl, rfl⟩
               go_wp2_with fail
               first
                 | (refine (rl (by assumption) (by assumption) (K3t.out _)).mono ?_
                    rintro e w5 ⟨rfl, hb5, hB5⟩
                    go_wp2_with fail)
                 | skip
               refine (rlD (by assumption) (by assumption) (K4.out _)).mono ?_
               rintro e w6 ⟨rfl, hb6, hB6⟩
               go_wp2_with fail
               first
                 | (refine (rl (by assumption) (by assumption) (K4t.out _)).mono ?_
                    rintro e w7 ⟨rfl, hb7, hB7⟩
                    go_wp2_with fail)
                 | skip
               refine (rl (by assumption) (by assumption) (kAwake1 _)).mono ?_
               rintro e w8 ⟨rfl, hb8, hB8⟩
               go_wp2_with fail
               go_ret
               exact ⟨rfl, by assumption⟩)

theorem kDigitBack (n : Int) (s : ByteArray) (w : World) (h1 : -9223372036854775808 ≤ n) (h2 : n ≤ 9223372036854775807) (hs : s.size ≤ maxLen) :
    Calls Try.prog 11 #[.int .i64 n, .string s] w fun e w' => e = .returned (.bool true) ∧ Below w.heap.size w w' := by
  unfold maxLen at hs
  by_cases h : s.size ≤ 4000
  · exact kDigitBack_rest n s w h h1 h2
  · have hb0 := Below.refl w.heap.size w
    have hB0 : w.heap.size ≤ w.heap.size := Nat.le_refl _
    go_enter Try.func11, Try.ntmps11
    go_wp2_with fail
    refine (rl (by assumption) (by assumption) (kAwake1 _)).mono ?_
    rintro e w3 ⟨rfl, hb3, hB3⟩
    go_wp2_with fail
    go_ret
    exact ⟨rfl, by assumption⟩
end Go.Proofs.Ytglihjdbbpohlaa.W
